/- Walks: weight, Light, names, few of lyce -/
import Derived.Test.YtclkffdkahljeaaGreatDoorQE
import Derived.Test.YtclkffdkahljeaaGreatDoorKG
set_option linter.all false
open Nat renaming reduceEqDiff → zE,reduceBEq → zB,reduceAdd → zA,reduceMul → zM,reduceLeDiff → zL
namespace Go.Proofs.Tryz
open Go Go.Iv
set_option maxRecDepth 4000
variable (gl:Nat->Option IV)
mutual
theorem vJn:∀t:Tm,t.size<=wTm t
 | .mk _ n us=>by have:=xX5 us;simp only[wTm,Tm.size];omega
theorem xX5:∀l:List Tm,yQh l<=wTms l
 | []=>Nat.le_refl _
 | a::l=>by have:=vJn a;have:=xX5 l;simp only[wTms,yQh];omega
end
mutual
theorem vJo:∀f:Fm,f.size<=wFm f
 | .mk _ n us sub=>by have:=xX5 us;have:=yWg sub;simp only[wFm,Fm.size];omega
theorem yWg:∀l:List Fm,yQe l<=wFms l
 | []=>Nat.le_refl _
 | a::l=>by have:=vJo a;have:=yWg l;simp only[wFms,yQe];omega
end
theorem xJq {s:Sq}(h:wFms s.l+wFms s.r<=300):yXx s:=by
 have:=yWg s.l;have:=yWg s.r;exact⟨λf A=>by have:=yW1 A;omega,λf A=>by have:=yW1 A;omega⟩
theorem xZv:∀ {l:List Fm}{f:Fm},f∈l->wFm f<=wFms l
 | a::l,f,h=>by
  simp only[wFms];rcases List.mem_cons.1 h with rfl|h
  ·omega
  ·have:=xZv h;omega
theorem zVm:∀l:List Tm,l.length<=wTms l
 | []=>Nat.le_refl _
 | .mk _ n us::l=>by have:=zVm l;simp only[wTms,wTm,List.length_cons];omega
mutual
theorem wZ0:∀(f:Fm),∀z∈yZf f,wFm z<=wFm f
 | .mk o n us sub=>λz A=>by
  rw[yZf] at A;rcases List.mem_cons.1 A with rfl|A
  ·exact Nat.le_refl _
  ·have:=xV9 sub z A;simp only[wFm];omega
theorem xV9:∀(l:List Fm),∀z∈yQz l,wFm z<=wFms l
 | []=>λz A=>by rw[yQz] at A;cases A
 | a::l=>λz A=>by
  rw[yQz] at A;simp only[wFms];rcases List.mem_append.1 A with A|A
  ·have:=wZ0 a z A;omega
  ·have:=xV9 l z A;omega
end
mutual
theorem zZ0:∀(f:Fm),(yZf f).length<=wFm f
 | .mk o n us sub=>by have:=yU2 sub;rw[yZf,List.length_cons,wFm];omega
theorem yU2:∀(l:List Fm),(yQz l).length<=wFms l
 | []=>by rw[yQz];exact Nat.zero_le _
 | a::l=>by have:=zZ0 a;have:=yU2 l;rw[yQz,lLa,wFms];omega
end
theorem wVl {f:Fm}(h:wFm f<=300){o:Nat}{n:ByteArray}{us:List Tm}{sub:List Fm}(A:Fm.mk o n us sub∈yZf f):n.size<=1000000000/\us.length<=1000000:=by
 have h1:=wZ0 f _ A;have h2:=zVm us;simp only[wFm] at h1;omega
mutual
def wtF:Fm->Nat
 | .mk o _ _ sub=>if o=1\/o=2 then 0 else if o=7 then 3+wtFs sub else 1+wtFs sub
def wtFs:List Fm->Nat
 | []=>0
 | a::l=>wtF a+wtFs l
end
theorem yKq:∀l m:List Fm,wtFs (l++m)=wtFs l+wtFs m
 | [],m=>by simp[wtFs]
 | a::l,m=>by simp only[List.cons_append,wtFs,yKq l m];omega
theorem xUe {l:List Fm}{k:Nat}{a:Fm}(h:l[k]?=some a):wtFs (l.take (k+1))=wtFs (l.take k)+wtF a:=by
 rw[yQ7 h,yKq];simp[wtFs]
mutual
theorem wYf:∀f:Fm,wtF f<=3*f.size
 | .mk o n us sub=>by
  have:=zQo sub;simp only[wtF,Fm.size];split
  ·omega
  ·split<;>omega
theorem zQo:∀l:List Fm,wtFs l<=3*yQe l
 | []=>by simp[wtFs]
 | a::l=>by have:=wYf a;have:=zQo l;simp only[wtFs,yQe];omega
end
def wtC (us:List Fm):Prop:=∀(D:Tag) (A:List IV) (_:okEs D 4) (_:IsFms us A) (_:yQe us<=1000000) (st:ISt),
 ICall prog gl 83 [.sl D A] st (λr st'=>r=.raw (.int .i64 (wtFs us:Int))/\st'=st)
theorem xZu (us:List Fm)(IH:∀o n l m,Fm.mk o n l m∈us->wtC gl m):wtC gl us:=by
 intro tg xs ht hx ak st;refine iI func83 ?_;refine LoopC.ctr us.length (λk fr st' ds=>fr 3=.iv (.raw (.int .i64 (wtFs (us.take k):Int)))/\fr 0=.iv (.sl tg xs)/\fr 4=.iv (.raw (.int .i64 k))/\st'=st/\ds=[]) ?_ ?_ ?_
 ·simp only[go_sem,zE,reduceCtorEq];simp[wtFs]
 ·rintro k fr ai _ A ⟨f3,f0,f4,rfl,rfl⟩;obtain⟨a,ha⟩:=yQ1 A;obtain⟨x,J,aj⟩:=hx.get ha;have U:=yW1 (lMg ha);have E:=xUe ha;have au:wtFs us=wtFs (us.take k)+wtFs (us.drop k):=by rw[<- yKq,List.take_append_drop]
  have aq:=zQo us;have av:=wYf a;obtain⟨o,n,l,m⟩:=a;have D:=λtg xs h1 h2 st=>IH o n l m (lMg ha) tg xs h1 h2 (by simp only[Fm.size] at U;omega) st;obtain⟨tx,cx,ty,cy,rfl,ay,aw,aA,O,aa⟩:=aj.mk;have am:us.length<=1000000:=Nat.le_trans (yZk us) ak;by_cases h1:o=1
  ·subst h1;simp only[go_sem,zE,reduceCtorEq,f0,f3,f4,hx.len,lt_i A,yQ3 ht,iNn,J,fits,show decide (((1:Nat):Int)=1)=true from rfl,yQc A (show us.length<=281474976710656 by omega)];intro _;rw[E];simp[wtF]
  have d1:decide ((o:Int)=1)=false:=dEf (by omega);by_cases h2:o=2
  ·subst h2;simp only[go_sem,zE,reduceCtorEq,f0,f3,f4,hx.len,lt_i A,yQ3 ht,iNn,J,fits,d1,show decide (((2:Nat):Int)=2)=true from rfl,yQc A (show us.length<=281474976710656 by omega)];intro _;rw[E];simp[wtF]
  have d2:decide ((o:Int)=2)=false:=dEf (by omega);have az:wtFs m<=3*1000000:=Nat.le_trans (zQo m) (by simp only[Fm.size] at U;omega);have ax:wtFs (us.take k)<=3*1000000:=by omega
  by_cases h7:o=7
  ·subst h7;simp only[go_sem,zE,zA,reduceCtorEq,f0,f3,f4,hx.len,lt_i A,yQ3 ht,iNn,J,fits,d1,d2,show decide (((7:Nat):Int)=7)=true from rfl];intro _;refine (D ty cy O aa _).mono ?_;rintro _ ah ⟨rfl,rfl⟩;have w4:IntKind.i64.wrap ((3:Int)+(wtFs m:Int))=((3+wtFs m:Nat):Int):=by rw[w64]<;>omega
   have w5:IntKind.i64.wrap ((wtFs (us.take k):Int)+((3+wtFs m:Nat):Int))=((wtFs (us.take k)+(3+wtFs m):Nat):Int):=by rw[w64]<;>omega
   simp only[go_sem,zE,reduceCtorEq,f0,f4,w4,w5,yQc A (show us.length<=281474976710656 by omega)];rw[E];simp[wtF]
  ·have d7:decide ((o:Int)=7)=false:=dEf (by omega);simp only[go_sem,zE,zA,reduceCtorEq,f0,f3,f4,hx.len,lt_i A,yQ3 ht,iNn,J,fits,d1,d2,d7];intro _;refine (D ty cy O aa _).mono ?_;rintro _ ah ⟨rfl,rfl⟩;have w4:IntKind.i64.wrap ((1:Int)+(wtFs m:Int))=((1+wtFs m:Nat):Int):=by rw[w64]<;>omega
   have w5:IntKind.i64.wrap ((wtFs (us.take k):Int)+((1+wtFs m:Nat):Int))=((wtFs (us.take k)+(1+wtFs m):Nat):Int):=by rw[w64]<;>omega
   simp only[go_sem,zE,reduceCtorEq,f0,f4,w4,w5,yQc A (show us.length<=281474976710656 by omega)];rw[E];simp[wtF,h1,h2,h7]
 ·rintro fr ai _ ⟨f3,f0,f4,rfl,rfl⟩;rw[lTl] at f3;simp only[go_sem,zE,reduceCtorEq,f0,f3,f4,hx.len,yQi (nLi _)];intro _;exact yQ0 ⟨rfl,rfl⟩
theorem zVl:∀(k:Nat)(us:List Fm),SizeOf.sizeOf us<k->wtC gl us
 | 0,f,h=>by omega
 | k+1,us,h=>xZu gl us (λo n l m A=>zVl k m (by
   have:=lSm A;simp at this;omega))
theorem xKh (us:List Fm):wtC gl us:=zVl gl _ us (Nat.lt_succ_self _)
noncomputable def yYn (s:Sq):Bool:=decide (wFms s.l+wFms s.r<=300)&&decide (wtFs s.l+wtFs s.r<=8)
theorem vZn (s:Sq)(x:IV)(hx:IsSq s x)(O:wFms s.l<=1099511627776/\wFms s.r<=1099511627776)(st:ISt):ICall prog gl 47 [x] st (λr st'=>r=.raw (.bool (yYn s))/\st'=st):=by
 have hF:=λst=>kQi gl s x hx O st;obtain⟨t1,D,t2,A,rfl,e1,i1,U,i2⟩:=hx;refine ICall.intro (c:=cf prog gl [] [(1,[0,1,2,3,4,6,7,5,8,9,10,11,12])]) func47 rfl (by show _<=15;simp) (by kernel_rfl) ?_;simp only[go_sem,zE,zA,zL];refine (hF _).mono ?_;rintro _ st ⟨rfl,rfl⟩;by_cases h:wFms s.l+wFms s.r<=300
 ·have h1:=yWg s.l;have h2:=yWg s.r;have J:=zQo s.l;have E:=zQo s.r;simp only[go_sem,zE,zA,dEt h];refine (xKh gl s.l t1 D e1 i1 (by omega) _).mono ?_;rintro _ st ⟨rfl,rfl⟩;simp only[go_sem,zE,zA];refine (xKh gl s.r t2 A U i2 (by omega) _).mono ?_;rintro _ st ⟨rfl,rfl⟩;have w:IntKind.i64.wrap ((wtFs s.l:Int)+(wtFs s.r:Int))=((wtFs s.l+wtFs s.r:Nat):Int):=by rw[w64]<;>omega
  have hd:decide (((wtFs s.l+wtFs s.r:Nat):Int)<=8)=decide (wtFs s.l+wtFs s.r<=8):=by rw[decide_eq_decide];omega
  simp only[go_sem,zE,w,hd];exact yQ0 ⟨by unfold yYn;rw[dEt h];rfl,rfl⟩
 ·simp only[go_sem,zE,dEf h];exact yQ0 ⟨by unfold yYn;rw[dEf h];rfl,rfl⟩
def atB (l:List Fm)(n:ByteArray):Prop:=∃f∈l,∃k,symIn (yZf f) n k
theorem wJm {l m:List Fm}{n:ByteArray}:atB (l++m) n↔atB l n\/atB m n:=by
 unfold atB;constructor
 ·rintro⟨f,A,h⟩;exact (List.mem_append.1 A).imp (λh1=>⟨f,h1,h⟩) λh1=>⟨f,h1,h⟩
 ·rintro (⟨f,A,h⟩|⟨f,A,h⟩)
  ·exact⟨f,List.mem_append_left _ A,h⟩
  ·exact⟨f,List.mem_append_right _ A,h⟩
def nmF:Fm->ByteArray
 | .mk _ n _ _=>n
theorem wGu {n:ByteArray}:∀ {l:List Fm},atB l n->n∈(yQz l).map nmF
 | [],⟨f,A,_⟩=>by cases A
 | a::l,⟨f,A,k,us,sub,h1,h2⟩=>by
  rw[yQz,List.map_append];rcases List.mem_cons.1 A with rfl|A
  ·exact List.mem_append_left _ (List.mem_map.2 ⟨_,h1,rfl⟩)
  ·exact List.mem_append_right _ (wGu ⟨f,A,k,us,sub,h1,h2⟩)
def nmsI (l:List ByteArray):List IV:=l.map λn=>.raw (.string n)
theorem yWo (l:List ByteArray):(nmsI l).length=l.length:=List.length_map _
theorem wVq {l:List ByteArray}{k:Nat}{n:ByteArray}(h:l[k]?=some n):(nmsI l)[k]?=some (.raw (.string n)):=by unfold nmsI;rw[List.getElem?_map,h];rfl
theorem wVr (l:List ByteArray)(n:ByteArray):nmsI l++[.raw (.string n)]=nmsI (l++[n]):=by simp[nmsI]
def NmS (P:ByteArray->Prop)(st st':ISt)(v:SV):Prop:=∃t l,v=.iv (.sl t (nmsI l))/\own st' t l.length 1 st/\subSt st st'/\l.Nodup/\∀n,n∈l↔P n
theorem NmS.iff {P Q:ByteArray->Prop}{st st':ISt}{v:SV}(h:NmS P st st' v)(k:∀n,P n↔Q n):NmS Q st st' v:=by
 obtain⟨t,l,h1,h2,E,D,A⟩:=h;exact⟨t,l,h1,h2,E,D,λn=>(A n).trans (k n)⟩
def symI (n:ByteArray)(k:Nat):IV:=.agg [.raw (.string n),.raw (.int .i64 (k:Int))]
theorem vQ8 (s:Sq)(x:IV)(hx:IsSq s x)(hw:wFms s.l+wFms s.r<=300)(st:ISt):ICall prog gl 48 [x] st (λr st'=>(∃t l,r=.sl t (nmsI l)/\okEs t 1/\l.Nodup/\∀n,n∈l↔atB (s.l++s.r) n)/\st'=st):=by
 have hP:=λf x hx A st=>xZn gl f x hx (Nat.le_trans (zZ0 f) (Nat.le_trans A (by decide))) (λo n us sub hz=>wVl A hz) st;have hA:((yQz (s.l++s.r)).map nmF).length<=300:=by
  rw[List.length_map];have:=yU2 (s.l++s.r);rw[yWf] at this;omega
 obtain⟨t1,x1,t2,x2,rfl,e1,i1,e2,i2⟩:=hx;have ag:∀k,k<2->∃us tg xs,([s.l,s.r]:List (List Fm))[k]?=some us/\([.sl t1 x1,.sl t2 x2]:List IV)[k]?=some (.sl tg xs)/\okEs tg 4/\IsFms us xs/\wFms us<=300/\∀f∈us,f∈s.l++s.r:=λk hk=>by
  match k,hk with
  | 0,_=>exact⟨s.l,t1,x1,rfl,rfl,e1,i1,by omega,λf A=>List.mem_append_left _ A⟩
  | 1,_=>exact⟨s.r,t2,x2,rfl,rfl,e2,i2,by omega,λf A=>List.mem_append_right _ A⟩
  | k+2,hk=>omega
 refine iI func48 ?_;simp only[go_sem,zE,zA,zM,zL,fits,yX6];refine LoopC.ctr 2 (λk fr st' ds=>NmS (atB (([s.l,s.r]:List (List Fm)).take k).flatten) st st' (fr 3)/\fr 15=.iv (.sl ⟨true,.full,1⟩ [.sl t1 x1,.sl t2 x2])/\fr 16=.iv (.raw (.int .i64 2))/\fr 17=.iv (.raw (.int .i64 k))/\ds=[]) ?_ ?_ ?_
 ·simp only[go_sem,zE];exact⟨⟨_,[],rfl,own.nil ..,subSt.refl _,List.nodup_nil,λn=>⟨nofun,λ⟨f,A,_⟩=>by simp at A⟩⟩,rfl,rfl⟩
 ·rintro k fr D _ ae ⟨O,f15,f16,f17,rfl⟩;obtain⟨us,tg,xs,az,ay,aB,ah,aq,J⟩:=ag k ae;have aD:decide ((k:Int)<2)=true:=dEt (by omega);have ac:∀n,atB (([s.l,s.r]:List (List Fm)).take k).flatten n->atB (s.l++s.r) n:=λn=>by
   rintro⟨f,A,h⟩
   match k,ae,A with
   | 0,_,A=>simp at A
   | 1,_,A=>exact⟨f,List.mem_append_left _ (by simpa using A),h⟩
  have aE:((([s.l,s.r]:List (List Fm)).take (k+1)).flatten)=(([s.l,s.r]:List (List Fm)).take k).flatten++us:=by rw[yQ7 az,List.flatten_append];simp
  rw[aE];generalize hQ:(([s.l,s.r]:List (List Fm)).take k).flatten=Q at O ac;have aV:=yZk us;have aJ:=yWg us;simp only[go_sem,zE,f15,f16,f17,fits,iNn,aD,ay];refine LoopC.ctr us.length (λj fr st' ds=>NmS (atB (Q++us.take j)) st st' (fr 3)/\fr 5=.iv (.sl tg xs)/\fr 6=.iv (.raw (.int .i64 j))/\fr 15=.iv (.sl ⟨true,.full,1⟩ [.sl t1 x1,.sl t2 x2])/\fr 16=.iv (.raw (.int .i64 2))/\fr 17=.iv (.raw (.int .i64 k))/\ds=[]) ?_ ?_ ?_
  ·simp only[go_sem,zE,f15,f16,f17];exact⟨by simpa using O,rfl⟩
  ·rintro j fr D _ af ⟨O,f5,f6,f15,f16,f17,rfl⟩;obtain⟨f,A⟩:=yQ1 af;obtain⟨z,hz,au⟩:=ah.get A;have ai:=lMg A;have aF:=λst=>hP f z au (Nat.le_trans (xZv ai) aq) st;obtain⟨o1,n1,q1,z1,q2,z2,rfl⟩:=au.agg;simp only[go_sem,zE,zB,zA,f5,f6,ah.len,lt_i af,yQ3 aB,iNn,hz,fits];intro _;refine (aF _).mono ?_;rintro _ av ⟨ty,ys,rfl,aA,hys,rfl⟩;have aU:ys.length<=300:=Nat.le_trans hys.len (Nat.le_trans (zZ0 f) (Nat.le_trans (xZv ai) aq));simp only[go_sem];intro _;refine LoopC.ctr ys.length (λi fr st' ds=>NmS (λn=>atB (Q++us.take j) n\/∃m,symI n m∈ys.take i) st st' (fr 3)/\fr 31=.iv (.sl ty ys)/\fr 32=.iv (.raw (.int .i64 ys.length))/\fr 33=.iv (.raw (.int .i64 i))/\fr 5=.iv (.sl tg xs)/\fr 6=.iv (.raw (.int .i64 j))/\fr 15=.iv (.sl ⟨true,.full,1⟩ [.sl t1 x1,.sl t2 x2])/\fr 16=.iv (.raw (.int .i64 2))/\fr 17=.iv (.raw (.int .i64 k))/\ds=[]) ?_ ?_ ?_
   ·simp only[go_sem,zE,f5,f6,f15,f16,f17];exact⟨O.iff λn=>by simp,rfl⟩
   ·rintro i fr D _ ab ⟨O,f31,f32,f33,f5,f6,f15,f16,f17,rfl⟩;obtain⟨t,l,f3,E,U,hnd,hl⟩:=O;obtain⟨y,hy⟩:=yQ1 ab;obtain⟨nm,na,rfl,aW,aY⟩:=hys.key y (lMg hy);have hll:l.length<=300:=Nat.le_trans (zXk l _ hnd λn hn=>by
     refine wGu ?_;rcases (hl n).1 hn with h|⟨m,h⟩
     ·rcases wJm.1 h with h|⟨f',h1,h⟩
      ·exact ac n h
      ·exact⟨f',J f' (List.mem_of_mem_take h1),h⟩
     ·obtain⟨n',m',h1,_,h2⟩:=hys.key _ (List.mem_of_mem_take h);simp only[symI,IV.agg.injEq,List.cons.injEq,IV.raw.injEq,Value.string.injEq] at h1;obtain⟨rfl,_⟩:=h1;exact⟨f,J f ai,_,h2⟩) hA
    simp only[go_sem,zE,zB,zA,zL,f31,f32,f33,lt_i ab,yQ3 aA,iNn,hy,fits];refine LoopC.ctr l.length (λq fr st' ds=>(∃b:Bool,fr 9=.iv (.raw (.bool b))/\(b=true↔nm∈l.take q))/\fr 3=.iv (.sl t (nmsI l))/\fr 8=.box [.raw (.string nm),.raw (.int .i64 (na:Int))]/\fr 10=.iv (.raw (.int .i64 q))/\st'=D/\fr 31=.iv (.sl ty ys)/\fr 32=.iv (.raw (.int .i64 ys.length))/\fr 33=.iv (.raw (.int .i64 i))/\fr 5=.iv (.sl tg xs)/\fr 6=.iv (.raw (.int .i64 j))/\fr 15=.iv (.sl ⟨true,.full,1⟩ [.sl t1 x1,.sl t2 x2])/\fr 16=.iv (.raw (.int .i64 2))/\fr 17=.iv (.raw (.int .i64 k))/\ds=[]) ?_ ?_ ?_
    ·simp only[go_sem,zE,f3,f31,f32,f33,f5,f6,f15,f16,f17];simp
    ·rintro q fr D _ aa ⟨⟨b,f9,hb⟩,f3,f8,f10,rfl,f31,f32,f33,f5,f6,f15,f16,f17,rfl⟩;obtain⟨nq,hq⟩:=yQ1 aa;have aj:=E.es;have htk:∀b':Bool,(b'=true↔(b=true\/nq=nm))->(b'=true↔nm∈l.take (q+1)):=λb' h=>by
      rw[h,hb,yQ7 hq,List.mem_append,List.mem_singleton];exact or_congr Iff.rfl eq_comm
     cases b
     ·simp only[go_sem,zE,zA,f3,f8,f9,f10,f31,f32,f33,f5,f6,f15,f16,f17,yWo,lt_i aa,yQ3 aj,iNn,wVq hq,fits,yQc aa (show l.length<=281474976710656 by omega)];intros;exact⟨_,rfl,htk _ (by simp)⟩
     ·simp only[go_sem,zE,f3,f8,f9,f10,f31,f32,f33,f5,f6,f15,f16,f17,yWo,lt_i aa,yQc aa (show l.length<=281474976710656 by omega)];intros;exact⟨true,rfl,htk _ (by simp)⟩
    ·rintro fr D _ ⟨⟨b,f9,hb⟩,f3,f8,f10,rfl,f31,f32,f33,f5,f6,f15,f16,f17,rfl⟩;rw[lTl] at hb;have htk:∀n,(∃m,symI n m∈ys.take (i+1))↔(∃m,symI n m∈ys.take i)\/n=nm:=λn=>by
      rw[yQ7 hy];constructor
      ·rintro⟨m,hm⟩;rcases List.mem_append.1 hm with h|h
       ·exact .inl ⟨m,h⟩
       ·simp only[List.mem_singleton,symI,IV.agg.injEq,List.cons.injEq,IV.raw.injEq,Value.string.injEq] at h;exact .inr h.1
      ·rintro (⟨m,hm⟩|rfl)
       ·exact⟨m,List.mem_append_left _ hm⟩
       ·exact⟨na,List.mem_append_right _ (List.mem_singleton.2 rfl)⟩
     cases b
     ·simp only[go_sem,zE,zA,zM,zL,f3,f8,f9,f10,yWo,yQi (nLi _),fits,yQ4];intros;refine yZy E (yWo l) U rfl (by simp[fits,IV.one]) (by simp only;omega) (by omega) λt' av w1 w2 w3=>?_;simp only[go_sem,zE,f31,f32,f33,f5,f6,f15,f16,f17,yQc ab (show ys.length<=281474976710656 by omega)];refine⟨t',l++[nm],by rw[wVr],by rw[lLa];exact w1,w2,?_,λn=>?_⟩
      ·have:nm ∉ l:=λh=>by cases hb.2 h
       rw[List.nodup_append];exact⟨hnd,by simp,λa ha b hb=>by rw[List.mem_singleton.1 hb];rintro rfl;exact this ha⟩
      ·rw[List.mem_append,List.mem_singleton];exact (or_congr (hl n) Iff.rfl).trans (or_assoc.trans (or_congr Iff.rfl (htk n).symm))
     ·simp only[go_sem,zE,f3,f9,f10,f31,f32,f33,f5,f6,f15,f16,f17,yWo,yQi (nLi _),yQc ab (show ys.length<=281474976710656 by omega)];intros;refine⟨t,l,rfl,E,U,hnd,λn=>?_⟩;refine (hl n).trans (Iff.trans ⟨.inl,?_⟩ (or_assoc.trans (or_congr Iff.rfl (htk n).symm)));rintro (h|rfl)
      ·exact h
      ·exact (hl _).1 (hb.1 rfl)
   ·rintro fr D _ ⟨O,f31,f32,f33,f5,f6,f15,f16,f17,rfl⟩;rw[lTl] at O;simp only[go_sem,zE,f32,f33,f5,f6,f15,f16,f17,yQi (nLi _),yQc af (show us.length<=281474976710656 by omega)];intros;refine O.iff λn=>?_;rw[yQ7 A,<- List.append_assoc,wJm (m:=[f])];refine or_congr Iff.rfl ⟨?_,?_⟩
    ·rintro⟨m,h⟩;obtain⟨n',m',h1,_,h2⟩:=hys.key _ h;simp only[symI,IV.agg.injEq,List.cons.injEq,IV.raw.injEq,Value.string.injEq] at h1;obtain⟨rfl,_⟩:=h1;exact⟨f,by simp,_,h2⟩
    ·rintro⟨f',h1,m,h2⟩;rw[List.mem_singleton.1 h1] at h2;exact⟨m,hys.cov _ _ h2⟩
  ·rintro fr D _ ⟨O,f5,f6,f15,f16,f17,rfl⟩;rw[lTl] at O;simp only[go_sem,zE,f5,f6,f15,f16,f17,ah.len,yQi (nLi _),yQc ae (show 2<=281474976710656 by decide)];intro _;exact O
 ·rintro fr D _ ⟨⟨t,l,f3,E,J,hnd,hl⟩,f15,f16,f17,rfl⟩;have aj:=E.es;simp only[go_sem,zE,f3,f16,f17,show decide (((2:Nat):Int)<2)=false from rfl];exact yQf J ⟨⟨t,l,rfl,aj,hnd,λn=>by rw[hl n];simp⟩,rfl⟩
def FewS (ca:Nat)(s:Sq)(k:Int):Prop:=(ca=1\/ca=2)/\yYn s=true/\yQo ca s=true/\∃l:List ByteArray,l.Nodup/\(∀n,n∈l↔atB (s.l++s.r) n)/\(l.length:Int)<=k
theorem FewS.w {ca:Nat}{s:Sq}{k:Int}(h:FewS ca s k):wFms s.l+wFms s.r<=300:=by
 have:=h.2.1;unfold yYn at this;rw[bAt,dTe] at this;exact this.1
theorem vK5 (G:Gl gl)(ca:Nat)(s:Sq)(x:IV)(hx:IsSq s x)(hw:wFms s.l<=1099511627776/\wFms s.r<=1099511627776)(k:Int)(st:ISt) :
  ICall prog gl 20 [.raw (.int .u8 (ca:Int)),x,.raw (.int .i64 k)] st (λr st'=>(∃b:Bool,r=.raw (.bool b)/\(b=true->FewS ca s k))/\st'=st):=by
 have hL:=λst=>vZn gl s x hx hw st;have U:=λh st=>xK9 gl G ca s x hx h st;have hN:=λh st=>vQ8 gl s x hx h st;obtain⟨t1,x1,t2,x2,rfl,e1,i1,e2,i2⟩:=hx;refine iI func20 ?_;by_cases h1:ca=1
 ·have E:decide ((ca:Int)=1)=true:=dEt (by omega);simp only[go_sem,zE,zA,zL,reduceCtorEq,E];refine (hL _).mono ?_;rintro _ st ⟨rfl,rfl⟩;cases D:yYn s
  ·simp only[go_sem,zE];exact yQ0 ⟨⟨_,rfl,λh=>by simp at h⟩,rfl⟩
  have A:wFms s.l+wFms s.r<=300:=by
   unfold yYn at D;rw[bAt,dTe] at D;exact D.1
  simp only[go_sem,zE,zA,zL,reduceCtorEq];refine (U (xJq A) _).mono ?_;rintro _ st ⟨rfl,rfl⟩;cases J:yQo ca s
  ·simp only[go_sem,zE];exact yQ0 ⟨⟨_,rfl,λh=>by simp at h⟩,rfl⟩
  simp only[go_sem,zE,zA,zL];refine (hN A _).mono ?_;rintro _ st ⟨⟨t,l,rfl,ht,hnd,hl⟩,rfl⟩;simp only[go_sem,zE,yWo];intros;exact yQ0 ⟨⟨_,rfl,λh=>⟨.inl h1,D,J,l,hnd,hl,by simpa using h⟩⟩,rfl⟩
 have E:decide ((ca:Int)=1)=false:=dEf (by omega);by_cases h2:ca=2
 ·have O:decide ((ca:Int)=2)=true:=dEt (by omega);simp only[go_sem,zE,zA,zL,reduceCtorEq,E,O];refine (hL _).mono ?_;rintro _ st ⟨rfl,rfl⟩;cases D:yYn s
  ·simp only[go_sem,zE];exact yQ0 ⟨⟨_,rfl,λh=>by simp at h⟩,rfl⟩
  have A:wFms s.l+wFms s.r<=300:=by
   unfold yYn at D;rw[bAt,dTe] at D;exact D.1
  simp only[go_sem,zE,zA,zL,reduceCtorEq];refine (U (xJq A) _).mono ?_;rintro _ st ⟨rfl,rfl⟩;cases J:yQo ca s
  ·simp only[go_sem,zE];exact yQ0 ⟨⟨_,rfl,λh=>by simp at h⟩,rfl⟩
  simp only[go_sem,zE,zA,zL];refine (hN A _).mono ?_;rintro _ st ⟨⟨t,l,rfl,ht,hnd,hl⟩,rfl⟩;simp only[go_sem,zE,yWo];intros;exact yQ0 ⟨⟨_,rfl,λh=>⟨.inr h2,D,J,l,hnd,hl,by simpa using h⟩⟩,rfl⟩
 have O:decide ((ca:Int)=2)=false:=dEf (by omega);simp only[go_sem,zE,reduceCtorEq,E,O];exact yQ0 ⟨⟨_,rfl,λh=>by simp at h⟩,rfl⟩
def vZp (v:Nat×Fm×List Sn)(x:IV):Prop:=∃o n t1 E t2 D t3 A,x=.agg [.raw (.int .u8 (v.1:Int)),.raw (.int .u8 o),.raw (.string n),.sl t1 E,.sl t2 D,.sl t3 A]/\IsFm v.2.1 (.agg [.raw (.int .u8 o),.raw (.string n),.sl t1 E,.sl t2 D])/\okEs t3 2/\AllR (λp y=>IsSq ⟨p.1,p.2⟩ y) v.2.2 A
theorem wZg (G:Gl gl)(T:Gt gl)(ca:Nat)(s:Sq)(x:IV)(hx:IsSq s x)(hs:yXx s)(st:ISt):ICall prog gl 16 [.raw (.int .u8 (ca:Int)),x] st (λr st'=>st'=st /\
  ((¬ (ca=1\/ca=2)/\r=.tup [.sl ⟨true,.nil,0⟩ [],.raw (.int .i64 2)])\/((ca=1\/ca=2)/\yQo ca s=false/\r=.tup [.sl ⟨true,.nil,0⟩ [],.raw (.int .i64 190)]) \/
   ((ca=1\/ca=2)/\yQo ca s=true/\((zG7 (calJ ca) (nf (s.l,s.r))/\r=.tup [.sl ⟨true,.nil,0⟩ [],.raw (.int .i64 5)])\/(¬ zG7 (calJ ca) (nf (s.l,s.r))/\∃t ys,okEs t 6/\AllR vZp (mvF (calJ ca) (nf (s.l,s.r))) ys/\r=.tup [.sl t ys,.raw (.int .i64 0)]))))):=by
 have hb:=xK1 gl G ca s x hx hs;have bi:=hx;obtain⟨t1,x1,t2,x2,rfl,e1,i1,e2,i2⟩:=hx;refine ICall.introF (t:=6) (n:=2) (c:=cf prog gl [4,5,6,8,38] [(10,[0,1,2,3,4,6,7,12,5,8,9,10,11,13])] [3]) func16 rfl (by show _<=66;simp) (by show _<66;simp) (by kernel_rfl) ?_;simp only[go_sem,zE,zA,reduceCtorEq,fits];refine λb4=>yQ8 λh4=>λb5=>yQ8 λh5=>?_;have A:b5≠b4:=λe=>by rw[e,ISt.put_same] at h5;cases h5
 rw[yQ5 A] at h5;have sub0:subSt st ((st.put b4 (some (.box [.sl ⟨true,.nil,0⟩ []]))).put b5 (some (.box [.raw (.int .i64 0)]))):=yQb (yQa h4) h5;refine (hb _).mono ?_;rintro _ aO (⟨hc,rfl,rfl⟩|⟨hc,hv,rfl,rfl⟩|⟨hc,hv,m,tw,xw,hm,htw,hxw,rfl,rfl⟩)
 ·simp only[go_sem,zE,zL];refine λb6=>yQ8 λD=>?_;have n6:b6≠b5:=λe=>by rw[e,ISt.put_same] at D;cases D
  rw[yQ5 n6] at D;have be:b6≠b4:=λe=>by rw[e,ISt.put_same] at D;cases D
  refine⟨b6,.raw (.pointer none),by simp only[go_sem,zE],ISt.put_same ..,?_⟩;rw[yUu (by rw[yQ5 n6];exact D)];simp only[go_sem,zE,zL,show decide ((2:Int)=0)=false from rfl,yQ5 A.symm,yQ5 A];exact⟨st,yQb (yQb sub0 h4) h5,rfl,.inl ⟨hc,rfl⟩⟩
 ·simp only[go_sem,zE,zL];refine λb6=>yQ8 λD=>?_;have n6:b6≠b5:=λe=>by rw[e,ISt.put_same] at D;cases D
  rw[yQ5 n6] at D;have be:b6≠b4:=λe=>by rw[e,ISt.put_same] at D;cases D
  refine⟨b6,.raw (.pointer none),by simp only[go_sem,zE],ISt.put_same ..,?_⟩;rw[yUu (by rw[yQ5 n6];exact D)];simp only[go_sem,zE,zL,show decide ((190:Int)=0)=false from rfl,yQ5 A.symm,yQ5 A];exact⟨st,yQb (yQb sub0 h4) h5,rfl,.inr (.inl ⟨hc,hv,rfl⟩)⟩
 ·obtain⟨hS,_,aE,aC⟩:=yKi hc hv;have bB:=zQq hv;have J:=zG8 aC;have aV:=zXr hS.srt aC;simp only[go_sem,zE,zL];refine λb6=>yQ8 λD=>?_;have bQ:b6≠m:=λe=>by rw[e,ISt.put_same] at D;cases D
  refine⟨b6,spI ca tw xw m,by simp only[go_sem,zE],ISt.put_same ..,?_⟩;rw[yUu D,show age (spI ca tw xw m)=spI ca ⟨false,tw.cap,tw.es⟩ (ages xw) m by simp only[age,ages]];replace htw:okEs ⟨false,tw.cap,tw.es⟩ 4:=htw;replace hxw:=hxw.aged;generalize (⟨false,tw.cap,tw.es⟩:Tag)=tw at htw ⊢;generalize ages xw=xw at hxw ⊢;simp only[go_sem,zE,zA,decide_true];refine λb8=>yQ8 λh8=>?_;refine (xVm gl T ca m (spW s) tw xw htw hxw hS.srt (Nat.le_trans aE (by omega)) s _ bi ⟨by omega,by omega⟩ aC _).mono ?_;rintro z aO ⟨hz,rfl⟩;have bn:=λst=>wZf gl m (spI ca tw xw m) z _ rfl _ hz st;have bo:=xVh gl G T ca m _ hS aE tw xw htw hxw _ J z hz;obtain⟨ta,tb,rfl,ea,eb⟩:=id hz;simp only[go_sem,zE,zA];refine (bn _).mono ?_;rintro _ aO ⟨rfl,rfl⟩;simp only[go_sem,reduceCtorEq];have aX:m≠b5:=λe=>by rw[e,ISt.put_same] at hm;cases hm
  rw[yQ5 aX] at hm;have aY:m≠b4:=λe=>by rw[e,ISt.put_same] at hm;cases hm
  rw[yQ5 aY] at hm;have aF:b8≠m:=λe=>by rw[e,ISt.put_same] at h8;cases h8
  rw[yQ5 aF] at h8;have aG:b8≠b5:=λe=>by rw[e,ISt.put_same] at h8;cases h8
  rw[yQ5 aG] at h8;have aH:b8≠b4:=λe=>by rw[e,ISt.put_same] at h8;cases h8
  rw[yQ5 aH] at h8;generalize ai:((((st.put b4 (some (.box [.sl ⟨true,.nil,0⟩ []]))).put b5 (some (.box [.raw (.int .i64 0)]))).put m (some (.map .pl []))).put b8 (some (.box [.sl ⟨true,.nil,0⟩ []])))=sA;have au:IsFms (setF (yZb (s.l++s.r))) xw:=hxw;generalize hW:setF (yZb (s.l++s.r))=W at *;generalize bA:zG9 W (s.l,s.r)=ln at *
  let EI:Nat->ISt->Prop:=λk s'=>∃(vs:List Mv) (t8:Tag) (ys:List IV),(cutO (mvsN W (calJ ca) ln)).take k=vs.map some/\AllR vZp (vs.map (mvW W)) ys/\SpSt ca m W s'/\s' b4=some (.box [.sl ⟨true,.nil,0⟩ []])/\s' b5=some (.box [.raw (.int .i64 0)])/\s' b8=some (.box [.sl t8 ys])/\own s' t8 vs.length 6 st/\subSt st s'
  let ES:Exit->ISt->Prop:=λe s'=>e=.ret/\s' b4=some (.box [.sl ⟨true,.nil,0⟩ []])/\s' b5=some (.box [.raw (.int .i64 5)])/\none∈mvsN W (calJ ca) ln/\subSt st s'
  refine RangeU.intro (mvX W (calJ ca) ln) (cutO (mvsN W (calJ ca) ln)).length EI ES (SpUp ca m W) ?_ (by simp only[go_sem]) ?_ ?_ ?_ (bo.of λk s ⟨_,_,_,_,_,h,_⟩=>h) ?_ ?_
  ·rintro k s' m' kk es es' ⟨vs,t8,ys,q1,q2,⟨an,q3,bd⟩,q4,q5,U,q7,q8⟩ aZ ⟨rfl,hu⟩;rw[q3] at aZ;cases aZ;have e4:b4≠m':=λe=>by rw[e,q3] at q4;cases q4
   have e5:b5≠m':=λe=>by rw[e,q3] at q5;cases q5
   have e8:b8≠m':=λe=>by rw[e,q3] at U;cases U
   exact⟨vs,t8,ys,q1,q2,⟨es',ISt.put_same ..,hu bd⟩,by rw[yQ5 e4];exact q4,by rw[yQ5 e5];exact q5,by rw[yQ5 e8];exact U,q7.mono λg hg _=>(by rw[yQ5 λe=>(by rw[e,q3] at hg;cases hg)];exact hg),yQb q8 hm⟩
  ·rintro k a ⟨o,_,ho⟩;cases o with
   | none=>rw[show a=_ from ho];rfl
   | some v=>obtain⟨x,rfl,_⟩:=ho;rfl
  ·exact⟨[],⟨true,.nil,0⟩,[],rfl,AllR.nil,⟨[],by rw[<- ai,yQ5 aF.symm,ISt.put_same],λp hp=>by cases hp⟩,by rw[<- ai,yQ5 aH.symm,yQ5 aY.symm,yQ5 A.symm,ISt.put_same],
    by rw[<- ai,yQ5 aG.symm,yQ5 aX.symm,ISt.put_same],by rw[<- ai,ISt.put_same],own.nil ..,by rw[<- ai];exact yQb (yQb sub0 hm) h8⟩
  ·rintro k a s' ⟨o,af,ho⟩ ⟨vs,t8,ys,q1,q2,q3,q4,q5,U,q7,q8⟩;cases o with
   | none =>
    obtain rfl:a=_:=ho;have aB:none∈mvsN W (calJ ca) ln:=by
     have h1:∀l:List (Option Mv),none∈cutO l->none∈l:=λl=>by
      induction l with
      | nil=>exact id
      | cons a l ih =>
       cases a with
       | none=>exact λ_=>.head _
       | some a =>
        intro h;simp only[cutO] at h;rcases List.mem_cons.1 h with h|h
        ·cases h
        ·exact .tail _ (ih h)
     exact h1 _ (lMg af)
    simp only[go_sem,zE,zA,zL,show decide ((5:Int)=0)=false from rfl,q4,q5,yQ5 A];exact⟨rfl,by rw[yQ5 A.symm,ISt.put_same],ISt.put_same ..,aB,yQb (yQb q8 h4) h5⟩
   | some v =>
    obtain⟨xv,rfl,tv,zv,rfl,bk,az⟩:=ho;have bj:some v∈mvsN W (calJ ca) ln:=by
     have h1:∀l:List (Option Mv),some v∈cutO l->some v∈l:=λl=>by
      induction l with
      | nil=>exact id
      | cons a l ih =>
       cases a with
       | none=>intro h;simp[cutO] at h
       | some a =>
        intro h;simp only[cutO] at h;rcases List.mem_cons.1 h with h|h
        ·rw[h];exact .head _
        ·exact .tail _ (ih h)
     exact h1 _ (lMg af)
    obtain⟨g1,g2,g3,g4⟩:=zXn hS J bj;obtain⟨f,hf⟩:=yQ1 g1;obtain⟨z,hz,a1⟩:=au.get hf;have bq:=λst=>zQx gl f z a1 (Nat.le_trans (hS.size (lMg hf)) (by omega)) st;obtain⟨og,ng,ug,sg,rfl⟩:∃o n u s,f=.mk o n u s:=by cases f;exact⟨_,_,_,_,rfl⟩
    obtain⟨bL,bF,bK,bD,rfl,bU⟩:=a1.mk;simp only[go_sem,zE,zB,zA,zL,fits,decide_true,yQ3 htw,iNn,hz,IV.one];refine (bq _).mono ?_;rintro r s2 ⟨hr,rfl⟩;obtain⟨o1,n1,t5,x5,t6,x6,rfl⟩:=IsFmD.aggs hr;simp only[go_sem,zE,zA,zL,fits];intro _;refine LoopC.ctr zv.length (λq fr st' ds=>(∃t3 x3,fr 11=.box [.raw (.int .u8 (v.1:Int)),.raw (.int .u8 o1),.raw (.string n1),.sl t5 x5,.sl t6 x6,.sl t3 x3]/\AllR (λp y=>IsSq ⟨p.1,p.2⟩ y) ((v.2.2.take q).map (lnW W)) x3/\own st' t3 q 2 st/\SpSt ca m W st'/\st' b4=some (.box [.sl ⟨true,.nil,0⟩ []])/\st' b5=some (.box [.raw (.int .i64 0)]) /\
     st' b8=some (.box [.sl t8 ys])/\own st' t8 vs.length 6 st/\subSt st st')/\fr 6=.iv (.cptr (spI ca tw xw m))/\fr 46=.iv (.sl tv zv)/\fr 47=.iv (.raw (.int .i64 zv.length))/\fr 48=.iv (.raw (.int .i64 (q:Int)))/\fr 4=.iv (ptr b4)/\fr 5=.iv (ptr b5)/\fr 8=.iv (ptr b8)/\ds=[]) ?_ ?_ ?_
    ·simp only[go_sem,zE];exact⟨⟨_,_,rfl,AllR.nil,own.nil ..,q3,q4,q5,U,q7,q8⟩,rfl⟩
    ·rintro q fr s3 _ hq ⟨⟨t3,x3,f11,ah,E,q3,q4,q5,U,q7,q8⟩,f6,f46,f47,f48,f4,f5,f8,rfl⟩;have aA:=az.1;obtain⟨p,hp⟩:=yQ1 (l:=v.2.2) (k:=q) (by rw[<- aA];exact hq);obtain⟨zq,bg,aq⟩:=az.2 q p hp;obtain⟨g5,g6⟩:=g4 p (lMg hp);have bl:=λst=>vJy gl ca m W hS tw xw htw au p g5 zq aq st;obtain⟨bN,bM,rfl,b0,bZ⟩:=aq;simp only[go_sem,zE,zB,zA,zL,f11,f6,f46,f47,f48,lt_i hq,yQ3 bk,iNn,bg,fits,IV.one];refine (bl _).mono ?_;rintro _ s3 ⟨⟨t7,x7,t9,x9,rfl,e7,i7,e9,i9⟩,rfl⟩;have aT:x3.length=q:=by rw[ah.1,List.length_map,List.length_take];omega
     simp only[go_sem,zE,zA,zM,zL,fits,yQ4];refine yZy E aT q8 rfl (by simp[fits,IV.one]) (by simp only;omega) (by omega) λbc s4 w1 w2 O=>?_;obtain⟨an,u1,u2⟩:=q3;simp only[go_sem,zE,zA,zL,f11,f6,f46,f47,f48,f4,f5,f8,yQc hq (show zv.length<=281474976710656 by omega)];refine⟨bc,_,rfl,?_,w1,⟨an,O _ _ u1 (λn h=>by cases h),u2⟩,O _ _ q4 (λn h=>by cases h),O _ _ q5 (λn h=>by cases h),O _ _ U (λn h=>by cases h),O.own q7 (by decide),w2⟩;rw[yQ7 hp,List.map_append];exact ah.snoc ⟨t7,x7,t9,x9,rfl,e7,i7,e9,i9⟩
    ·rintro fr s3 _ ⟨⟨t3,x3,f11,ah,E,q3,q4,q5,U,q7,q8⟩,f6,f46,f47,f48,f4,f5,f8,rfl⟩;have aA:=az.1;rw[aA,lTl] at ah;have bh:ys.length=vs.length:=by rw[q2.1,List.length_map]
     have bS:vs.length<=16000000:=by
      have h1:∀l:List (Option Mv),(cutO l).length<=l.length:=λl=>by
       induction l with
       | nil=>exact Nat.le_refl _
       | cons a l ih =>
        cases a with
        | none=>simp[cutO]
        | some a=>simp only[cutO,List.length_cons];omega
      have h2:=congrArg List.length q1;rw[List.length_take,List.length_map] at h2;have h3:=h1 (mvsN W (calJ ca) ln);have h4:=zG5 hS aE J;omega
     simp only[go_sem,zE,zA,zM,zL,f11,f47,f48,f8,yQi (nLi _),U,fits,yQ4];refine yZy q7 bh q8 rfl (by simp[fits,IV.one]) (by simp only;omega) (by omega) λbb s4 w1 w2 O=>?_;have a6:=O _ _ U (λn h=>by cases h);simp only[go_sem,zE,zL,f8,a6];obtain⟨an,u1,u2⟩:=q3;refine⟨vs++[v],bb,_,?_,?_,⟨an,by rw[yQ5 aF.symm];exact O _ _ u1 (λn h=>by cases h),u2⟩,by rw[yQ5 aH.symm];exact O _ _ q4 (λn h=>by cases h),by rw[yQ5 aG.symm];exact O _ _ q5 (λn h=>by cases h),ISt.put_same ..,?_,yQb w2 h8⟩
     ·rw[yQ7 af,q1,List.map_append];rfl
     ·rw[List.map_append];refine q2.snoc ⟨o1,n1,t5,x5,t6,x6,t3,x3,rfl,?_,E.es,ah⟩;show IsFm ((W[v.2.1]?).getD fm0) _;rw[hf];exact hr.1
     ·rw[lLa];refine w1.mono λg hg _=>?_;rw[yQ5 λe=>by rw[e,a6] at hg;cases hg];exact hg
  ·rintro s' rr ⟨vs,t8,ys,q1,q2,q3,q4,q5,U,q7,q8⟩;rw[lTl] at q1;have aw:mvsN W (calJ ca) ln=vs.map some:=by
    have h1:∀l:List (Option Mv),none ∉ cutO l->cutO l=l:=λl=>by
     induction l with
     | nil=>intro _;rfl
     | cons a l ih =>
      intro h;cases a with
      | none=>exact absurd (.head _) h
      | some a=>simp only[cutO] at h ⊢;rw[ih λh'=>h (.tail _ h')]
    rw[<- q1,h1];rw[q1];simp
   have aW:=zG4 hS J aw;have ag:=zXm hS J (j:=calJ ca);rw[aV] at aW ag;simp only[go_sem,zE,zL,q4,q5,U,yQ5 A,yQ5 A.symm];refine⟨st,yQb (yQb q8 h4) h5,rfl,.inr (.inr ⟨hc,hv,.inr ⟨λh=>?_,t8,ys,q7.es,by rw[aW];exact q2,rfl⟩⟩)⟩;have:=ag.2 h;rw[aw] at this;simp at this
  ·rintro e s' rr ⟨rfl,w1,w2,O,w4⟩;simp only[go_sem,zE,w1,w2];have ag:=(zXm hS J (j:=calJ ca)).1 O;rw[aV] at ag;exact⟨st,w4,rfl,.inr (.inr ⟨hc,hv,.inl ⟨ag,rfl⟩⟩)⟩
end Go.Proofs.Tryz
namespace Go.Proofs.Tryz
open Go Go.Iv
noncomputable def insC (a:Fm):List Fm->List Fm
 | []=>[a]
 | b::l=>if yZ6 a b<0 then a::b::l else if yZ6 a b=0 then b::l else b::insC a l
noncomputable def setC:List Fm->List Fm
 | []=>[]
 | a::l=>insC a (setC l)
theorem zGj {a x:Fm}:∀ {l:List Fm},x∈insC a l↔x=a\/x∈l
 | []=>by simp[insC]
 | b::l=>by
  unfold insC;split
  ·simp
  ·split
   ·rename_i h;rw[(yJ4 a b).1 h];simp
   ·rw[List.mem_cons,zGj,List.mem_cons];grind
theorem xW1 {a:Fm}:∀ {l:List Fm},l.Pairwise (λx y=>yZ6 x y<0)->(insC a l).Pairwise (λx y=>yZ6 x y<0)
 | [],_=>by simp[insC]
 | b::l,h=>by
  obtain⟨h1,h2⟩:=List.pairwise_cons.1 h;unfold insC;split
  ·rename_i A;refine List.pairwise_cons.2 ⟨λx hx=>?_,h⟩;rcases List.mem_cons.1 hx with rfl|hx
   ·exact A
   ·exact yWx _ _ _ A (h1 x hx)
  ·split
   ·exact h
   ·rename_i D h0;refine List.pairwise_cons.2 ⟨λx hx=>?_,xW1 h2⟩;rcases zGj.1 hx with rfl|hx
    ·have:=yWb x b;omega
    ·exact h1 x hx
theorem wQg:∀l:List Fm,SetF l (setC l)
 | []=>⟨List.Pairwise.nil,λ_=>Iff.rfl⟩
 | a::l=>by
  obtain⟨h1,h2⟩:=wQg l;refine⟨xW1 h1,λf=>?_⟩;show f∈insC a (setC l)↔_;rw[zGj,h2,List.mem_cons]
theorem wYq (l:List Fm):setF l=setC l:=yVs (wQg l)
noncomputable def nfC (s:Sn):Sn:=(setC s.1,setC s.2)
theorem nf_C (s:Sn):nf s=nfC s:=by unfold nf nfC;rw[wYq,wYq]
noncomputable def pmC (j:Bool)(s p:Sn):Sn:=nfC (s.1++p.1,rgt j s.2 p.2)
noncomputable def mvC (j:Bool)(s:Sn):List (List Sn):=(s.1.flatMap λf=>(addF j f false).map λt=>t.2.map (pmC j s))++s.2.flatMap λf=>(addF j f true).map λt=>t.2.map (pmC j s)
theorem vKs (j:Bool)(s:Sn):(mvF j s).map (λm=>m.2.2)=mvC j s:=by
 have key:∀(r:Bool) (l:List Fm),(l.flatMap (yUy j s r)).map (λm=>m.2.2)=l.flatMap λf=>(addF j f r).map λt=>t.2.map (pmC j s):=λr l=>by
  rw[List.map_flatMap];congr 1;funext f;unfold yUy;rw[List.map_map];refine List.map_congr_left λt _=>?_;refine List.map_congr_left λp _=>?_;exact nf_C _
 unfold mvF mvC;rw[List.map_append,key,key]
noncomputable def clC (s:Sn):Bool:=s.1.any λf=>s.2.any (λg=>decide (yZ6 f g=0)) || zK3 f
theorem xZb (s:Sn):clC s=true↔ClF s.1 s.2:=by
 unfold clC ClF;simp only[List.any_eq_true,Bool.or_eq_true,dTe,yJ4];constructor
 ·rintro⟨f,A,⟨g,D,rfl⟩|h⟩
  ·exact .inl ⟨_,A,D⟩
  ·exact .inr ⟨f,A,h⟩
 ·rintro (⟨f,h1,h2⟩|⟨f,h1,h2⟩)
  ·exact⟨f,h1,.inl ⟨f,h2,rfl⟩⟩
  ·exact⟨f,h1,.inr h2⟩
theorem zZq {j r:Bool}{f:Fm}{t:Nat×List Sn}(h:t∈addF j f r):∀p∈t.2,p.1.length<=2/\p.2.length<=2:=by
 unfold addF at h;split at h
 case h_5=>split at h<;>simp at h<;>(try rcases h with rfl|rfl)<;>(try subst h)<;>simp
 all_goals (first|(simp at h;subst h;simp)|(simp at h))
def at0 (l:List Nat)(i:Nat):Nat:=(l[i]?).getD 0
noncomputable def vVh:DecidableEq Fm:=λa b=>decidable_of_iff (yZ6 a b=0) (yJ4 a b)
def vY0 (n:Nat)(cl:List Bool)(lk:List (List (List Nat)))(hs:List Nat):Bool :=
 (List.range n).all λi=>(decide (i=0) || (List.range i).any λk=>!((cl[k]?).getD true)&&((lk[k]?).getD []).any (·.contains i)) &&
  (if (cl[i]?).getD true=true then decide (at0 hs i=1) else
   (decide (at0 hs i=0) || ((lk[i]?).getD []).any λps=>ps.all λp=>decide (0<at0 hs p)&&decide (at0 hs p<at0 hs i)) &&
   (((lk[i]?).getD []).all λps=>(ps.all λp=>decide (p<n))&&((ps.any λp=>decide (at0 hs p=0)) || (decide (0<at0 hs i)&&ps.any λp=>decide (at0 hs i<=at0 hs p+1)))))
structure Cert (j:Bool)(K:List Sn)(cl:List Bool)(lk:List (List (List Nat)))(hs:List Nat):Prop where
 norm:K.map nfC=K
 nd:K.Nodup
 cls:K.map clC=cl
 mvs:K.map (λs=>if clC s=true then [] else mvC j s)=lk.map (·.map (·.map λn=>(K[n]?).getD ([],[])))
 num:vY0 K.length cl lk hs=true
 short:(K.all λs=>decide (s.1.length<=60)&&decide (s.2.length<=60))=true
 len:K.length<=20000
section
variable {j:Bool}{K:List Sn}{cl:List Bool}{lk:List (List (List Nat))}{hs:List Nat}(h:Cert j K cl lk hs)
include h
theorem Cert.at_ {i:Nat}{s:Sn}(A:K[i]?=some s):(cl[i]?).getD true=clC s/\(clC s=false->mvC j s=((lk[i]?).getD []).map (·.map λn=>(K[n]?).getD ([],[]))):=by
 have h1:cl[i]?=some (clC s):=by rw[<- h.cls,List.getElem?_map,A];rfl
 have h2:=congrArg (λl=>l[i]?) h.mvs;simp only[List.getElem?_map,A,Option.map_some] at h2;refine⟨by rw[h1];rfl,λhc=>?_⟩;rw[hc] at h2;simp only[bFt,if_false] at h2;cases hl:lk[i]? with
 | none=>rw[hl] at h2;cases h2
 | some l=>rw[hl] at h2;exact Option.some.inj h2
theorem Cert.num_ {i:Nat}(A:i<K.length):(i=0\/∃k,k<i/\(cl[k]?).getD true=false/\∃ps∈(lk[k]?).getD [],i∈ps)/\((cl[i]?).getD true=true->at0 hs i=1) /\
  ((cl[i]?).getD true=false->(at0 hs i=0\/∃ps∈(lk[i]?).getD [],∀p∈ps,0<at0 hs p/\at0 hs p<at0 hs i)/\∀ps∈(lk[i]?).getD [],(∀p∈ps,p<K.length)/\((∃p∈ps,at0 hs p=0)\/(0<at0 hs i/\∃p∈ps,at0 hs i<=at0 hs p+1))):=by
 have:=List.all_eq_true.1 h.num i (List.mem_range.2 A);rw[bAt] at this;obtain⟨h1,h2⟩:=this;refine⟨?_,λhc=>?_,λhc=>?_⟩
 ·simp only[Bool.or_eq_true,dTe,List.any_eq_true,List.mem_range,bAt,Bool.not_eq_true',List.contains_iff_mem] at h1;exact h1
 ·rw[if_pos hc] at h2;exact of_decide_eq_true h2
 ·rw[if_neg (by rw[hc];exact Bool.false_ne_true)] at h2;simp only[Bool.or_eq_true,dTe,List.any_eq_true,bAt,List.all_eq_true] at h2;exact h2
theorem Cert.mv {i:Nat}{s:Sn}(D:K[i]?=some s)(hc:clC s=false)(P:List Sn->Prop):(∃m∈mvF j s,P m.2.2)↔∃ps∈(lk[i]?).getD [],P (ps.map λn=>(K[n]?).getD ([],[])):=by
 have h1:=(h.at_ D).2 hc;rw[<- vKs] at h1;constructor
 ·rintro⟨m,A,hp⟩;have:m.2.2∈(mvF j s).map (λm=>m.2.2):=List.mem_map_of_mem A;rw[h1] at this;obtain⟨ps,h2,J⟩:=List.mem_map.1 this;exact⟨ps,h2,J▸hp⟩
 ·rintro⟨ps,h2,hp⟩;have:(ps.map λn=>(K[n]?).getD ([],[]))∈(mvF j s).map (λm=>m.2.2):=by rw[h1];exact List.mem_map_of_mem h2
  obtain⟨m,A,E⟩:=List.mem_map.1 this;exact⟨m,A,E▸hp⟩
theorem Cert.up:∀(x i:Nat)(s:Sn),K[i]?=some s->at0 hs i=x->0<x->HtS j x s:=by
 intro x
 induction x using Nat.strongRecOn with
 | ind x ih =>
  intro i s E hx h0;have D:=(lGs E).1;obtain⟨_,n1,n2⟩:=h.num_ D;obtain⟨y,rfl⟩:∃y,x=y+1:=⟨x-1,by omega⟩
  rw[yK1];cases hc:clC s with
  | true=>exact .inl ((xZb s).1 hc)
  | false =>
   refine .inr ((h.mv E hc λl=>∀p∈l,HtS j y p).2 ?_);obtain⟨J,U⟩:=n2 (by rw[(h.at_ E).1];exact hc);rcases J with J|⟨ps,h1,h2⟩
   ·omega
   ·refine⟨ps,h1,λp hp=>?_⟩;obtain⟨n,O,rfl⟩:=List.mem_map.1 hp;have A:=(U ps h1).1 n O;obtain⟨a,b⟩:=h2 n O;rw[List.getElem?_eq_getElem A,Option.getD_some];have:=ih (at0 hs n) (by omega) n _ (List.getElem?_eq_getElem A) rfl a;exact this.up (by omega)
theorem Cert.lo:∀(n i:Nat)(s:Sn),K[i]?=some s->HtS j n s->0<at0 hs i/\at0 hs i<=n
 | 0,_,_,_,A=>A.elim
 | n+1,i,s,O,A=>by
  have J:=(lGs O).1;obtain⟨_,n1,n2⟩:=h.num_ J;have E:=(h.at_ O).1;cases hc:clC s with
  | true =>
   have:=n1 (by rw[E];exact hc);omega
  | false =>
   obtain⟨_,n4⟩:=n2 (by rw[E];exact hc);rw[yK1] at A;rcases A with A|A
   ·rw[<- xZb,hc] at A;cases A
   ·obtain⟨ps,h1,h2⟩:=(h.mv O hc λl=>∀p∈l,HtS j n p).1 A;obtain⟨U,n6⟩:=n4 ps h1;have hp:∀p∈ps,0<at0 hs p/\at0 hs p<=n:=λp hp=>by
     have:=h2 _ (List.mem_map_of_mem hp);rw[List.getElem?_eq_getElem (U p hp),Option.getD_some] at this;exact Cert.lo n p _ (List.getElem?_eq_getElem (U p hp)) this
    rcases n6 with⟨p,D,h0⟩|⟨h0,p,D,af⟩
    ·have:=(hp p D).1;omega
    ·have:=(hp p D).2;exact⟨h0,by omega⟩
theorem Cert.hF {i:Nat}{s:Sn}(A:K[i]?=some s):Tryz.hF j s=at0 hs i :=
 wWc (λh0=>h.up _ i s A rfl h0) λn D=>h.lo n i s A D
theorem Cert.reach {s0:Sn}(h0:K[0]?=some s0):ReachOk j s0 K:=by
 have hr:∀(i:Nat) (s:Sn),K[i]?=some s->Rch j s0 s:=by
  intro i
  induction i using Nat.strongRecOn with
  | ind i U =>
   intro s A;have ae:=(lGs A).1;rcases (h.num_ ae).1 with rfl|⟨k,hk,ag,ps,E,af⟩
   ·rw[h0] at A;cases A;exact .refl
   ·obtain⟨sk,D⟩:=yQ1 (l:=K) (k:=k) (by omega);have hc:clC sk=false:=by rw[<- (h.at_ D).1];exact ag
    obtain⟨m,hm,ab⟩:=(h.mv D hc λl=>s∈l).2 ⟨ps,E,List.mem_map.2 ⟨i,af,by rw[A];rfl⟩⟩;exact .step (U k hk sk D) (λhx=>by rw[<- xZb,hc] at hx;cases hx) hm ab
 refine⟨h.nd,λs=>⟨λhs=>?_,λhs=>?_⟩,λs hs hc=>?_,h.len⟩
 ·obtain⟨i,A,rfl⟩:=List.mem_iff_getElem.1 hs;exact hr i _ (List.getElem?_eq_getElem A)
 ·induction hs with
  | refl=>exact lMg h0
  | @step s _ hc m hm p hp U =>
   obtain⟨i,A,rfl⟩:=List.mem_iff_getElem.1 U;have O:clC K[i]=false:=by
    cases hq:clC K[i] with
    | false=>rfl
    | true=>exact absurd ((xZb _).1 hq) hc
   obtain⟨ps,E,aa⟩:=(h.mv (List.getElem?_eq_getElem A) O λl=>p∈l).1 ⟨m,hm,hp⟩;obtain⟨n,hn,rfl⟩:=List.mem_map.1 aa;have J:=(((h.num_ A).2.2 (by rw[(h.at_ (List.getElem?_eq_getElem A)).1];exact O)).2 ps E).1 n hn;rw[List.getElem?_eq_getElem J];exact List.getElem_mem J
 ·rintro⟨f,r,hf,t,ht,p,hp,hl⟩;have h1:=zZq ht p hp;have h2:=List.all_eq_true.1 h.short s hs;simp only[bAt,dTe] at h2;unfold tooL at hl;split at hl<;>omega
end
end Go.Proofs.Tryz
namespace Go.Proofs.Tryz
open Go Go.Iv
set_option maxRecDepth 100000
abbrev faP:Fm:=.mk 1 ⟨#[80]⟩ [] []
abbrev faQ:Fm:=.mk 1 ⟨#[81]⟩ [] []
abbrev fno (a:Fm):Fm:=.mk 3 noN [] [a]
abbrev fbi (o:Nat)(a b:Fm):Fm:=.mk o noN [] [a,b]
noncomputable def vKm (K:List Sn):Decidable K.Nodup:=@List.nodupDecidable Sn (@instDecidableEqProd _ _ (@instDecidableEqList _ vVh) (@instDecidableEqList _ vVh)) K
theorem zZl {j:Bool}{K:List Sn}{cl:List Bool}{lk:List (List (List Nat))}{hs:List Nat}(h1:K.map nfC=K)(h2:@decide K.Nodup (vKm K)=true)(O:K.map clC=cl)
  (J:K.map (λs=>if clC s=true then [] else mvC j s)=lk.map (·.map (·.map λn=>(K[n]?).getD ([],[])))) (E:vY0 K.length cl lk hs=true) (D:(K.all λs=>decide (s.1.length<=60)&&decide (s.2.length<=60))=true) (A:K.length<=20000):Cert j K cl lk hs :=
 ⟨h1,@of_decide_eq_true K.Nodup (vKm K) h2,O,J,E,D,A⟩
def c1K:List Sn:=[([faP,(fbi 6 faP faQ)],[faQ]),([faP,(fbi 6 faP faQ)],[faP]),([faP,faQ,(fbi 6 faP faQ)],[faQ])]
theorem c1:Cert true c1K [false,true,true] [[[1,2]],[],[]] [2,1,1]:=zZl (by kernel_rfl) (by kernel_rfl) (by kernel_rfl) (by kernel_rfl) (by kernel_rfl) (by kernel_rfl) (by decide)
def c2K:List Sn:=[([],[(fbi 5 faP (fno faP))]),([],[faP,(fno faP),(fbi 5 faP (fno faP))]),([faP],[faP,(fno faP),(fbi 5 faP (fno faP))])]
theorem c2:Cert false c2K [false,false,true] [[[1]],[[2],[1]],[]] [3,2,1]:=zZl (by kernel_rfl) (by kernel_rfl) (by kernel_rfl) (by kernel_rfl) (by kernel_rfl) (by kernel_rfl) (by decide)
def c3K:List Sn:=[([],[(fbi 5 faP (fno faP))]),([],[faP]),([],[(fno faP)]),([faP],[(fno faP)])]
theorem c3:Cert true c3K [false,false,false,false] [[[1],[2]],[],[[3]],[[3]]] [0,0,0,0]:=zZl (by kernel_rfl) (by kernel_rfl) (by kernel_rfl) (by kernel_rfl) (by kernel_rfl) (by kernel_rfl) (by decide)
def c4K:List Sn:=[([],[(fno (fno (fbi 5 faP (fno faP))))]),([(fno (fbi 5 faP (fno faP)))],[(fno (fno (fbi 5 faP (fno faP))))]),([(fno (fbi 5 faP (fno faP)))],[(fbi 5 faP (fno faP))]),([(fno (fbi 5 faP (fno faP)))],[faP]),([(fno (fbi 5 faP (fno faP)))],[(fno faP)]),([faP,(fno (fbi 5 faP (fno faP)))],[(fno faP)]),([faP,(fno (fbi 5 faP (fno faP)))],[(fbi 5 faP (fno faP))]),([faP,(fno (fbi 5 faP (fno faP)))],[faP])]
theorem c4:Cert true c4K [false,false,false,false,false,false,false,true] [[[1]],[[2],[1]],[[2],[3],[4]],[[2]],[[2],[5]],[[6],[5]],[[6],[7],[5]],[]] [7,6,5,6,4,3,2,1]:=zZl (by kernel_rfl) (by kernel_rfl) (by kernel_rfl) (by kernel_rfl) (by kernel_rfl) (by kernel_rfl) (by decide)
def c5K:List Sn:=[([(fbi 6 faP (fbi 6 faP faQ))],[(fbi 6 faP faQ)]),([(fbi 6 faP (fbi 6 faP faQ))],[faP,(fbi 6 faP faQ)]),([(fbi 6 faP faQ),(fbi 6 faP (fbi 6 faP faQ))],[(fbi 6 faP faQ)]),([faP,(fbi 6 faP (fbi 6 faP faQ))],[faQ,(fbi 6 faP faQ)]),([(fbi 6 faP faQ),(fbi 6 faP (fbi 6 faP faQ))],[faP,(fbi 6 faP faQ)]),([faP,(fbi 6 faP (fbi 6 faP faQ))],[faP,faQ,(fbi 6 faP faQ)]),([faP,(fbi 6 faP faQ),(fbi 6 faP (fbi 6 faP faQ))],[faQ,(fbi 6 faP faQ)])]
theorem c5:Cert false c5K [false,false,true,false,true,true,true] [[[1,2],[3]],[[1,4],[5]],[],[[5,6],[3]],[],[],[]] [3,2,1,2,1,1,1]:=zZl (by kernel_rfl) (by kernel_rfl) (by kernel_rfl) (by kernel_rfl) (by kernel_rfl) (by kernel_rfl) (by decide)
def c6K:List Sn:=[([(fbi 6 faP (fbi 6 faP faQ))],[(fbi 6 faP faQ)]),([(fbi 6 faP (fbi 6 faP faQ))],[faP]),([(fbi 6 faP faQ),(fbi 6 faP (fbi 6 faP faQ))],[(fbi 6 faP faQ)]),([faP,(fbi 6 faP (fbi 6 faP faQ))],[faQ]),([(fbi 6 faP faQ),(fbi 6 faP (fbi 6 faP faQ))],[faP]),([faP,(fbi 6 faP (fbi 6 faP faQ))],[faP]),([faP,(fbi 6 faP faQ),(fbi 6 faP (fbi 6 faP faQ))],[faQ]),([faQ,(fbi 6 faP faQ),(fbi 6 faP (fbi 6 faP faQ))],[faP]),([faP,(fbi 6 faP faQ),(fbi 6 faP (fbi 6 faP faQ))],[faP]),([faP,faQ,(fbi 6 faP faQ),(fbi 6 faP (fbi 6 faP faQ))],[faQ])]
theorem c6:Cert true c6K [false,false,true,false,false,true,false,false,true,true] [[[1,2],[3]],[[1,4]],[],[[5,6]],[[4,7],[4,4]],[],[[8,9],[8,6]],[[7,7],[7,7]],[],[]] [4,0,1,3,0,1,2,0,1,1]:=zZl (by kernel_rfl) (by kernel_rfl) (by kernel_rfl) (by kernel_rfl) (by kernel_rfl) (by kernel_rfl) (by decide)
theorem yGj {j:Bool}{K:List Sn}{cl:List Bool}{lk:List (List (List Nat))}{hs:List Nat}(h:Cert j K cl lk hs){s:Sn}(h0:K[0]?=some (nfC s)):hF j s=at0 hs 0/\ReachOk j (nf s) K:=by
 rw[<- xJi,nf_C];exact⟨h.hF h0,h.reach h0⟩
theorem aw1:hF true ([fbi 6 faP faQ,faP],[faQ])=2/\ReachOk true (nf ([fbi 6 faP faQ,faP],[faQ])) c1K:=yGj c1 (by kernel_rfl)
theorem aw2:hF false ([],[fbi 5 faP (fno faP)])=3/\ReachOk false (nf ([],[fbi 5 faP (fno faP)])) c2K:=yGj c2 (by kernel_rfl)
theorem aw3:hF true ([],[fbi 5 faP (fno faP)])=0/\ReachOk true (nf ([],[fbi 5 faP (fno faP)])) c3K:=yGj c3 (by kernel_rfl)
theorem aw4:hF true ([],[fno (fno (fbi 5 faP (fno faP)))])=7/\ReachOk true (nf ([],[fno (fno (fbi 5 faP (fno faP)))])) c4K:=yGj c4 (by kernel_rfl)
theorem aw5:hF false ([fbi 6 faP (fbi 6 faP faQ)],[fbi 6 faP faQ])=3/\ReachOk false (nf ([fbi 6 faP (fbi 6 faP faQ)],[fbi 6 faP faQ])) c5K:=yGj c5 (by kernel_rfl)
theorem aw6:hF true ([fbi 6 faP (fbi 6 faP faQ)],[fbi 6 faP faQ])=4/\ReachOk true (nf ([fbi 6 faP (fbi 6 faP faQ)],[fbi 6 faP faQ])) c6K:=yGj c6 (by kernel_rfl)
end Go.Proofs.Tryz
namespace Go.Proofs.Tryz
open Go Go.Iv
set_option maxRecDepth 100000
noncomputable def mvD (j:Bool)(s:Sn):List (Nat×Fm×List Sn):=(s.1.flatMap λf=>(addF j f false).map λt=>(t.1,f,t.2.map (pmC j s)))++s.2.flatMap λf=>(addF j f true).map λt=>(t.1,f,t.2.map (pmC j s))
theorem vKr (j:Bool)(s:Sn):mvF j s=mvD j s:=by
 have h:xQ3 j s=pmC j s:=funext λp=>nf_C _;unfold mvF yUy mvD;rw[h]
abbrev imPQ:Fm:=fbi 6 faP faQ
abbrev orP:Fm:=fbi 5 faP (fno faP)
theorem aw1m:mvF true (nf ([imPQ,faP],[faQ]))=[(9,imPQ,[([faP,imPQ],[faP]),([faP,faQ,imPQ],[faQ])])]:=by
 rw[nf_C,vKr];kernel_rfl
theorem aw1c:¬ ClF ([imPQ,faP]:List Fm) [faQ]:=λh=>by
 have:=(xZb ([imPQ,faP],[faQ])).2 h;exact absurd this (by rw[show clC ([imPQ,faP],[faQ])=false by kernel_rfl];decide)
theorem xKj {l:List Fm}{f:Fm}(h:(decide (l.length<=64)&&l.all (fmB 2)&&fmB 2 f)=true):yQo 2 ⟨l,[f]⟩=true:=by
 simp only[bAt] at h;obtain⟨⟨h1,h2⟩,A⟩:=h;have D:f.right=true:=by unfold fmB at A;exact (bAt _ _▸A).1
 unfold yQo;have E:eqF f f=true:=by unfold eqF zQl;rw[D,dEt rfl];simp[eqB]
 simp only[h1,h2,A,zZg,List.all_cons,List.all_nil,E,Bool.and_true,Bool.or_true];rfl
theorem awv1:yQo 2 ⟨[imPQ,faP],[faQ]⟩=true:=xKj (by kernel_rfl)
theorem awv2:yQo 1 ⟨[],[orP]⟩=true:=by kernel_rfl
theorem awv3:yQo 2 ⟨[],[orP]⟩=true:=xKj (by kernel_rfl)
theorem awv4:yQo 2 ⟨[],[fno (fno orP)]⟩=true:=xKj (by kernel_rfl)
theorem awv5:yQo 1 ⟨[fbi 6 faP imPQ],[imPQ]⟩=true:=by kernel_rfl
theorem awv6:yQo 2 ⟨[fbi 6 faP imPQ],[imPQ]⟩=true:=xKj (by kernel_rfl)
theorem ReachOk.no' {j:Bool}{s0:Sn}{K:List Sn}(h:ReachOk j s0 K){e:Nat}(A:yUf j s0 e):False:=h.no .refl A
theorem ReachOk.top {j:Bool}{s0:Sn}{K:List Sn}(h:ReachOk j s0 K)(hc:¬ ClF s0.1 s0.2):¬ zG7 j s0:=h.short s0 ((h.mem s0).2 .refl) hc
end Go.Proofs.Tryz
namespace Go.Proofs.Tryz
open Go Go.Iv
set_option maxRecDepth 4000
variable (gl:Nat->Option IV)
theorem h_p (n:ByteArray)(st:ISt):ICall prog gl 14 [.raw (.string n)] st (λr st'=>r=.agg [.raw (.int .u8 1),.raw (.string n),.sl ⟨true,.nil,0⟩ [],.sl ⟨true,.nil,0⟩ []]/\st'=st):=by
 refine iI func14 ?_;simp only[go_sem,zE,zA,zL,reduceCtorEq,fits];exact yQ0 ⟨rfl,rfl⟩
theorem h_no (o:Int)(n:ByteArray)(t:Tag)(x:List IV)(D:Tag)(A:List IV)(st:ISt):ICall prog gl 22 [.agg [.raw (.int .u8 o),.raw (.string n),.sl t x,.sl D A]] st
  (λr st'=>r=.agg [.raw (.int .u8 3),.raw (.string ⟨#[]⟩),.sl ⟨true,.nil,0⟩ [],.sl ⟨true,.full,4⟩ [.agg [.raw (.int .u8 o),.raw (.string n),.sl t x,.sl D A]]]/\st'=st):=by
 refine iI func22 ?_;simp only[go_sem,zE,zA,zM,zL,fits,yQ4];exact yQ0 ⟨rfl,rfl⟩
theorem xQt (op o:Int)(n:ByteArray)(t:Tag)(x:List IV)(O:Tag)(J:List IV)(U:Int)(n2:ByteArray)(t2:Tag)(E:List IV)(D:Tag)(A:List IV)(st:ISt) :
  ICall prog gl 24 [.raw (.int .u8 op),.agg [.raw (.int .u8 o),.raw (.string n),.sl t x,.sl O J],.agg [.raw (.int .u8 U),.raw (.string n2),.sl t2 E,.sl D A]] st
  (λr st'=>r=.agg [.raw (.int .u8 op),.raw (.string ⟨#[]⟩),.sl ⟨true,.nil,0⟩ [],.sl ⟨true,.full,4⟩ [.agg [.raw (.int .u8 o),.raw (.string n),.sl t x,.sl O J],.agg [.raw (.int .u8 U),.raw (.string n2),.sl t2 E,.sl D A]]]/\st'=st):=by
 refine iI func24 ?_;simp only[go_sem,zE,zA,zM,zL,reduceCtorEq,fits,yX6];exact yQ0 ⟨rfl,rfl⟩
theorem h_fs (t:Tag)(A:List IV)(st:ISt):ICall prog gl 13 [.sl t A] st (λr st'=>r=.sl t A/\st'=st):=by
 refine iI func13 ?_;simp only[go_sem,reduceCtorEq];exact yQ0 ⟨rfl,rfl⟩
theorem h_sq (t:Tag)(A:List IV)(D:Tag)(ys:List IV)(st:ISt):ICall prog gl 23 [.sl t A,.sl D ys] st (λr st'=>r=.agg [.sl t A,.sl D ys]/\st'=st):=by
 refine iI func23 ?_;simp only[go_sem,zE,zA,zL,reduceCtorEq,fits];exact yQ0 ⟨rfl,rfl⟩
abbrev sI (s:Sq):IV:=.agg [.sl (tagF s.l) (fmsI s.l),.sl (tagF s.r) (fmsI s.r)]
theorem zQw (s:Sq)(h:(zW5 s.l&&zW5 s.r)=true):IsSq s (sI s):=by
 rw[bAt] at h;exact⟨_,_,_,_,rfl,xX4 _,zGr _ h.1,xX4 _,zGr _ h.2⟩
theorem zZa (G:Gl gl)(T:Gt gl)(ca:Nat)(s:Sq)(hc:ca=1\/ca=2)(hv:yQo ca s=true){n:Nat}{K:List Sn}(hK:hF (calJ ca) (s.l,s.r)=n/\ReachOk (calJ ca) (nf (s.l,s.r)) K)(x:IV)(hx:IsSq s x)(hs:yXx s)(st:ISt) :
  ICall prog gl 18 [.raw (.int .u8 (ca:Int)),x] st (λr st'=>r=.tup [.raw (.int .i64 (n:Int)),.raw (.int .i64 0)]/\st'=st) :=
 (xVr gl G T ca s x hx hs st).mono λr st' ⟨h1,h2⟩=>by
  rcases h2 with⟨e,D,_⟩|⟨_,_,_,A⟩
  ·rcases D with⟨h,_⟩|⟨_,h,_⟩|⟨_,_,h⟩
   ·exact (h hc).elim
   ·rw[hv] at h;cases h
   ·exact (hK.2.no' h).elim
  ·rw[hK.1] at A;exact⟨A,h1⟩
theorem wQs (G:Gl gl)(T:Gt gl)(ca:Nat)(s:Sq)(hc:ca=1\/ca=2)(hv:yQo ca s=true){n:Nat}{K:List Sn}(hK:hF (calJ ca) (s.l,s.r)=n/\ReachOk (calJ ca) (nf (s.l,s.r)) K)(x:IV)(hx:IsSq s x)(hs:yXx s)(st:ISt) :
  ICall prog gl 17 [.raw (.int .u8 (ca:Int)),x] st (λr st'=>r=.tup [.raw (.int .i64 (K.length:Int)),.raw (.int .i64 0)]/\st'=st) :=
 (wVd gl G T ca s x hx hs st).mono λr st' ⟨h1,h2⟩=>by
  rcases h2 with⟨e,D,_⟩|⟨_,_,K',E,A⟩
  ·rcases D with⟨h,_⟩|⟨_,h,_⟩|⟨_,_,h⟩
   ·exact (h hc).elim
   ·rw[hv] at h;cases h
   ·exact (hK.2.no' h).elim
  ·rw[E.len_eq hK.2.nodup hK.2.mem] at A;exact⟨A,h1⟩
theorem wWw (G:Gl gl)(T:Gt gl)(ca:Nat)(s:Sq)(hc:ca=1\/ca=2)(hv:yQo ca s=true)(A:¬ ClF s.l s.r)(x:IV)(hx:IsSq s x)(hs:yXx s)(st:ISt) :
  ICall prog gl 15 [.raw (.int .u8 (ca:Int)),x] st (λr st'=>r=.tup [.raw (.bool false),.raw (.int .i64 0)]/\st'=st) :=
 (xWv gl G T ca s x hx hs st).mono λr st' ⟨h1,h2⟩=>by
  rcases h2 with⟨h,_⟩|⟨_,h,_⟩|⟨_,_,b,D,E⟩
  ·exact (h hc).elim
  ·rw[hv] at h;cases h
  ·cases b
   ·exact⟨E,h1⟩
   ·exact (A (D.1 rfl)).elim
theorem wZe (G:Gl gl)(T:Gt gl)(ca:Nat)(s:Sq)(hc:ca=1\/ca=2)(hv:yQo ca s=true)(A:¬ zG7 (calJ ca) (nf (s.l,s.r)))(x:IV)(hx:IsSq s x)(hs:yXx s)(st:ISt) :
  ICall prog gl 16 [.raw (.int .u8 (ca:Int)),x] st (λr st'=>(∃t ys,okEs t 6/\AllR vZp (mvF (calJ ca) (nf (s.l,s.r))) ys/\r=.tup [.sl t ys,.raw (.int .i64 0)])/\st'=st) :=
 (wZg gl G T ca s x hx hs st).mono λr st' ⟨h1,h2⟩=>by
  rcases h2 with⟨h,_⟩|⟨_,h,_⟩|⟨_,_,⟨h,_⟩|⟨_,D⟩⟩
  ·exact (h hc).elim
  ·rw[hv] at h;cases h
  ·exact (A h).elim
  ·exact⟨D,h1⟩
theorem wUy (G:Gl gl)(T:Gt gl)(ca:Nat)(s:Sq)(hc:ca=1\/ca=2)(hv:yQo ca s=true){K:List Sn}(hK:hF (calJ ca) (s.l,s.r)=0/\ReachOk (calJ ca) (nf (s.l,s.r)) K)(x:IV)(hx:IsSq s x)(hs:yXx s)(bound:Int)(st:ISt) :
  ICall prog gl 19 [.raw (.int .u8 (ca:Int)),x,.raw (.int .i64 bound)] st (λr st'=>r=.tup [zT,.raw (.int .i64 6)]/\st'=st) :=
 (wVi gl G T ca s x hx hs bound (λ_ _=>.inl hK.1) st).mono λr st' ⟨h1,h2⟩=>by
  rcases h2 with⟨e,A,_⟩|⟨_,_,D⟩
  ·rcases A with⟨h,_⟩|⟨_,h,_⟩|⟨_,_,h⟩
   ·exact (h hc).elim
   ·rw[hv] at h;cases h
   ·exact (hK.2.no' h).elim
  ·exact⟨D,h1⟩
end Go.Proofs.Tryz
namespace Go.Proofs.Tryz
open Go Go.Iv
mutual
def naF:Fm->List Fm
 | .mk o n us sub=>(if o=1\/o=2 then [] else yJb (.mk o n us sub))++naFs sub
def naFs:List Fm->List Fm
 | []=>[]
 | a::l=>naF a++naFs l
end
theorem xXp {o:Nat}{us:List Tm}{n:ByteArray}{sub:List Fm}(h:o≠7):yJb (.mk o n us sub)=[.mk o n us sub]:=by
 unfold yJb;split
 ·rename_i A;cases A;exact absurd rfl h
 ·rfl
theorem vQa {f:Fm}(J:PF f):(naF f).length=wtF f:=by
 induction J with
 | atom n=>simp[naF,naFs,wtF]
 | fls=>simp[naF,naFs,wtF]
 | neg _ E=>simp[naF,naFs,wtF,wtFs,xXp,E];omega
 | @bin o a b U O _ _ D A =>
  by_cases h:o=7
  ·subst h;simp[naF,naFs,wtF,wtFs,D,A,yJb];omega
  ·simp only[naF,naFs,wtF,wtFs,xXp h,List.append_nil,lLa,D,A,if_neg (show ¬ (o=1\/o=2) by omega),if_neg h,List.length_singleton];omega
theorem zG3:∀ {l:List Fm},(∀f∈l,PF f)->(naFs l).length=wtFs l
 | [],_=>rfl
 | a::l,h=>by
  rw[naFs,wtFs,lLa,vQa (h a (.head _)),zG3 λf A=>h f (.tail _ A)]
theorem xWw {f:Fm}(hf:PF f):∀g∈cloF f,g∈naF f\/g=.mk 2 noN [] []\/∃n,g=.mk 1 n [] []/\symIn (yZf f) n 0:=by
 induction hf with
 | atom n =>
  intro g A;simp[cloF,yZb,yJb] at A;exact .inr (.inr ⟨n,A,[],[],by simp[yZf],rfl⟩)
 | fls=>intro g A;simp[cloF,yZb,yJb] at A;exact .inr (.inl A)
 | neg _ O =>
  intro g A;rcases zZj.1 A with rfl|A
  ·left;rw[naF,xXp (by decide)];simp
  ·rcases O g A with h|h|⟨n,h1,us,sub,h2,D⟩
   ·left;rw[naF,naFs];simp[h]
   ·exact .inr (.inl h)
   ·exact .inr (.inr ⟨n,h1,us,sub,by simp[yZf,yQz,h2],D⟩)
 | @bin o a b h4 h7 _ _ J E =>
  intro g A;have U:¬ (o=1\/o=2):=by omega
  simp only[cloF,yZb,List.append_nil,List.mem_append] at A;rcases A with A|A|A
  ·left;rw[naF,if_neg U];exact List.mem_append_left _ A
  ·rcases J g A with h|h|⟨n,h1,us,sub,h2,D⟩
   ·left;rw[naF,naFs,naFs];simp[h]
   ·exact .inr (.inl h)
   ·exact .inr (.inr ⟨n,h1,us,sub,by simp[yZf,yQz,h2],D⟩)
  ·rcases E g A with h|h|⟨n,h1,us,sub,h2,D⟩
   ·left;rw[naF,naFs,naFs];simp[h]
   ·exact .inr (.inl h)
   ·exact .inr (.inr ⟨n,h1,us,sub,by simp[yZf,yQz,h2],D⟩)
theorem zG2 {g f:Fm}:∀ {l:List Fm},f∈l->g∈naF f->g∈naFs l
 | a::l,h,A=>by
  rw[naFs];rcases List.mem_cons.1 h with rfl|h
  ·exact List.mem_append_left _ A
  ·exact List.mem_append_right _ (zG2 h A)
theorem yVx {ca:Nat}{s:Sq}(h:yQo ca s=true):∀f∈s.l++s.r,fmB ca f=true:=by
 unfold yQo at h;simp only[bAt,dTe,List.all_eq_true] at h;obtain⟨⟨⟨⟨⟨_,hl⟩,J⟩,D⟩,A⟩,_⟩:=h;exact λf E=>(List.mem_append.1 E).elim (D f) (A f)
theorem zQv (l:List Fm):(setF l).Nodup:=by
 have:=(xXn l).1;exact this.imp λ{a b} h=>by rintro rfl;rw[(yJ4 a a).2 rfl] at h;omega
theorem wQt {j:Bool}{s:Sn}(hp:∀f∈s.1++s.2,PF f){s':Sn}(h:Rch j (nf s) s'):(s'.1.Nodup/\s'.2.Nodup)/\(∀g∈s'.1,g∈yZb (s.1++s.2))/\∀g∈s'.2,g∈yZb (s.1++s.2):=by
 induction h with
 | refl=>exact⟨⟨zQv _,zQv _⟩,λg E=>yJ6.2 ⟨g,List.mem_append_left _ (yZw.1 E),yWy g⟩,λg E=>yJ6.2 ⟨g,List.mem_append_right _ (yZw.1 E),yWy g⟩⟩
 | @step s1 _ hc m hm p aa ih =>
  obtain⟨_,O,J⟩:=ih;have key:∀(r:Bool) (f:Fm),f∈yZb (s.1++s.2)->m∈yUy j s1 r f->(p.1.Nodup/\p.2.Nodup)/\(∀g∈p.1,g∈yZb (s.1++s.2))/\∀g∈p.2,g∈yZb (s.1++s.2):=λr f U ab=>by
   obtain⟨t,ht,rfl⟩:=List.mem_map.1 ab;obtain⟨q,hq,rfl⟩:=List.mem_map.1 aa;obtain⟨f0,D,ac⟩:=yJ6.1 U;obtain⟨k1,k2⟩:=wJi (hp f0 D) f ac j r t ht q hq;refine⟨⟨zQv _,zQv _⟩,λg E=>?_,λg E=>?_⟩
   ·rcases List.mem_append.1 (yZw.1 E) with h|h
    ·exact O g h
    ·exact yJ6.2 ⟨f0,D,k1 g h⟩
   ·have A:=yZw.1 E;unfold rgt at A;split at A
    ·exact yJ6.2 ⟨f0,D,k2 g A⟩
    ·rcases List.mem_append.1 A with h|h
     ·exact J g h
     ·exact yJ6.2 ⟨f0,D,k2 g h⟩
  rcases List.mem_append.1 hm with hm|hm
  ·obtain⟨f,U,hm⟩:=List.mem_flatMap.1 hm;exact key false f (O f U) hm
  ·obtain⟨f,U,hm⟩:=List.mem_flatMap.1 hm;exact key true f (J f U) hm
theorem FewS.short {ca:Nat}{s:Sq}(h:FewS ca s 8){e:Nat}(hb:BadR ca s e):e=4:=by
 obtain⟨hc,hl,hv,l,hnd,ab,ac⟩:=h;have A:∀f∈s.l++s.r,PF f:=λf hf=>zJn (by omega) (yVx hv f hf);rcases hb with⟨h,_⟩|⟨_,h,_⟩|⟨_,_,⟨h,_⟩|⟨_,s',hr,_,f,r,hf,t,ht,p,hp,E⟩⟩
 ·exact (h hc).elim
 ·rw[hv] at h;cases h
 ·exact h
 ·exfalso;obtain⟨⟨n1,n2⟩,m1,m2⟩:=wQt (s:=(s.l,s.r)) A hr;have hw:wtFs (s.l++s.r)<=8:=by
   unfold yYn at hl;simp only[bAt,dTe] at hl;rw[yKq];exact hl.2
  have J:∀g∈yZb (s.l++s.r),g∈l.map (λn=>Fm.mk 1 n [] [])++(.mk 2 noN [] []::naFs (s.l++s.r)):=λg O=>by
   obtain⟨f0,D,U⟩:=yJ6.1 O;rcases xWw (A f0 D) g U with h|rfl|⟨n,rfl,h⟩
   ·exact List.mem_append_right _ (.tail _ (zG2 D h))
   ·exact List.mem_append_right _ (.head _)
   ·exact List.mem_append_left _ (List.mem_map.2 ⟨n,(ab n).2 ⟨f0,D,0,h⟩,rfl⟩)
  have aa:(l.map (λn=>Fm.mk 1 n [] [])++(.mk 2 noN [] []::naFs (s.l++s.r))).length<=17:=by
   rw[lLa,List.length_map,List.length_cons,zG3 A];omega
  have c1:=yK9 n1 λg O=>J g (m1 g O);have c2:=yK9 n2 λg O=>J g (m2 g O);have hs:=zZq ht p hp;rcases E with h|h
  ·omega
  ·split at h<;>omega
end Go.Proofs.Tryz
namespace Go.Proofs.Tryz
open Go Go.Iv
theorem xQs {j:Bool}{s0:Sn}:∀(n:Nat) (s:Sn),Rch j s0 s->hF j s=n->∃L:List Sn,L.length=n/\L.Nodup/\∀t∈L,Rch j s0 t/\hF j t<=n
 | 0,s,_,_=>⟨[],rfl,List.nodup_nil,nofun⟩
 | 1,s,h,U=>⟨[s],rfl,by simp,λt ht=>by rw[List.mem_singleton.1 ht];exact⟨h,by omega⟩⟩
 | n+2,s,h,U=>by
  have hc:¬ ClF s.1 s.2:=λhc=>by rw[zQ5 hc] at U;omega
  have hp:=zWl (j:=j) (s:=s) (by omega);rw[U] at hp;obtain⟨m,hm,D⟩:=(yK1.1 hp).resolve_left hc;have O:∃p∈m.2.2,hF j p=n+1:=by
   apply Classical.byContradiction;intro J;have:HtS j (n+1) s:=yK1.2 (.inr ⟨m,hm,λp A=>by
    have h1:=zK9 (D p A);have h2:hF j p≠n+1:=λh=>J ⟨p,A,h⟩;exact h1.1.up (by omega)⟩)
   have:=(zK9 this).2.1;omega
  obtain⟨p,A,E⟩:=O;obtain⟨L,h1,h2,h3⟩:=xQs (n+1) p (.step h hc hm A) E;refine⟨s::L,by rw[List.length_cons,h1],List.nodup_cons.2 ⟨λhs=>?_,h2⟩,λt ht=>?_⟩
  ·have:=(h3 s hs).2;omega
  ·rcases List.mem_cons.1 ht with rfl|ht
   ·exact⟨h,by omega⟩
   ·exact⟨(h3 t ht).1,by have:=(h3 t ht).2;omega⟩
theorem ReachOk.height {j:Bool}{s0 s:Sn}{K:List Sn}(h:ReachOk j s0 K)(A:Rch j s0 s):hF j s<=K.length:=by
 obtain⟨L,h1,h2,D⟩:=xQs _ s A rfl;rw[<- h1];exact yK9 h2 λt ht=>(h.mem t).2 (D t ht).1
end Go.Proofs.Tryz
namespace Go.Proofs.Tryz
open Go Go.Iv
set_option maxRecDepth 4000
variable (gl:Nat->Option IV)
theorem xU6 (l m:List Sq)(t t':Tag)(xs ys:List IV)(ht:okEs t 2)(af:okEs t' 2)(hx:IsSqs l xs)(hy:IsSqs m ys)(st:ISt) :
  ICall prog gl 34 [.sl t xs,.sl t' ys] st (λr st'=>r=.raw (.bool (eqB l m))/\st'=st):=by
 refine iI func34 ?_;simp only[go_sem,zE,reduceCtorEq,hx.len,hy.len];intro am al;by_cases A:l.length=m.length
 case neg =>
  simp only[go_sem,show decide (((l.length:Nat):Int)=m.length)=false from dEf (by omega)];exact yQ0 ⟨by rw[yQl.2 λh=>A (by rw[h])],rfl⟩
 simp only[go_sem,show decide (((l.length:Nat):Int)=m.length)=true from dEt (by omega)];refine LoopC.ctr l.length (λk fr st' ds=>l.take k=m.take k/\fr 0=.iv (.sl t xs)/\fr 1=.iv (.sl t' ys)/\fr 5=.iv (.raw (.int .i64 k))/\st'=st/\ds=[]) ?_ ?_ ?_
 ·simp only[go_sem,zE,reduceCtorEq];simp
 ·rintro k fr J _ D ⟨hn,f0,f1,f5,rfl,rfl⟩;obtain⟨a,ha⟩:=yQ1 D;obtain⟨b,hb⟩:=yQ1 (l:=m) (k:=k) (by omega);obtain⟨x,ah,U⟩:=hx.get ha;obtain⟨y,ag,O⟩:=hy.get hb;have E:=xGg gl a b x y U O J;obtain⟨_,_,_,_,rfl⟩:=IsSq.two U;obtain⟨_,_,_,_,rfl⟩:=IsSq.two O;simp only[go_sem,zE,zB,zA,reduceCtorEq,f0,f1,f5,hx.len,lt_i D,yQ3 ht,yQ3 af,iNn,ah,ag,fits];intros;refine E.mono ?_;rintro _ _ ⟨rfl,rfl⟩;cases hq:eqB a b
  ·simp only[go_sem];refine yQ0 ⟨?_,rfl⟩;rw[yQl.2 λh=>?_];subst h;rw[ha] at hb;cases hb;exact yQl.1 hq rfl
  ·simp only[go_sem,zE,reduceCtorEq,f0,f1,f5,yQc D (show l.length<=281474976710656 by omega)];rw[yQ7 ha,yQ7 hb,hn,yZ3.1 hq]
 ·rintro fr J _ ⟨hn,f0,f1,f5,rfl,rfl⟩;rw[lTl,show m.take l.length=m by rw[A,lTl]] at hn;simp only[go_sem,zE,reduceCtorEq,f0,f5,hx.len,yQi (nLi _)];intros;exact yQ0 ⟨by rw[yZ3.2 hn],rfl⟩
end Go.Proofs.Tryz
namespace Go.Proofs.Tryz
open Go Go.Iv
set_option maxRecDepth 8000
variable (gl:Nat->Option IV)
theorem wQ0:∀ {l:List Sn}{A:List IV},AllR (λp y=>IsSq ⟨p.1,p.2⟩ y) l A->IsSqs (l.map λp=>⟨p.1,p.2⟩) A
 | [],A,h=>by
  have:=h.1;obtain rfl:A=[]:=List.eq_nil_of_length_eq_zero this;simp[IsSqs]
 | p::l,A,h=>by
  obtain⟨x,h0,hx⟩:=h.2 0 p rfl;cases A with
  | nil=>cases h0
  | cons y ys =>
   obtain rfl:y=x:=by simpa using h0
   exact⟨y,ys,rfl,hx,wQ0 ⟨by have:=h.1;simpa using this,λi a D=>h.2 (i+1) a D⟩⟩
theorem yYb {s:Sq}(h:(s.l.all (λf=>decide (f.size<=1000000))&&s.r.all (λf=>decide (f.size<=1000000)))=true):yXx s:=by
 simp only[bAt,List.all_eq_true,dTe] at h;exact h
theorem vV1 (x y z:Operand):yJx 3 [(0,x),(1,y),(2,z)]=true:=rfl
theorem wWb (G:Gl gl)(T:Gt gl)(st:ISt):ICall prog gl 10 [] st (λr st'=>r=.raw (.bool true)/\st'=st):=by
 have hM:=λst=>wZe gl G T 2 ⟨[imPQ,faP],[faQ]⟩ (.inr rfl) awv1 (aw1.2.top λh=>aw1c ((wJj _).1 h)) (sI ⟨[imPQ,faP],[faQ]⟩) (zQw _ (by decide)) (yYb (by decide)) st;rw[show mvF (calJ 2) (nf ([imPQ,faP],[faQ]))=_ from aw1m] at hM;have af:=λst=>zZa gl G T 2 ⟨[imPQ,faP],[faQ]⟩ (.inr rfl) awv1 aw1 (sI ⟨[imPQ,faP],[faQ]⟩) (zQw _ (by decide)) (yYb (by decide)) st;have J:=λst=>wQs gl G T 2 ⟨[imPQ,faP],[faQ]⟩ (.inr rfl) awv1 aw1 (sI ⟨[imPQ,faP],[faQ]⟩) (zQw _ (by decide)) (yYb (by decide)) st;have ag:=λst=>wWw gl G T 2 ⟨[imPQ,faP],[faQ]⟩ (.inr rfl) awv1 aw1c (sI ⟨[imPQ,faP],[faQ]⟩) (zQw _ (by decide)) (yYb (by decide)) st;have ae:=λst=>zZa gl G T 1 ⟨[],[orP]⟩ (.inl rfl) awv2 aw2 (sI ⟨[],[orP]⟩) (zQw _ (by decide)) (yYb (by decide)) st;have ac:=λst=>zZa gl G T 2 ⟨[],[orP]⟩ (.inr rfl) awv3 aw3 (sI ⟨[],[orP]⟩) (zQw _ (by decide)) (yYb (by decide)) st;have E:=λst=>wQs gl G T 2 ⟨[],[orP]⟩ (.inr rfl) awv3 aw3 (sI ⟨[],[orP]⟩) (zQw _ (by decide)) (yYb (by decide)) st;have O:=λst=>wUy gl G T 2 ⟨[],[orP]⟩ (.inr rfl) awv3 aw3 (sI ⟨[],[orP]⟩) (zQw _ (by decide)) (yYb (by decide)) 99 st;have ab:=λst=>zZa gl G T 2 ⟨[],[fno (fno orP)]⟩ (.inr rfl) awv4 aw4 (sI ⟨[],[fno (fno orP)]⟩) (zQw _ (by decide)) (yYb (by decide)) st;have aa:=λst=>zZa gl G T 1 ⟨[fbi 6 faP imPQ],[imPQ]⟩ (.inl rfl) awv5 aw5 (sI ⟨[fbi 6 faP imPQ],[imPQ]⟩) (zQw _ (by decide)) (yYb (by decide)) st;have U:=λst=>zZa gl G T 2 ⟨[fbi 6 faP imPQ],[imPQ]⟩ (.inr rfl) awv6 aw6 (sI ⟨[fbi 6 faP imPQ],[imPQ]⟩) (zQw _ (by decide)) (yYb (by decide)) st;refine ICall.intro (c:=cf prog gl [] [(2,[0,8,1,2,3,4,5,6,7,9]),(7,[0,1,2,3,4,5,6,7,8,9,10,11,12,13,14,15,16,17,18,19,20,21,22,23,24,25,26,27,28,29,30,31,32,33,34,35,37,46,36,38,39,40,41,42,43,44,45,47,48,49,50,51,52,53,54,55,56]),(15,[1,5,6,9,0,2,3,4,7,8,10])]) func10 rfl (by show _<=216;simp) (by kernel_rfl) ?_;simp only[go_sem,zA,zL,yVl]
 repeat ((first|refine (h_p gl _ _).mono ?_|refine (h_no gl _ _ _ _ _ _ _).mono ?_|refine (xQt gl _ _ _ _ _ _ _ _ _ _ _ _ _ _).mono ?_|refine (h_fs gl _ _ _).mono ?_|refine (h_sq gl _ _ _ _ _).mono ?_);rintro _ st ⟨rfl,rfl⟩;simp only[go_sem,zE,zA,zM,zL,fits,yQ4,yX6,yVl,fits])
 refine (hM _).mono ?_;rintro _ st ⟨⟨t,ys,ht,hys,rfl⟩,rfl⟩;obtain⟨y,A,hy⟩:=hys.2 0 _ rfl;obtain rfl:ys=[y]:=by
  cases ys with
  | nil=>cases A
  | cons z zs =>
   obtain rfl:z=y:=by simpa using A
   cases zs with
   | nil=>rfl
   | cons w ws=>have:=hys.1;simp at this
 obtain⟨o,n,t1,x1,t2,x2,t3,x3,rfl,hf,e3,h3⟩:=hy;have hp2:IsSqs [⟨[faP,imPQ],[faP]⟩,⟨[faP,faQ,imPQ],[faQ]⟩] [sI ⟨[faP,imPQ],[faP]⟩,sI ⟨[faP,faQ,imPQ],[faQ]⟩]:=⟨_,_,rfl,zQw _ (by decide),_,_,rfl,zQw _ (by decide),rfl⟩
 have hS:=λst=>xU6 gl _ _ t3 ⟨true,.full,2⟩ x3 [sI ⟨[faP,imPQ],[faP]⟩,sI ⟨[faP,faQ,imPQ],[faQ]⟩] e3 (by simp[okEs]) (wQ0 h3) hp2 st;simp only[go_sem,zE,zA,zL];refine (af _).mono ?_;rintro _ st ⟨rfl,rfl⟩;simp only[go_sem,zE,zA,zL];refine (J _).mono ?_;rintro _ st ⟨rfl,rfl⟩;simp only[go_sem,zE,zA,zL];refine (ag _).mono ?_;rintro _ st ⟨rfl,rfl⟩;have hz:IntKind.i64.wrap ((0:Int)+(0:Int))=0:=rfl;have D:=yQ3 ht;have d1:decide (((2:Nat):Int)=2)=true:=rfl;have d2:decide ((c1K.length:Int)=3)=true:=rfl;have d3:decide (((9:Nat):Int)=9)=true:=rfl;have d4:decide (((1:Nat):Int)=1)=true:=rfl;have z0:((0:Int)<=0)=True:=eq_true (by decide);have z1:Int.toNat 0=0:=rfl;simp only[go_sem,zE,zA,zL,fits,hz,D,d1,d2,d3,d4,z0,z1,decide_true]
 repeat ((first|refine (h_p gl _ _).mono ?_|refine (h_no gl _ _ _ _ _ _ _).mono ?_|refine (xQt gl _ _ _ _ _ _ _ _ _ _ _ _ _ _).mono ?_|refine (h_fs gl _ _ _).mono ?_|refine (h_sq gl _ _ _ _ _).mono ?_);rintro _ st ⟨rfl,rfl⟩;simp only[go_sem,zE,zA,zM,zL,fits,yQ4,yX6,vV1,yVl,fits])
 refine (hS _).mono ?_;rintro _ st ⟨rfl,rfl⟩;have hq:eqB ([⟨[faP,imPQ],[faP]⟩,⟨[faP,faQ,imPQ],[faQ]⟩]:List Sq) [⟨[faP,imPQ],[faP]⟩,⟨[faP,faQ,imPQ],[faQ]⟩]=true:=yZ3.2 rfl;simp only[go_sem,zE,zA,hq]
 repeat ((first|refine (h_p gl _ _).mono ?_|refine (h_no gl _ _ _ _ _ _ _).mono ?_|refine (xQt gl _ _ _ _ _ _ _ _ _ _ _ _ _ _).mono ?_|refine (h_fs gl _ _ _).mono ?_|refine (h_sq gl _ _ _ _ _).mono ?_);rintro _ st ⟨rfl,rfl⟩;simp only[go_sem,zE,zA,zM,zL,fits,yQ4,yVl,fits])
 refine (ae _).mono ?_;rintro _ st ⟨rfl,rfl⟩;simp only[go_sem,zE,zA,zM,zL,fits,yQ4]
 repeat ((first|refine (h_p gl _ _).mono ?_|refine (h_no gl _ _ _ _ _ _ _).mono ?_|refine (xQt gl _ _ _ _ _ _ _ _ _ _ _ _ _ _).mono ?_|refine (h_fs gl _ _ _).mono ?_|refine (h_sq gl _ _ _ _ _).mono ?_);rintro _ st ⟨rfl,rfl⟩;simp only[go_sem,zA])
 refine (ac _).mono ?_;rintro _ st ⟨rfl,rfl⟩;simp only[go_sem,zE,zA,zM,zL,fits,yQ4]
 repeat ((first|refine (h_p gl _ _).mono ?_|refine (h_no gl _ _ _ _ _ _ _).mono ?_|refine (xQt gl _ _ _ _ _ _ _ _ _ _ _ _ _ _).mono ?_|refine (h_fs gl _ _ _).mono ?_|refine (h_sq gl _ _ _ _ _).mono ?_);rintro _ st ⟨rfl,rfl⟩;simp only[go_sem,zA])
 refine (E _).mono ?_;rintro _ st ⟨rfl,rfl⟩;simp only[go_sem,zE,zA,zL]
 repeat ((first|refine (h_p gl _ _).mono ?_|refine (h_no gl _ _ _ _ _ _ _).mono ?_|refine (xQt gl _ _ _ _ _ _ _ _ _ _ _ _ _ _).mono ?_|refine (h_fs gl _ _ _).mono ?_|refine (h_sq gl _ _ _ _ _).mono ?_);rintro _ st ⟨rfl,rfl⟩;simp only[go_sem,zA,zM,zL,fits,yQ4,fits])
 refine (ab _).mono ?_;rintro _ st ⟨rfl,rfl⟩;simp only[go_sem,zE,zA,zM,zL,fits,yQ4]
 repeat ((first|refine (h_p gl _ _).mono ?_|refine (h_no gl _ _ _ _ _ _ _).mono ?_|refine (xQt gl _ _ _ _ _ _ _ _ _ _ _ _ _ _).mono ?_|refine (h_fs gl _ _ _).mono ?_|refine (h_sq gl _ _ _ _ _).mono ?_);rintro _ st ⟨rfl,rfl⟩;simp only[go_sem,zA])
 refine (O _).mono ?_;rintro _ st ⟨rfl,rfl⟩;simp only[go_sem,zE,zA,zM,zL,fits,yQ4]
 repeat ((first|refine (h_p gl _ _).mono ?_|refine (h_no gl _ _ _ _ _ _ _).mono ?_|refine (xQt gl _ _ _ _ _ _ _ _ _ _ _ _ _ _).mono ?_|refine (h_fs gl _ _ _).mono ?_|refine (h_sq gl _ _ _ _ _).mono ?_);rintro _ st ⟨rfl,rfl⟩;simp only[go_sem,zE,zA,zM,zL,fits,yQ4,fits])
 refine (aa _).mono ?_;rintro _ st ⟨rfl,rfl⟩;simp only[go_sem,zE,zA,zL];refine (U _).mono ?_;rintro _ st ⟨rfl,rfl⟩;simp only[go_sem,zE,hz,decide_true,show decide (((3:Nat):Int)=3)=true from rfl,show decide (((4:Nat):Int)=4)=true from rfl,show decide (((7:Nat):Int)=7)=true from rfl,show decide ((c3K.length:Int)=4)=true from rfl,show decide (((0:Nat):Int)=0)=true from rfl];exact yQ0 ⟨rfl,rfl⟩
end Go.Proofs.Tryz
namespace Go.Proofs.Tryz
open Go Go.Iv
set_option maxRecDepth 8000
variable (gl:Nat->Option IV)
end Go.Proofs.Tryz
namespace Go.Proofs.Tryz
open Go Go.Iv
set_option maxRecDepth 8000
variable (gl:Nat->Option IV)
def vYg (ca:Nat)(s:Sq)(h e:Nat):Prop:=(e≠0/\h=0/\BadR ca s e)\/(e=0/\h=hF (calJ ca) (s.l,s.r)/\∃K,ReachOk (calJ ca) (nf (s.l,s.r)) K)
theorem wX2 (G:Gl gl)(T:Gt gl)(ca:Nat)(s:Sq)(x:IV)(hx:IsSq s x)(hs:yXx s)(st:ISt) :
  ICall prog gl 18 [.raw (.int .u8 (ca:Int)),x] st (λr st'=>(∃h e:Nat,r=.tup [.raw (.int .i64 (h:Int)),.raw (.int .i64 (e:Int))]/\vYg ca s h e)/\st'=st) :=
 (xVr gl G T ca s x hx hs st).mono λr st' ⟨h1,h2⟩=>by
  rcases h2 with⟨e,D,A⟩|⟨_,_,hK,A⟩
  ·exact⟨⟨0,e,A,.inl ⟨D.ne,rfl,D⟩⟩,h1⟩
  ·exact⟨⟨_,0,A,.inr ⟨rfl,rfl,hK⟩⟩,h1⟩
end Go.Proofs.Tryz
namespace Go.Proofs.Tryz
open Go Go.Iv
set_option maxRecDepth 8000
variable (gl:Nat->Option IV)
end Go.Proofs.Tryz
namespace Go.Proofs.Tryz
open Go Go.Iv
set_option maxRecDepth 8000
variable (gl:Nat->Option IV)
def kQh (r:List Nat)(x:IV):Prop:=∃t,x=.sl t (yQk r)/\okEs t 1
def vYd (S:List (List Nat)):Prop:=S.length<=3/\∀r∈S,r.length<=3/\∀u∈r,u<S.length
section
variable (S:List (List Nat))(hS:vYd S)(tS:Tag)(xS:List IV)(htS:okEs tS 1)(hxS:AllR kQh S xS)(ta tm:Tag)(hta:okEs ta 1)(htm:okEs tm 1)(l:List ByteArray)(hnd:l.Nodup)(hl:l.length<=100)(ms:List Nat)(hml:ms.length=S.length)(hms:∀m∈ms,m<=1000000)
include hS htS hxS hta htm hnd hl hml hms
end
end Go.Proofs.Tryz
namespace Go.Proofs.Tryz
open Go Go.Iv
set_option maxRecDepth 8000
variable (gl:Nat->Option IV)
end Go.Proofs.Tryz
namespace Go.Proofs.Tryz
open Go Go.Iv
theorem uVo {a:Fm}(ha:PF a):∀ {b:Fm},PF b->dbF [] a=dbF [] b->a=b:=by
 have D:∀o,1<=o->o<=7->isQ o=false:=λo h1 h2=>by
  rcases (show o=1\/o=2\/o=3\/o=4\/o=5\/o=6\/o=7 by omega) with rfl|rfl|rfl|rfl|rfl|rfl|rfl<;>rfl
 have h1:=D 1 (by decide) (by decide);have h2:=D 2 (by decide) (by decide);have h3:=D 3 (by decide) (by decide)
 induction ha with
 | atom n =>
  intro b E h;cases E<;>simp_all [dbF,dbFs,dbs]
  all_goals omega
 | fls =>
  intro b E h;cases E<;>simp_all [dbF,dbFs,dbs]
  all_goals omega
 | neg _ ih =>
  intro b E h;cases E with
  | neg A =>
   simp only[dbF,dbFs,h3,bFt,if_false,NlF.mk.injEq,List.cons.injEq,and_true,true_and] at h;rw[ih A h]
  | _=>simp_all [dbF,dbFs,dbs]<;>omega
 | @bin o a b h4 h7 _ _ O J =>
  intro c hc h;cases hc with
  | @bin o' a' b' ah aa U A =>
   have e1:=D o (by omega) h7;have e2:=D o' (by omega) aa;simp only[dbF,dbFs,e1,e2,bFt,if_false,NlF.mk.injEq,List.cons.injEq,and_true,true_and] at h;obtain⟨rfl,h5,h6⟩:=h;rw[O U h5,J A h6]
  | _=>simp_all [dbF,dbFs,dbs]<;>omega
theorem xYb {s:Sq}(h:yQo 2 s=true):∀f∈s.r,∀g∈s.r,f=g:=by
 have D:∀f∈s.r,PF f:=λf A=>zJn (by decide) (yVx h f (List.mem_append_right _ A));unfold yQo at h;simp only[bAt] at h;have h1:zZg s.r=true:=by simpa using h.2
 cases E:s.r with
 | nil=>intro f A;cases A
 | cons a l =>
  rw[E] at h1 D;have key:∀f∈a::l,f=a:=λf A=>by
   have:=List.all_eq_true.1 h1 f A;unfold eqF zQl at this;simp only[bAt,dTe,yZ3] at this;exact uVo (D f A) (D a (.head _)) this.2.2
  exact λf A g J=>(key f A).trans (key g J).symm
end Go.Proofs.Tryz
namespace Go.Proofs.Tryz
open Go Go.Iv
end Go.Proofs.Tryz
namespace Go.Proofs.Tryz
open Go Go.Iv
end Go.Proofs.Tryz
namespace Go.Proofs.Tryz
open Go Go.Iv
section
variable {ca rule:Nat}{s:Sq}{f:Fm}{u:Tm}{n:ByteArray}{sub:List Tr}(h:(yJq ca (.mk rule s f u n sub)).2=0)(h1:s.l.length<64)(h2:s.r.length<64)
include h h1 h2
end
end Go.Proofs.Tryz
namespace Go.Proofs.Tryz
open Go Go.Iv
section
variable {ca rule:Nat}{s:Sq}{f:Fm}{u:Tm}{n:ByteArray}{sub:List Tr}(h:(yJq ca (.mk rule s f u n sub)).2=0)
include h
end
end Go.Proofs.Tryz
namespace Go.Proofs.Tryz
open Go Go.Iv
end Go.Proofs.Tryz
namespace Go.Proofs.Tryz
open Go Go.Iv
end Go.Proofs.Tryz
namespace Go.Proofs.Tryz
open Go Go.Iv
section
variable (nm:ByteArray)(g:Fm)
end
section
variable {nm:ByteArray}{g:Fm}{ca:Nat}
end
section
variable {nm:ByteArray}{g:Fm}{ca:Nat}
mutual
noncomputable def zYz (ca:Nat):Tr->Bool
 | t@(.mk _ _ _ _ _ sub)=>decide (yJm ca t=0)&&zZz ca sub
noncomputable def zZz (ca:Nat):List Tr->Bool
 | []=>true
 | a::l=>zYz ca a&&zZz ca l
end
mutual
theorem zW6 (ca:Nat):∀(p:List Nat) (t:Tr),(yZx (yJm ca) (t.walk p)).2=0↔zYz ca t=true
 | p,.mk rule s f u n sub=>by
  have A:=zJq ca p 0 sub;simp only[Tr.walk,yZx,zYz,bAt,dTe];grind
theorem zJq (ca:Nat):∀(p:List Nat) (i:Nat) (l:List Tr),(yZx (yJm ca) (yZd p i l)).2=0↔zZz ca l=true
 | _,_,[]=>by simp[yZd,yZx,zZz]
 | p,i,a::l=>by
  have i1:=zW6 ca (p++[i]) a;have i2:=zJq ca p (i+1) l;simp only[yZd,yJl,zZz,bAt];grind
end
theorem xUc {t:Tr}:(yJq ca t).2=0↔yJ8 ca=true/\t.steps<=300/\zYz ca t=true:=by
 unfold yJq;cases A:yJ8 ca
 ·simp
 ·simp only[Bool.not_true,bFt,if_false,true_and];split
  ·simp;omega
  ·rename_i h;rw[zW6];grind
end
end Go.Proofs.Tryz
namespace Go.Proofs.Tryz
open Go Go.Iv
abbrev trZ0:Tr:=.mk 0 ⟨[],[]⟩ fm0 tmZ noN []
noncomputable def mstS (j:Bool)(ps:List Sn):Nat:=if ps.any (λp=>decide (hF j p=0))=true then 0 else ps.foldl (λm p=>max m (hF j p)) 0
noncomputable def zU2 (j:Bool)(s:Sn):Option (Nat×Fm×List Sn):=(mvF j s).find? λm=>decide (mstS j m.2.2+1=hF j s)
open Classical in
noncomputable def axF (s:Sn):Option (Nat×Fm):=match s.1.find? (λf=>decide (f∈s.2)) with
 | some f=>some (1,f)
 | none=>if s.1.any zK3=true then some (2,.mk 2 noN [] []) else none
noncomputable def tF (j:Bool):Nat->Sn->Tr
 | 0,_=>trZ0
 | n+1,s=>match axF s with
  | some (r,f)=>.mk r (sqOf s) f tmZ noN []
  | none=>match zU2 j s with
   | some m=>.mk m.1 (sqOf s) m.2.1 tmZ noN (m.2.2.map (tF j n))
   | none=>trZ0
theorem zGq {α:Type}(g:α->Nat):∀(ps:List α) (a:Nat),a<=ps.foldl (λm p=>max m (g p)) a/\(∀p∈ps,g p<=ps.foldl (λm p=>max m (g p)) a)/\(ps.foldl (λm p=>max m (g p)) a=a\/∃p∈ps,g p=ps.foldl (λm p=>max m (g p)) a)
 | [],a=>⟨Nat.le_refl _,nofun,.inl rfl⟩
 | p::ps,a=>by
  obtain⟨h1,h2,A⟩:=zGq g ps (max a (g p));rw[List.foldl_cons];refine⟨Nat.le_trans (Nat.le_max_left ..) h1,λq D=>?_,?_⟩
  ·rcases List.mem_cons.1 D with rfl|D
   ·exact Nat.le_trans (Nat.le_max_right ..) h1
   ·exact h2 q D
  ·rcases A with A|⟨q,D,A⟩
   ·rcases Nat.le_total a (g p) with h|h
    ·rw[Nat.max_eq_right h] at A ⊢;exact .inr ⟨p,.head _,A.symm⟩
    ·rw[Nat.max_eq_left h] at A ⊢;exact .inl A
   ·exact .inr ⟨q,.tail _ D,A⟩
theorem zJx {j:Bool}{ps:List Sn}{n:Nat}:mstS j ps=n+1↔(∀p∈ps,0<hF j p/\hF j p<=n+1)/\∃p∈ps,hF j p=n+1:=by
 obtain⟨_,h2,A⟩:=zGq (hF j) ps 0;unfold mstS;constructor
 ·intro h;split at h
  ·cases h
  ·rename_i E;rw[h] at h2 A;refine⟨λp hp=>⟨Nat.pos_of_ne_zero λh0=>E (List.any_eq_true.2 ⟨p,hp,dEt h0⟩),h2 p hp⟩,?_⟩;exact A.resolve_left (by omega)
 ·rintro⟨J,p,hp,U⟩;rw[if_neg λO=>by
   obtain⟨q,D,h0⟩:=List.any_eq_true.1 O;have:=(J q D).1;have:=of_decide_eq_true h0;omega]
  have:=h2 p hp;rcases A with A|⟨q,D,A⟩
  ·omega
  ·have:=(J q D).2;omega
theorem zZn {s:Sn}:axF s=none↔¬ ClF s.1 s.2:=by
 unfold axF;constructor
 ·intro h hc;split at h
  ·cases h
  ·rename_i A;have D:=List.find?_eq_none.1 A;rcases hc with⟨f,h1,h2⟩|⟨f,h1,h2⟩
   ·exact D f h1 (by simpa using h2)
   ·rw[if_pos (List.any_eq_true.2 ⟨f,h1,h2⟩)] at h;cases h
 ·intro h;split
  ·rename_i f A;exact (h (.inl ⟨f,List.mem_of_find?_eq_some A,by simpa using List.find?_some A⟩)).elim
  ·rw[if_neg λE=>by
    obtain⟨f,h1,h2⟩:=List.any_eq_true.1 E;exact h (.inr ⟨f,h1,h2⟩)]
theorem wJk {s:Sn}{r:Nat}{f:Fm}(h:axF s=some (r,f)):(r=1/\f∈s.1/\f∈s.2)\/(r=2/\f=.mk 2 noN [] []/\∃g∈s.1,zK3 g=true):=by
 unfold axF at h;split at h
 ·rename_i E A;cases h;exact .inl ⟨rfl,List.mem_of_find?_eq_some A,by simpa using List.find?_some A⟩
 ·split at h
  ·rename_i D;cases h;obtain⟨g,h1,h2⟩:=List.any_eq_true.1 D;exact .inr ⟨rfl,rfl,g,h1,h2⟩
  ·cases h
theorem zKv {j:Bool}{s:Sn}{n:Nat}(hc:¬ ClF s.1 s.2)(h:hF j s=n+2):∃m,zU2 j s=some m/\m∈mvF j s/\mstS j m.2.2=n+1:=by
 have hp:=zWl (j:=j) (s:=s) (by omega);rw[h] at hp;obtain⟨m,hm,D⟩:=(yK1.1 hp).resolve_left hc;have J:mstS j m.2.2=n+1:=zJx.2 ⟨λp A=>by have:=zK9 (D p A);exact⟨this.2.2,this.2.1⟩,by
  apply Classical.byContradiction;intro E;have:HtS j (n+1) s:=yK1.2 (.inr ⟨m,hm,λp A=>by
   have h1:=zK9 (D p A);have h2:hF j p≠n+1:=λh=>E ⟨p,A,h⟩;exact h1.1.up (by omega)⟩)
  have:=(zK9 this).2.1;omega⟩
 cases O:zU2 j s with
 | none =>
  have:=List.find?_eq_none.1 O m hm;rw[J,h] at this;exact (this (dEt rfl)).elim
 | some U =>
  have h1:mstS j U.2.2+1=hF j s:=of_decide_eq_true (List.find?_some (p:=λm:Nat×Fm×List Sn=>decide (mstS j m.2.2+1=hF j s)) O);exact⟨U,rfl,List.mem_of_find?_eq_some O,by omega⟩
theorem zUi {ca:Nat}(hc:ca=1\/ca=2){s:Sn}(h1:s.1.length<=64)(h2:s.2.length<=64)(h3:∀f∈s.1,fmB ca f=true)(A:∀f∈s.2,fmB ca f=true)(U:ca=2->s.2.length<=1):yQo ca (sqOf s)=true:=by
 have E:yJ8 ca=true:=by unfold yJ8;rcases hc with rfl|rfl<;>rfl
 have O:(decide (ca≠2) || zZg s.2)=true:=by
  rcases hc with rfl|rfl
  ·rfl
  ·have:=U rfl;cases hs:s.2 with
   | nil=>rfl
   | cons f l =>
    rw[hs] at this A;obtain rfl:l=[]:=List.eq_nil_of_length_eq_zero (by simpa using this);have D:f.right=true:=by have:=A f (.head _);unfold fmB at this;exact (bAt _ _▸this).1
    have J:eqF f f=true:=by unfold eqF zQl;rw[D,dEt rfl];simp[eqB]
    simp[zZg,J]
 unfold yQo sqOf;simp only[E,dEt h1,dEt h2,List.all_eq_true.2 h3,List.all_eq_true.2 A,O,Bool.and_self]
theorem yKs {l:List Fm}:(setF l).length<=l.length:=yK9 (zQv l) λf A=>yZw.1 A
theorem vZi {f:Fm}{r:Bool}{t:Nat×List Sn}(h:t∈addF true f r):∀p∈t.2,p.2.length<=1:=by
 unfold addF at h;split at h<;>simp at h
 all_goals first
  | (subst h;simp;done)
  | (rcases h with rfl|rfl<;>simp;done)
theorem yYg {ca:Nat}(hc:ca=1\/ca=2){s0:Sq}(hv:yQo ca s0=true){K:List Sn}(hK:ReachOk (calJ ca) (nf (s0.l,s0.r)) K){s:Sn}(h:Rch (calJ ca) (nf (s0.l,s0.r)) s) :
  yQo ca (sqOf s)=true/\nf s=s/\(ca=2->s.2.length<=1)/\(∀f∈s.1,fmB ca f=true)/\(∀f∈s.2,fmB ca f=true):=by
 have ai:ca≠3:=by omega
 induction h with
 | refl =>
  have U:=yVx hv;have h1:∀f∈setF s0.l,fmB ca f=true:=λf A=>U f (List.mem_append_left _ (yZw.1 A));have h2:∀f∈setF s0.r,fmB ca f=true:=λf A=>U f (List.mem_append_right _ (yZw.1 A));have J:s0.l.length<=64/\s0.r.length<=64:=by
   unfold yQo at hv;simp only[bAt,dTe] at hv;exact⟨hv.1.1.1.1.2,hv.1.1.1.2⟩
  have h5:ca=2->(setF s0.r).length<=1:=λh=>by
   subst h;have hu:=xYb hv;cases hs:setF s0.r with
   | nil=>exact Nat.zero_le _
   | cons f l =>
    have hnd:=zQv s0.r;rw[hs] at hnd;have:∀g∈l,g=f:=λg E=>hu g (yZw.1 (by rw[hs];exact .tail _ E)) f (yZw.1 (by rw[hs];exact .head _));cases l with
    | nil=>exact Nat.le_refl _
    | cons g l=>exact ((List.nodup_cons.1 hnd).1 (by rw[this g (.head _)];exact .head _)).elim
  exact⟨zUi hc (Nat.le_trans yKs J.1) (Nat.le_trans yKs J.2) h1 h2 h5,vKj _,h5,h1,h2⟩
 | @step s1 h1 ah m hm p ac ih =>
  obtain⟨_,_,i1,i2,i3⟩:=ih;have ae:=hK.short s1 ((hK.mem s1).2 h1) ah;have key:∀(r:Bool) (f:Fm),f∈(if r=true then s1.2 else s1.1)->m∈yUy (calJ ca) s1 r f->yQo ca (sqOf p)=true/\nf p=p/\(ca=2->p.2.length<=1)/\(∀f∈p.1,fmB ca f=true)/\(∀f∈p.2,fmB ca f=true):=λr f A af=>by
   obtain⟨t,ht,rfl⟩:=List.mem_map.1 af;obtain⟨q,hq,rfl⟩:=List.mem_map.1 ac;have ag:fmB ca f=true:=by cases r<;>simp at A<;>first|exact i2 f A|exact i3 f A
   obtain⟨a1,a2⟩:=wXx ai ag ht q hq;have D:¬ tooL (calJ ca) s1 q:=λh=>ae ⟨f,r,A,t,ht,q,hq,h⟩;unfold tooL at D;have e1:(s1.1++q.1).length<=64:=by rw[lLa];omega
   have e2:(rgt (calJ ca) s1.2 q.2).length<=64:=by
    unfold rgt;by_cases hj:calJ ca=true/\q.2≠[]
    ·rw[if_pos hj];rw[if_pos hj] at D;omega
    ·rw[if_neg hj,lLa];rw[if_neg hj] at D;omega
   have g1:∀f∈setF (s1.1++q.1),fmB ca f=true:=λg E=>(List.mem_append.1 (yZw.1 E)).elim (i2 g) (a1 g);have g2:∀f∈setF (rgt (calJ ca) s1.2 q.2),fmB ca f=true:=λg E=>by
    have E:=yZw.1 E;unfold rgt at E;split at E
    ·exact a2 g E
    ·exact (List.mem_append.1 E).elim (i3 g) (a2 g)
   have g3:ca=2->(setF (rgt (calJ ca) s1.2 q.2)).length<=1:=λh=>by
    refine Nat.le_trans yKs ?_;subst h;unfold rgt;by_cases O:q.2=[]
    ·rw[if_neg λh=>h.2 O,O,List.append_nil];exact i1 rfl
    ·rw[if_pos ⟨rfl,O⟩];exact vZi ht q hq
   exact⟨zUi hc (s:=xQ3 (calJ ca) s1 q) (Nat.le_trans yKs e1) (Nat.le_trans yKs e2) g1 g2 g3,vKj _,g3,g1,g2⟩
  rcases List.mem_append.1 hm with hm|hm
  ·obtain⟨f,A,hm⟩:=List.mem_flatMap.1 hm;exact key false f A hm
  ·obtain⟨f,A,hm⟩:=List.mem_flatMap.1 hm;exact key true f A hm
end Go.Proofs.Tryz
namespace Go.Proofs.Tryz
open Go Go.Iv
theorem xKf {ca:Nat}{s:Sq}{rule:Nat}{A:Fm}{term:Tm}{name:ByteArray}{r:Rw}{ad:List Sq}(h1:yQo ca s=true)(h2:rowS ca rule=some r)(h3:yKd ca rule r A term name=(ad,0))
  (U:r.left=true->hasF s.l A=true) (O:r.right=true->hasF s.r A=true) (J:r.asks=0):yWi ca s rule A term name=(ad,0):=by
 unfold yWi;rw[h1,h2];simp only[Bool.not_true,bFt,if_false,h3];obtain⟨E,D,op,asks⟩:=r;simp only at U O J ⊢;have e1:(E&&!hasF s.l A)=false:=by
  cases E
  ·rfl
  ·rw[U rfl];rfl
 have e2:(D&&!hasF s.r A)=false:=by
  cases D
  ·rfl
  ·rw[O rfl];rfl
 subst J;rw[e1,e2];rfl
theorem wWm {f:Fm}(A:f.right=true):eqF f f=true:=by unfold eqF zQl;rw[A,dEt rfl];simp[eqB]
theorem yX2 {ca:Nat}{f:Fm}(h:fmB ca f=true):f.right=true:=by unfold fmB at h;exact (bAt _ _▸h).1
theorem yW8 {l:List Fm}{f:Fm}(h:f∈l)(A:f.right=true):hasF l f=true:=List.any_eq_true.2 ⟨f,h,wWm A⟩
theorem xY0 {l m:List Fm}(h:∀f∈l,f∈m)(D:∀f∈l,f.right=true):allF l m=true:=List.all_eq_true.2 λf A=>yW8 (h f A) (D f A)
theorem vK1 {ca:Nat}(hc:ca=1\/ca=2){f:Fm}(A:PF f){r:Bool}{t:Nat×List Sn}(ht:t∈addF (calJ ca) f r):∃R,rowS ca t.1=some R/\(R.left=true->r=false)/\(R.right=true->r=true)/\R.asks=0/\t.1<256/\t.1≠17:=by
 cases A with
 | atom n=>simp[addF] at ht
 | fls=>simp[addF] at ht
 | neg D =>
  rcases hc with rfl|rfl<;>cases r<;>simp[addF] at ht<;>subst ht<;>exact⟨_,rfl,by simp,by simp,rfl,by simp,by simp⟩
 | @bin o a b J E _ _ =>
  obtain rfl|rfl|rfl|rfl:o=4\/o=5\/o=6\/o=7:=by omega
  all_goals rcases hc with rfl|rfl<;>cases r<;>simp[addF,calJ] at ht
  all_goals first
   | (subst ht;exact⟨_,rfl,by simp,by simp,rfl,by simp,by simp⟩)
   | (rcases ht with rfl|rfl<;>exact⟨_,rfl,by simp,by simp,rfl,by simp,by simp⟩)
theorem wJv {ca:Nat}{rule:Nat}{f:Fm}{R:Rw}{ad:List Sq}(A:yJ8 ca=true)(D:rowS ca rule=some R)(h:zX9 ca rule f tmZ noN=(ad,0)):yKd ca rule R f tmZ noN=(ad,0):=by
 unfold zX9 at h;rw[A,D] at h;exact h
theorem zW0 {s:Sq}:∀ {ad:List Sq} {sub:List Tr},(∀(i:Nat) (m:Sq) (t:Tr),ad[i]?=some m->sub[i]?=some t->yGx t.sq (s.plus m)=true)->yKe s ad sub=true
 | [],_,_=>by simp[yKe]
 | m::ad,[],_=>by simp[yKe]
 | m::ad,t::sub,h=>by
  simp only[yKe,bAt];exact⟨h 0 m t rfl rfl,zW0 λi m t h1 h2=>h (i+1) m t h1 h2⟩
theorem zQr {ca:Nat}(hc:ca=1\/ca=2){s:Sn}(hv:yQo ca (sqOf s)=true)(h1:∀f∈s.1,fmB ca f=true)(h2:∀f∈s.2,fmB ca f=true){m:Nat×Fm×List Sn}(hm:m∈mvF (calJ ca) s){sub:List Tr}(J:sub.map Tr.sq=m.2.2.map sqOf) :
  yJm ca (.mk m.1 (sqOf s) m.2.1 tmZ noN sub)=0/\m.1<256/\m.1≠17/\fmB ca m.2.1=true:=by
 have U:ca≠3:=by omega
 have hk:yJ8 ca=true:=by unfold yJ8;rcases hc with rfl|rfl<;>rfl
 have key:∀(r:Bool) (f:Fm),f∈(if r=true then s.2 else s.1)->m∈yUy (calJ ca) s r f->yJm ca (.mk m.1 (sqOf s) m.2.1 tmZ noN sub)=0/\m.1<256/\m.1≠17/\fmB ca m.2.1=true:=λr f E af=>by
  obtain⟨t,ht,rfl⟩:=List.mem_map.1 af;have A:fmB ca f=true:=by cases r<;>simp at E<;>first|exact h1 f E|exact h2 f E
  obtain⟨R,hR,hl,hr,ha,ag,ah⟩:=vK1 hc (zJn U A) ht;have aa:=xZk hc A ht;have ac:yWi ca (sqOf s) t.1 f tmZ noN=(t.2.map sqOf,0):=xKf hv hR (wJv hk hR aa)
   (λh=>yW8 (show f∈s.1 by rw[hl h] at E;simpa using E) (yX2 A)) (λh=>yW8 (show f∈s.2 by rw[hr h] at E;simpa using E) (yX2 A)) ha
  refine⟨?_,ag,ah,A⟩;have O:sub.length=(t.2.map sqOf).length:=by
   have:=congrArg List.length J;simpa using this
  simp only[yJm];rw[ac];simp only[ne_eq,nTf,if_false,O];rw[if_pos];refine zW0 λi q tr hq ab=>?_;rw[List.getElem?_map] at hq;obtain⟨p,hp,rfl⟩:=Option.map_eq_some_iff.1 hq;have hs:(sub.map Tr.sq)[i]?=some tr.sq:=by rw[List.getElem?_map,ab];rfl
  rw[J,List.getElem?_map,List.getElem?_map,hp] at hs;have ae:tr.sq=sqOf (xQ3 (calJ ca) s p):=by simpa using hs.symm
  rw[ae];obtain⟨a1,a2⟩:=wXx U A ht p (lMg hp);have w1:∀g∈(xQ3 (calJ ca) s p).1,g∈s.1++p.1:=λg D=>yZw.1 D;have w2:∀g∈(xQ3 (calJ ca) s p).2,g∈s.2++p.2:=λg D=>by
   have D:=yZw.1 D;unfold rgt at D;split at D
   ·exact List.mem_append_right _ D
   ·exact D
  unfold yGx;rw[bAt];exact⟨xY0 w1 λg D=>yX2 ((List.mem_append.1 (w1 g D)).elim (h1 g) (a1 g)),xY0 w2 λg D=>yX2 ((List.mem_append.1 (w2 g D)).elim (h2 g) (a2 g))⟩
 rcases List.mem_append.1 hm with hm|hm
 ·obtain⟨f,E,hm⟩:=List.mem_flatMap.1 hm;exact key false f E hm
 ·obtain⟨f,E,hm⟩:=List.mem_flatMap.1 hm;exact key true f E hm
theorem wY2 {ca:Nat}(hc:ca=1\/ca=2){s:Sn}(hv:yQo ca (sqOf s)=true)(h1:∀f∈s.1,fmB ca f=true){r:Nat}{f:Fm}(ha:axF s=some (r,f)) :
  yJm ca (.mk r (sqOf s) f tmZ noN [])=0/\(r=1\/r=2)/\fmB ca f=true:=by
 have ac:ca≠3:=by omega
 have D:∀R,rowS ca r=some R->R.asks=0->yKd ca r R f tmZ noN=([],0)->(R.left=true->hasF s.1 f=true)->(R.right=true->hasF s.2 f=true)->yJm ca (.mk r (sqOf s) f tmZ noN [])=0:=λR hR h0 hA hl J=>by
  have E:yWi ca (sqOf s) r f tmZ noN=([],0):=xKf hv hR hA hl J h0;simp only[yJm];rw[E];rfl
 rcases wJk ha with⟨rfl,hl,J⟩|⟨rfl,rfl,g,hg,U⟩
 ·have A:=h1 f hl;refine⟨D ⟨true,true,0,0⟩ (by rcases hc with rfl|rfl<;>rfl) rfl ?_ (λ_=>yW8 hl (yX2 A)) (λ_=>yW8 J (yX2 A)),.inl rfl,A⟩;unfold yKd;rw[A];simp[addS]
 ·have O:=zJn ac (h1 g hg);have aa:g=.mk 2 noN [] []:=by
   cases O<;>simp[zK3] at U
   ·rfl
   ·omega
  subst aa;have A:=h1 _ hg;refine⟨D ⟨true,false,2,0⟩ (by rcases hc with rfl|rfl<;>rfl) rfl ?_ (λ_=>yW8 hg (yX2 A)) (λh=>by cases h),.inr rfl,A⟩;unfold yKd;rw[A];simp[addS,Fm.op]
inductive NAc (ca:Nat):Tr->Prop
 | mk {rule:Nat} {s:Sq} {f:Fm} {u:Tm} {n:ByteArray} {sub:List Tr} (h1:yQo ca s=true) (h2:fmB ca f=true) (h3:rule<256) (h5:u.size<=1000000) (h4:∀t∈sub,NAc ca t):NAc ca (.mk rule s f u n sub)
theorem wZd {j:Bool}{s:Sn}{m:Nat×Fm×List Sn}(h:m∈mvF j s):m.2.2≠[]:=by
 have key:∀(r:Bool) (f:Fm),m∈yUy j s r f->m.2.2≠[]:=λr f A=>by
  obtain⟨t,ht,rfl⟩:=List.mem_map.1 A;have:=wJy ht;simpa using this
 rcases List.mem_append.1 h with h|h
 ·obtain⟨f,_,h⟩:=List.mem_flatMap.1 h;exact key false f h
 ·obtain⟨f,_,h⟩:=List.mem_flatMap.1 h;exact key true f h
structure TreeR (ca:Nat)(n:Nat)(s:Sn)(t:Tr):Prop where
 ok:zYz ca t=true
 ht:t.height=n
 cut:t.cuts=0
 sq:t.sq=sqOf s
 byt:NAc ca t
theorem zJr {ca:Nat}:∀ {l:List Tr},(∀t∈l,zYz ca t=true)->zZz ca l=true
 | [],_=>rfl
 | a::l,h=>by rw[zZz,h a (.head _),zJr λt ht=>h t (.tail _ ht)];rfl
theorem zWu:∀ {l:List Tr},(∀t∈l,t.cuts=0)->zKk l=0
 | [],_=>rfl
 | a::l,h=>by rw[zKk,h a (.head _),zWu λt ht=>h t (.tail _ ht)]
theorem zWj {n:Nat}:∀ {l:List Tr},(∀t∈l,t.height<=n)->yZv l<=n
 | [],_=>Nat.zero_le _
 | a::l,h=>by rw[yZv];exact Nat.max_le.2 ⟨h a (.head _),zWj λt ht=>h t (.tail _ ht)⟩
theorem zWk {n:Nat}:∀ {l:List Tr},(∃t∈l,t.height=n)->n<=yZv l
 | a::l,⟨t,ht,h⟩=>by
  rw[yZv];rcases List.mem_cons.1 ht with rfl|ht
  ·rw[h];exact Nat.le_max_left ..
  ·exact Nat.le_trans (zWk ⟨t,ht,h⟩) (Nat.le_max_right ..)
theorem wYn {ca:Nat}(hc:ca=1\/ca=2){s0:Sq}(hv:yQo ca s0=true){K:List Sn}(hK:ReachOk (calJ ca) (nf (s0.l,s0.r)) K) :
  ∀(n h:Nat) (s:Sn),Rch (calJ ca) (nf (s0.l,s0.r)) s->hF (calJ ca) s=h->0<h->h<=n->TreeR ca h s (tF (calJ ca) n s)
 | 0,h,s,_,_,h1,h2=>by omega
 | n+1,h,s,hr,he,h1,h2=>by
  obtain⟨E,am,_,g1,g2⟩:=yYg hc hv hK hr;rw[tF];cases ha:axF s with
  | some p =>
   obtain⟨r,f⟩:=p;obtain⟨O,k2,k3⟩:=wY2 hc E g1 ha;have D:ClF s.1 s.2:=by
    apply Classical.byContradiction;intro af;rw[zZn.2 af] at ha;cases ha
   rw[zQ5 D] at he;subst he;refine⟨?_,rfl,?_,rfl,?_⟩
   ·simp[zYz,zZz,O]
   ·simp only[Tr.cuts,zKk];rw[if_neg (by omega)]
   ·exact⟨E,k3,by omega,by decide,nofun⟩
  | none =>
   have D:=zZn.1 ha;obtain⟨h,rfl⟩:∃k,h=k+2:=by
    refine⟨h-2,?_⟩;rcases Nat.lt_or_ge 1 h with h3|h3
    ·omega
    ·exfalso;obtain rfl:h=1:=by omega
     have hp:=zWl (j:=calJ ca) (s:=s) (by omega);rw[he] at hp;rcases yK1.1 hp with h4|⟨m,hm,h4⟩
     ·exact D h4
     ·obtain⟨p,hp⟩:=List.exists_mem_of_ne_nil _ (wZd hm);exact h4 p hp
   obtain⟨m,hb,hm,ag⟩:=zKv D he;rw[hb];obtain⟨O,p0,aa,k2⟩:=zJx.1 ag;have J:∀p∈m.2.2,TreeR ca (hF (calJ ca) p) p (tF (calJ ca) n p):=λp hp=>wYn hc hv hK n _ p (.step hr D hm hp) rfl (O p hp).1 (by have:=(O p hp).2;omega);have U:(m.2.2.map (tF (calJ ca) n)).map Tr.sq=m.2.2.map sqOf:=by
    rw[List.map_map];exact List.map_congr_left λp hp=>(J p hp).sq
   obtain⟨c1,c2,c3,c4⟩:=zQr hc E g1 g2 hm U;have A:∀t∈m.2.2.map (tF (calJ ca) n),∃p∈m.2.2,t=tF (calJ ca) n p:=λt ht=>by
    obtain⟨p,hp,rfl⟩:=List.mem_map.1 ht;exact⟨p,hp,rfl⟩
   refine⟨?_,?_,?_,rfl,?_⟩
   ·simp only[zYz,c1,decide_true,Bool.true_and];exact zJr λt ht=>by obtain⟨p,hp,rfl⟩:=A t ht;exact (J p hp).ok
   ·simp only[Tr.height];have a1:yZv (m.2.2.map (tF (calJ ca) n))<=h+1:=zWj λt ht=>by
     obtain⟨p,hp,rfl⟩:=A t ht;rw[(J p hp).ht];exact (O p hp).2
    have a2:h+1<=yZv (m.2.2.map (tF (calJ ca) n)):=zWk ⟨_,List.mem_map_of_mem aa,by rw[(J p0 aa).ht,k2]⟩;omega
   ·simp only[Tr.cuts];rw[if_neg c3,zWu λt ht=>by obtain⟨p,hp,rfl⟩:=A t ht;exact (J p hp).cut]
   ·exact⟨E,c4,c2,by decide,λt ht=>by obtain⟨p,hp,rfl⟩:=A t ht;exact (J p hp).byt⟩
end Go.Proofs.Tryz
namespace Go.Proofs.Tryz
open Go Go.Iv
set_option maxRecDepth 4000
variable (gl:Nat->Option IV)
theorem zWo {α:Type}{P:α->Bool}:∀ {l:List α} {q:Nat} {k:α},l[q]?=some k->P k=true->(∀q',q'<q->∀A,l[q']?=some A->P A=false)->l.find? P=some k
 | [],_,_,h,_,_=>by cases h
 | a::l,0,k,h,hp,_=>by cases h;rw[List.find?_cons,hp]
 | a::l,q+1,k,h,hp,D=>by
  rw[List.find?_cons,D 0 (Nat.succ_pos _) a rfl];exact zWo (l:=l) h hp λq' J A E=>D (q'+1) (by omega) A E
def lkM (W:List Fm)(lines:List Ln)(k:Lk):Nat×Fm×List Sn:=(k.1,(W[k.2.1]?).getD fm0,k.2.2.map λp=>((lines[p]?).map (lnW W)).getD ([],[]))
theorem wVv {ca:Nat}{W:List Fm}(hS:SpOk ca W){lines:List Ln}{ln:Ln}(D:LnOk W ln){l:List Lk}(h:LkS W (calJ ca) lines ln l)(hc:¬ clN W ln):mvF (calJ ca) (lnW W ln)=l.map (lkM W lines):=by
 rcases h with⟨h,_⟩|⟨_,vs,A,hl,O⟩
 ·exact (hc h).elim
 rw[zG4 hS D A];apply List.ext_getElem?;intro i;rw[List.getElem?_map,List.getElem?_map];cases hv:vs[i]? with
 | none =>
  have:l[i]?=none:=List.getElem?_eq_none (by have:=List.getElem?_eq_none_iff.1 hv;omega);rw[this];rfl
 | some v =>
  obtain⟨k,E,h1,h2,h3,h4⟩:=O i v hv;rw[E];simp only[Option.map_some,mvW,lkM,h1,h2];congr 3;apply List.ext_getElem?;intro q;rw[List.getElem?_map,List.getElem?_map];cases J:k.2.2[q]? with
  | none =>
   have:v.2.2[q]?=none:=List.getElem?_eq_none (by have:=List.getElem?_eq_none_iff.1 J;omega);rw[this];rfl
  | some n =>
   obtain⟨p,h5,U⟩:=h4 q n J;rw[U];simp[h5]
def mstL (hs:List Nat)(ps:List Nat):Nat:=if ps.any (λp=>decide ((hs[p]?).getD 0=0))=true then 0 else ps.foldl (λm p=>max m ((hs[p]?).getD 0)) 0
structure Sttl (ca m:Nat)(W:List Fm)(tw:Tag)(xw:List IV)(lines:List Ln)(links:List (List Lk))(hs:List Nat)(tl tk:Tag)(xl xk:List IV)(mN rb gH:Nat)(st:ISt):Prop where
 sp:SpOk ca W
 htw:okEs tw 4
 hxw:IsFms W xw
 ws:W.length<=200000
 all:LksAll ca W lines links
 hxl:AllR IsLn lines xl
 hxk:AllR wKe links xk
 htl:okEs tl 2
 htk:okEs tk 1
 len:hs.length=lines.length
 le:lines.length<=20000
 small:∀x∈hs,x<=20000
 lst:∀i x,hs[i]?=some x->LstG (clL W lines) links i x
 rbx:st rb=some (.box [spI ca tw xw m,.sl tl xl,.raw (.map (some mN)),.sl tk xk,slG gH lines.length])
 hts:st gH=some (.box (yQk hs))
section
variable {ca m:Nat}{W:List Fm}{tw:Tag}{xw:List IV}{lines:List Ln}{links:List (List Lk)}{hs:List Nat}{tl tk:Tag}{xl xk:List IV}{mN rb gH:Nat}
theorem Sttl.hF {st:ISt}(h:Sttl ca m W tw xw lines links hs tl tk xl xk mN rb gH st){i:Nat}{ln:Ln}(A:lines[i]?=some ln):hs[i]?=some (Tryz.hF (calJ ca) (lnW W ln)):=by
 have D:=(lGs A).1;obtain⟨x,hx⟩:=yQ1 (l:=hs) (k:=i) (by rw[h.len];exact D);rw[hx,h.all.hF h.sp A (h.lst i x hx)]
theorem Sttl.mst {st:ISt}(h:Sttl ca m W tw xw lines links hs tl tk xl xk mN rb gH st){ps:List Nat}(hp:∀p∈ps,p<lines.length):mstS (calJ ca) (ps.map λp=>((lines[p]?).map (lnW W)).getD ([],[]))=mstL hs ps:=by
 have key:∀p∈ps,Tryz.hF (calJ ca) (((lines[p]?).map (lnW W)).getD ([],[]))=(hs[p]?).getD 0:=λp E=>by
  obtain⟨ln,D⟩:=yQ1 (hp p E);rw[h.hF D,D];rfl
 have O:∀(A:List Nat) (a:Nat),(∀p∈A,p∈ps)->A.foldl (λm p=>max m (Tryz.hF (calJ ca) (((lines[p]?).map (lnW W)).getD ([],[])))) a=A.foldl (λm p=>max m ((hs[p]?).getD 0)) a:=λA=>by
  induction A with
  | nil=>intro a _;rfl
  | cons q A U =>
   intro a J;rw[List.foldl_cons,List.foldl_cons,key q (J q (.head _))];exact U _ λp hp=>J p (.tail _ hp)
 unfold mstS mstL;rw[List.any_map,List.foldl_map,O ps 0 λ_ h=>h];have:(ps.any ((λp=>decide (Tryz.hF (calJ ca) p=0)) ∘ λp=>((lines[p]?).map (lnW W)).getD ([],[])))=ps.any λp=>decide ((hs[p]?).getD 0=0):=by
  rw[Bool.eq_iff_iff,List.any_eq_true,List.any_eq_true];constructor
  ·rintro⟨p,hp,h⟩;exact⟨p,hp,by rw[<- key p hp];exact h⟩
  ·rintro⟨p,hp,h⟩;exact⟨p,hp,by show decide (Tryz.hF (calJ ca) _=0)=true;rw[key p hp];exact h⟩
 rw[this]
abbrev lkZ:List IV:=[.raw (.int .u8 0),.raw (.int .u8 0),.raw (.int .i32 0),.raw (.int .i32 0),.raw (.int .i32 0)]
theorem wGs {st:ISt}(h:Sttl ca m W tw xw lines links hs tl tk xl xk mN rb gH st){i:Nat}{ln:Ln}(ab:lines[i]?=some ln)(hc:¬ ClF (lnW W ln).1 (lnW W ln).2)(h2:2<=Tryz.hF (calJ ca) (lnW W ln)) :
  ICall prog gl 82 [ptr rb,.raw (.int .i32 (i:Int))] st (λr st'=>(∃k,IsLk k r/\zU2 (calJ ca) (lnW W ln)=some (lkM W lines k)/\k.2.2.length<=2/\k.1<256/\k.2.1<W.length/\∀p∈k.2.2,p<lines.length)/\st'=st):=by
 obtain⟨l,hl⟩:=yQ1 (l:=links) (k:=i) (by rw[h.all.len];exact (lGs ab).1);obtain⟨an,ak,aM⟩:=h.all.done i l hl;obtain rfl:an=ln:=by rw[ab] at ak;cases ak;rfl
 have aE:=h.all.ok _ (lMg ab);have aB:=wVv h.sp aE aM (λhq=>hc ((zQh h.sp.srt aE).1 hq));obtain⟨xi,aJ,tq,ys,rfl,aK,hys⟩:=h.hxk.2 i l hl;have hH:=h.hF ab;generalize au:Tryz.hF (calJ ca) (lnW W an)=H at h2 hH;have ai:∀k∈l,k.2.2.length<=2/\k.1<256/\k.2.1<W.length/\∀p∈k.2.2,p<lines.length:=λk A=>by
  obtain⟨_,a,b,c,d⟩:=h.all.lk h.sp (lMg hl) A;exact⟨a,b,c,λp hp=>by rw[<- h.all.len];exact d p hp⟩
 have av:∀(q:Nat) (k:Lk),l[q]?=some k->mstL hs k.2.2+1=H->(∀q',q'<q->∀D,l[q']?=some D->mstL hs D.2.2+1≠H)->zU2 (calJ ca) (lnW W an)=some (lkM W lines k):=λq k A h3 h4=>by
  unfold zU2;rw[aB];refine zWo (q:=q) (by rw[List.getElem?_map,A];rfl) ?_ λq' aA m' aD=>?_
  ·rw[au];exact dEt ((congrArg (·+1) (h.mst (ai k (lMg A)).2.2.2)).trans h3)
  ·rw[List.getElem?_map] at aD;obtain⟨D,E,rfl⟩:=Option.map_eq_some_iff.1 aD;rw[au];exact dEf λhq=>h4 q' aA D E ((congrArg (·+1) (h.mst (ai D (lMg E)).2.2.2)).symm.trans hq)
 have aN:∃k∈l,mstL hs k.2.2+1=H:=by
  obtain⟨n,rfl⟩:∃n,H=n+2:=⟨H-2,by omega⟩
  obtain⟨m',hb,hm,aC⟩:=zKv hc au;rw[aB] at hm;obtain⟨k,A,rfl⟩:=List.mem_map.1 hm;exact⟨k,A,by simp only[lkM] at aC;rw[h.mst (ai k A).2.2.2] at aC;omega⟩
 have U:=h.rbx;have aj:=h.hts;have hll:links.length=lines.length:=h.all.len;have aq:=(lGs ab).1;have a6:H<=20000:=h.small H (lMg hH);have O:IntKind.i64.wrap ((H:Int)-1)=((H-1:Nat):Int):=by rw[w64 (by omega) (by omega)];omega
 have al:∀(q:Nat) (k:Lk),l[q]?=some k->(∀q',q'<q->∀D,l[q']?=some D->mstL hs D.2.2+1≠H)->mstL hs k.2.2+1≠H->∀q',q'<q+1->∀D,l[q']?=some D->mstL hs D.2.2+1≠H:=λq k A h1 h2 q' aA D E=>by
  rcases Nat.lt_or_ge q' q with h3|h3
  ·exact h1 q' h3 D E
  ·obtain rfl:q'=q:=by omega
   rw[A] at E;cases E;exact h2
 refine iI func82 ?_;simp only[go_sem,zE,reduceCtorEq,fits,U,yQ3 h.htk,iNn,aJ];intro aZ;have ax:ys.length=l.length:=hys.1;refine LoopC.ctr l.length (λq fr st' ds=>(∀q',q'<q->∀D,l[q']?=some D->mstL hs D.2.2+1≠H)/\fr 0=.iv (ptr rb)/\fr 1=.iv (.raw (.int .i32 (i:Int)))/\fr 16=.iv (.sl tq ys)/\fr 17=.iv (.raw (.int .i64 (l.length:Int)))/\fr 18=.iv (.raw (.int .i64 (q:Int)))/\fr 4=.box lkZ/\st'=st/\ds=[]) ?_ ?_ ?_
 ·simp only[go_sem,zE,reduceCtorEq,ax];exact⟨nofun,rfl⟩
 ·rintro q fr am _ ag ⟨aa,f0,f1,f16,f17,f18,f4,rfl,rfl⟩;obtain⟨k,A⟩:=yQ1 ag;obtain⟨xk,hxk,ac⟩:=hys.2 q k A;obtain⟨k2,k3,k4,k5⟩:=ai k (lMg A);have aL:=λst=>to_c gl k xk ac k2 st;obtain⟨pp,qq,rfl,a1⟩:=id ac;simp only[go_sem,zE,zB,zA,zL,f16,f17,f18,lt_i ag,yQ3 aK,iNn,hxk,fits];refine (aL _).mono ?_;rintro _ am ⟨⟨tt,rfl,az⟩,rfl⟩;simp only[go_sem,yVf];intro _;refine LoopC.ctr k.2.2.length (λp fr st' ds=>(∀x∈k.2.2.take p,(hs[x]?).getD 0≠0)/\fr 7=.iv (.raw (.int .i64 ((k.2.2.take p).foldl (λm x=>max m ((hs[x]?).getD 0)) 0:Nat)))/\fr 6=.box [.raw (.int .u8 (k.1:Int)),.raw (.int .u8 (k.2.2.length:Int)),.raw (.int .i32 (k.2.1:Int)),.raw (.int .i32 (pp:Int)),.raw (.int .i32 (qq:Int))]/\fr 23=.iv (.sl tt (i32I k.2.2))/\fr 24=.iv (.raw (.int .i64 (k.2.2.length:Int)))/\fr 25=.iv (.raw (.int .i64 (p:Int))) /\
   fr 0=.iv (ptr rb)/\fr 1=.iv (.raw (.int .i32 (i:Int)))/\fr 16=.iv (.sl tq ys)/\fr 17=.iv (.raw (.int .i64 (l.length:Int)))/\fr 18=.iv (.raw (.int .i64 (q:Int)))/\fr 4=.box lkZ/\st'=am/\ds=[]) ?_ ?_ ?_
  ·simp only[go_sem,zE,reduceCtorEq,f0,f1,f16,f17,f18,f4];simp
  ·rintro p fr aI _ ah ⟨af,f7,f6,f23,f24,f25,f0,f1,f16,f17,f18,f4,rfl,rfl⟩;obtain⟨x,hx⟩:=yQ1 ah;obtain⟨ay,J⟩:=yQ1 (l:=hs) (k:=x) (by rw[h.len];exact k5 x (lMg hx));by_cases hz:ay=0
   ·subst hz;simp only[go_sem,zE,reduceCtorEq,f23,f24,f25,f0,f1,f16,f17,f18,f4,fits,lt_i ah,yQ3 az,iNn,yGa hx,U,aj,Nat.mul_one,k5 x (lMg hx),yZ8 J,IV.one,show decide (((0:Nat):Int)=0)=true from rfl,aq,yZ8 hH,O,yV9,dEf (show ¬ (0:Int)=((H-1:Nat):Int) by omega),yQc ag (show l.length<=281474976710656 by omega)];refine al q k A aa ?_;have:mstL hs k.2.2=0:=by unfold mstL;rw[if_pos (List.any_eq_true.2 ⟨x,lMg hx,by rw[J];rfl⟩)]
    omega
   ·simp only[go_sem,zE,reduceCtorEq,f7,f6,f23,f24,f25,f0,f1,f16,f17,f18,f4,fits,lt_i ah,yQ3 az,iNn,yGa hx,U,aj,Nat.mul_one,k5 x (lMg hx),yZ8 J,IV.one,dEf (show ¬ (ay:Int)=0 by omega),yV9,yQc ah (show k.2.2.length<=281474976710656 by omega)];rw[yQ7 hx];refine⟨λy hy=>?_,?_⟩
    ·rcases List.mem_append.1 hy with hy|hy
     ·exact af y hy
     ·rw[List.mem_singleton.1 hy,J];exact hz
    ·rw[List.foldl_append,List.foldl_cons,List.foldl_nil,J,Option.getD_some,Int.max_def,Nat.max_def];split<;>split<;>simp<;>omega
  ·rintro fr aI _ ⟨af,f7,f6,f23,f24,f25,f0,f1,f16,f17,f18,f4,rfl,rfl⟩;rw[lTl] at af f7;have hm:mstL hs k.2.2=k.2.2.foldl (λm x=>max m ((hs[x]?).getD 0)) 0:=by
    unfold mstL;rw[if_neg];intro hy;obtain⟨x,hx,h0⟩:=List.any_eq_true.1 hy;exact af x hx (of_decide_eq_true h0)
   rw[<- hm] at f7;by_cases hq:mstL hs k.2.2+1=H
   ·simp only[go_sem,zE,zA,zL,reduceCtorEq,f7,f6,f24,f25,f0,f1,f4,fits,yQi (nLi _),iNn,U,aj,Nat.mul_one,aq,yZ8 hH,IV.one,O,dEt (show ((mstL hs k.2.2:Nat):Int)=((H-1:Nat):Int) by omega)];exact yQ0 ⟨⟨k,ac,av q k A hq aa,k2,k3,k4,k5⟩,rfl⟩
   ·simp only[go_sem,zE,reduceCtorEq,f7,f24,f25,f0,f1,f16,f17,f18,f4,fits,yQi (nLi _),iNn,U,aj,Nat.mul_one,aq,yZ8 hH,IV.one,O,dEf (show ¬ ((mstL hs k.2.2:Nat):Int)=((H-1:Nat):Int) by omega),yQc ag (show l.length<=281474976710656 by omega)];exact al q k A aa hq
 ·rintro fr am _ ⟨aa,f0,f1,f16,f17,f18,f4,rfl,rfl⟩;obtain⟨k,A,h3⟩:=aN;obtain⟨q,hq⟩:=List.mem_iff_getElem?.1 A;exact (aa q (lGs hq).1 k hq h3).elim
end
end Go.Proofs.Tryz
namespace Go.Iv
open Go
theorem xQv {l:Array Bool}{i j:Nat}(A:i<l.size):(l.setIfInBounds i true).getD j false=if i=j then true else l.getD j false:=by
 by_cases h:i=j
 ·subst h;rw[if_pos rfl];simp[A]
 ·rw[if_neg h,getD_set_ne false h]
theorem yJs (c:Cf)(ops:List Oper)(dst:Option Nat)(op:Op)(D:TypeId)(pos:String)(A:Array Edge)(K:Kt)(ad:Ad)(fr:Fr)(st:ISt)(ds:List Dfd):yY4 c ops ⟨dst,op,D,pos,A,none⟩ K ad fr st ds=vcOp c dst op K ad fr st ds:=rfl
theorem xXr {ops:Array Oper}{A:Array Bool}(h:((List.range ops.size).all λi=>(opAt ops i).after.toList.all λe=>!Region.binds .any e || decide (e.on<i))=true)(hz:A.size=ops.size)(hr:Region.ready .any ops A=[]):∀i,i<ops.size->A.getD i false=true:=by
 intro i
 induction i using Nat.strongRecOn with
 | _ i U =>
  intro D;refine Classical.byContradiction λhc=>?_;have h4:A.getD i true=false:=by
   rw[Array.getD_eq_getD_getElem?,Array.getElem?_eq_getElem (by omega)] at hc ⊢;simpa using hc
  have:i∈Region.ready .any ops A:=mem_ready.2 ⟨h4,_,yVc D,λe E hb=>by
   have O:=List.all_eq_true.1 (List.all_eq_true.1 h i (List.mem_range.2 D)) e (by simpa using E);rw[hb] at O;have J:e.on<i:=by simpa using O
   exact U e.on J (Nat.lt_trans J D)⟩
  rw[hr] at this;cases this
