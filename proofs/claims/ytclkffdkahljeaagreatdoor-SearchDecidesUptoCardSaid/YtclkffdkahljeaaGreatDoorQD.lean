/- Walks: binary search among numbers; whet -/
import Derived.Test.YtclkffdkahljeaaGreatDoorQC
set_option linter.all false
open Nat renaming reduceEqDiff → zE,reduceBEq → zB,reduceAdd → zA,reduceMul → zM,reduceSub → zS,reduceLeDiff → zL
namespace Go.Proofs.Tryz
open Go Go.Iv
set_option maxRecDepth 4000
variable (gl:Nat->Option IV)
theorem nanC (a:Int)(st:ISt):ICall prog gl 134 [.raw (.int .i64 a)] st (λr st'=>r=.raw (.bool false)/\st'=st):=by
 refine iI func134 ?_;simp only[go_sem,zE,zB,zA,zM,zS,zL,reduceCtorEq,decide_true];exact yQ0 ⟨rfl,rfl⟩
theorem nanS (a:Int)(st:ISt):ICall prog gl 104 [.raw (.int .i64 a)] st (λr st'=>r=.raw (.bool false)/\st'=st):=by
 refine iI func104 ?_;simp only[go_sem,zE,zB,zA,zM,zS,zL,reduceCtorEq,decide_true];exact yQ0 ⟨rfl,rfl⟩
theorem wZz (a b:Int)(st:ISt):ICall prog gl 103 [.raw (.int .i64 a),.raw (.int .i64 b)] st (λr st'=>r=.raw (.bool (decide (a<b)))/\st'=st):=by
 refine iI func103 ?_;simp only[go_sem,zE,zB,zA,zM,zS,zL,reduceCtorEq];refine (nanC gl _ _).mono ?_;rintro _ st ⟨rfl,rfl⟩;simp only[go_sem,zE,zB,zA,zM,zS,zL,reduceCtorEq];exact yQ0 ⟨rfl,rfl⟩
theorem uKx (l:List Nat)(tg:Tag)(htg:okEs tg 1)(hl:Inc l)(hlen:l.length<=1099511627776)(n:Nat)(st:ISt) :
  ICall prog gl 69 [.sl tg (yQh l),.raw (.int .i64 (n:Int))] st
   (λr st'=>(∃(i:Nat),r=.tup [.raw (.int .i64 (i:Int)),.raw (.bool (decide (n∈l)))])/\st'=st):=by
 have hlt':∀ {i k a b:Nat},l[i]?=some a->l[k]?=some b->i<k->a<b:=λha hb hik=>by
  obtain⟨h1,h2⟩:=lGs ha;obtain⟨h3,h4⟩:=lGs hb;have:=List.pairwise_iff_getElem.1 hl _ _ h1 h3 hik
  rwa [h2,h4] at this
 have c1:=λn:Int=>yXt prog 3 185 zJk zVz .i64 n;have c2:=λn:Int=>yXt prog 185 3 zVz zJk .u64 n;refine iI func69 ?_;simp only[go_sem,zE,zB,zA,zM,zS,zL,reduceCtorEq,yQi];intro _;refine LoopC.dec l.length (λm fr st' ds=>(∃lo hi,m=hi-lo/\lo<=hi/\hi<=l.length/\(∀k a,k<lo->l[k]?=some a->a<n)/\(∀k a,hi<=k->l[k]?=some a->¬ a<n)/\fr 7=.iv (.raw (.int .i64 (lo:Int)))/\fr 8=.iv (.raw (.int .i64 (hi:Int))))/\fr 0=.iv (.sl tg (yQh l))/\fr 1=.iv (.raw (.int .i64 (n:Int))) /\
  fr 6=.iv (.raw (.int .i64 l.length))/\st'=st/\ds=[]) ?_ ?_
 ·simp only[go_sem,zE,zB,zA,zM,zS,zL,reduceCtorEq];refine⟨0,l.length,by omega,by omega,by omega,λk a hk=>absurd hk (by omega),λk a hk ha=>?_,rfl,rfl⟩;have:=(lGs ha).1;omega
 ·rintro m fr st1 _ ⟨⟨lo,hi,hm,hlh,hhn,h1,h2,f7,f8⟩,f0,f1,f6,rfl,rfl⟩;by_cases hlt:lo<hi
  ·obtain⟨hm1,hm2⟩:=wK8 hlh hhn hlen;obtain⟨a,ha⟩:=yQ2 (l:=l) (k:=(lo+hi) / 2) (by omega);simp only[go_sem,zE,zB,zA,zM,zS,zL,reduceCtorEq,f0,f1,f6,f7,f8,lt_i hlt,c1,c2,show ((0:Int)<=1)=True from eq_true (by omega),wK7,hm1,hm2,yQ3 htg,iNn,yZc ha,fits];refine (wZz gl _ _ _).mono ?_;rintro _ _ ⟨rfl,rfl⟩;by_cases hc:a<n
   ·simp only[go_sem,zE,zB,zA,zM,zS,zL,reduceCtorEq,f0,f1,f6,f7,f8,dEt (show (a:Int)<n by omega),yQd (show (lo+hi) / 2<l.length by omega) (show l.length<=281474976710656 by omega)];refine⟨hi-((lo+hi) / 2+1),by omega,(lo+hi) / 2+1,hi,rfl,by omega,hhn,λk b hk hb=>?_,h2,rfl,rfl⟩;rcases Nat.lt_or_ge k ((lo+hi) / 2) with h|h
    ·exact Nat.lt_trans (hlt' hb ha h) hc
    ·obtain rfl:k=(lo+hi) / 2:=by omega
     rw[ha] at hb;cases hb;exact hc
   ·simp only[go_sem,zE,zB,zA,zM,zS,zL,reduceCtorEq,f0,f1,f6,f7,f8,dEf (show ¬ (a:Int)<n by omega)];refine⟨(lo+hi) / 2-lo,by omega,lo,(lo+hi) / 2,rfl,by omega,by omega,h1,λk b hk hb=>?_,rfl,rfl⟩;rcases Nat.lt_or_ge ((lo+hi) / 2) k with h|h
    ·have:=hlt' ha hb h;omega
    ·obtain rfl:k=(lo+hi) / 2:=by omega
     rw[ha] at hb;cases hb;exact hc
  ·obtain rfl:lo=hi:=by omega
   have hmem:n∈l↔l[lo]?=some n:=⟨λh=>by
    obtain⟨k,hk⟩:=List.mem_iff_getElem?.1 h;rcases Nat.lt_trichotomy k lo with h|h|h
    ·exact absurd (h1 k n h hk) (nLi _)
    ·rwa [<- h]
    ·obtain⟨b,hb⟩:=yQ2 (l:=l) (k:=lo) (by have:=(lGs hk).1;omega);exact absurd (hlt' hb hk h) (h2 lo b (Nat.le_refl _) hb),lMg⟩
   by_cases hln:lo<l.length
   ·obtain⟨a,ha⟩:=yQ2 hln;by_cases hc:a=n
    ·subst hc;have hd:decide (a∈l)=true:=dEt (hmem.2 ha);rw[hd];simp only[go_sem,zE,zB,zA,zM,zS,zL,reduceCtorEq,f0,f1,f6,f7,f8,yQm (nLi _),lt_i hln,yQ3 htg,iNn,yZc ha,fits,decide_true];exact yQ0 ⟨⟨lo,rfl⟩,rfl⟩
    ·have hd:decide (n∈l)=false:=dEf λh=>by
      rw[hmem,ha] at h;cases h;exact hc rfl
     rw[hd];simp only[go_sem,zE,zB,zA,zM,zS,zL,reduceCtorEq,f0,f1,f6,f7,f8,yQm (nLi _),lt_i hln,yQ3 htg,iNn,yZc ha,fits,dEf (show ¬ (a:Int)=n by omega)];refine (nanS gl _ _).mono ?_;rintro _ _ ⟨rfl,rfl⟩;simp only[go_sem,zE,zB,zA,zM,zS,zL,reduceCtorEq,f0,f1,f6,f7,f8];exact yQ0 ⟨⟨lo,rfl⟩,rfl⟩
   ·have hd:decide (n∈l)=false:=dEf λh=>by
     rw[hmem] at h;exact hln (lGs h).1
    rw[hd];simp only[go_sem,zE,zB,zA,zM,zS,zL,reduceCtorEq,f0,f1,f6,f7,f8,yQm (nLi _),yQm hln];exact yQ0 ⟨⟨lo,rfl⟩,rfl⟩
def axW (W:List Fm)(ln:Ln):Option (Nat×Fm):=match ln.1.find? (λi=>decide (i∈ln.2)) with
 | some i=>some (1,(W[i]?).getD fm0)
 | none=>if (ln.1.any λi=>zX7 ((W[i]?).getD fm0))=true then some (2,.mk 2 noN [] []) else none
theorem xUy {W:List Fm}{ln:Ln}(h:Ix W ln.1):(axW W ln).isSome=true↔clN W ln:=by
 unfold axW clN;cases hq:ln.1.find? (λi=>decide (i∈ln.2)) with
 | some i=>simp;exact .inl ⟨i,List.mem_of_find?_eq_some hq,by simpa using List.find?_some hq⟩
 | none =>
  have hno:¬ ∃i∈ln.1,i∈ln.2:=λ⟨i,h1,h2⟩=>by
   have:=List.find?_eq_none.1 hq i h1;simp[h2] at this
  simp only[hno,false_or];constructor
  ·intro h2;split at h2
   ·rename_i ha;obtain⟨i,hi,hf⟩:=List.any_eq_true.1 ha;obtain⟨f,hw⟩:=h.get hi;exact⟨i,hi,f,hw,by rw[hw] at hf;exact hf⟩
   ·cases h2
  ·rintro⟨i,hi,f,hw,hf⟩;rw[if_pos (List.any_eq_true.2 ⟨i,hi,by rw[hw];exact hf⟩)];rfl
theorem xVa {p:Nat->Bool}{l:List Nat}{k a:Nat}(h:(l.take k).find? p=none)(ha:l[k]?=some a):(p a=true->l.find? p=some a)/\(p a=false->(l.take (k+1)).find? p=none):=by
 refine⟨λhp=>?_,λhp=>?_⟩
 ·obtain⟨h1,h2⟩:=lGs ha;rw[<- List.take_append_drop k l,List.find?_append,h,List.drop_eq_getElem_cons h1,h2];simp[hp]
 ·rw[yQ7 ha,List.find?_append,h];simp[hp]
theorem xXv (f:Fm):zX7 f=decide (f.op=2):=by cases f;rfl
theorem xZ7 (ca m:Nat)(W:List Fm)(hS:SpOk ca W)(tw:Tag)(xw:List IV)(htw:okEs tw 4)(hxw:IsFms W xw)(ln:Ln)(hln:LnOk W ln)(x:IV)(hx:IsLn ln x)(st:ISt) :
  ICall prog gl 38 [spI ca tw xw m,x] st (λr st'=>(∃z,r=.tup [.raw (.int .u8 (((axW W ln).getD (0,fm0)).1:Int)),z,.raw (.bool (axW W ln).isSome)]/\IsFm ((axW W ln).getD (0,fm0)).2 z)/\st'=st):=by
 obtain⟨t1,t2,rfl,e1,e2⟩:=hx;have hl1:=yWg hln.1.1 hln.1.2;have hl2:=yWg hln.2.1 hln.2.2;have hWl:=hS.len;have hbs:=λn st=>uKx gl ln.2 t2 e2 hln.2.1 (by omega) n st;refine iI func38 ?_;simp only[go_sem,zE,zB,zA,zM,zS,zL,reduceCtorEq,fits,yQi];intro _;refine LoopC.ctr ln.1.length (λk fr st' ds=>(ln.1.take k).find? (λi=>decide (i∈ln.2))=none/\fr 0=.iv (spI ca tw xw m)/\fr 3=.box [.sl t1 (yQh ln.1),.sl t2 (yQh ln.2)]/\(∃c,fr 5=.box c/\c.length=4) /\
  fr 14=.iv (.sl t1 (yQh ln.1))/\fr 15=.iv (.raw (.int .i64 ln.1.length))/\fr 16=.iv (.raw (.int .i64 (k:Int)))/\st'=st/\ds=[]) ?_ ?_ ?_
 ·simp only[go_sem,zE,zB,zA,zM,zS,zL,reduceCtorEq];exact⟨rfl,⟨_,rfl,rfl⟩,rfl⟩
 ·rintro k fr st1 _ hlt ⟨hno,f0,f3,⟨c5,f5,hc5⟩,f14,f15,f16,rfl,rfl⟩;obtain⟨a,ha⟩:=yQ2 hlt;obtain⟨g,hg⟩:=hln.1.get (lMg ha);have hgl:=(lGs hg).1;obtain⟨q1,q2⟩:=xVa hno ha;simp only[go_sem,zE,zB,zA,zM,zS,zL,reduceCtorEq,f0,f3,f5,f14,f15,f16,lt_i hlt,yQ3 e1,iNn,yZc ha,fits];refine (hbs a _).mono ?_;rintro _ st ⟨⟨i,rfl⟩,rfl⟩;by_cases hin:a∈ln.2
  ·have hax:axW W ln=some (1,g):=by unfold axW;rw[q1 (dEt hin)];simp[hg]
   obtain⟨y,hky,hy⟩:=hxw.get hg;have hcp:=λst=>zZp gl g y hy (by have:=hS.size (lMg hg);omega) st;obtain⟨y1,y2,y3,y4,y5,y6,rfl⟩:=hy.agg;simp only[go_sem,zE,zB,zA,zM,zS,zL,reduceCtorEq,f0,f3,f5,f14,f15,f16,dEt hin,fits,hky,lt_i hgl,yQ3 htw,iNn];refine (hcp _).mono ?_;rintro z _ ⟨hz,rfl⟩;have hz':=hz.1;obtain⟨z1,z2,z3,z4,z5,z6,rfl⟩:=hz'.agg;simp only[go_sem,zE,zB,zA,zM,zS,zL,reduceCtorEq,f5,fits,hc5];rw[hax];refine yQ0 ⟨⟨_,rfl,?_⟩,rfl⟩;exact hz'
  ·simp only[go_sem,zE,zB,zA,zM,zS,zL,reduceCtorEq,f0,f3,f5,f14,f15,f16,dEf hin,fits,yQd hlt (show ln.1.length<=281474976710656 by omega)];exact⟨q2 (dEf hin),_,rfl,hc5⟩
 ·rintro fr st1 _ ⟨hno,f0,f3,⟨c5,f5,hc5⟩,f14,f15,f16,rfl,rfl⟩;rw[lTl] at hno;simp only[go_sem,zE,zB,zA,zM,zS,zL,reduceCtorEq,f0,f3,f14,f15,f16,yQm (nLi _),yQi];intro _;refine LoopC.ctr ln.1.length (λk fr st' ds=>((ln.1.take k).any λi=>zX7 ((W[i]?).getD fm0))=false/\fr 0=.iv (spI ca tw xw m)/\(∃c,fr 5=.box c/\c.length=4) /\
   fr 38=.iv (.sl t1 (yQh ln.1))/\fr 39=.iv (.raw (.int .i64 ln.1.length))/\fr 40=.iv (.raw (.int .i64 (k:Int)))/\st'=st1/\ds=[]) ?_ ?_ ?_
  ·simp only[go_sem,zE,zB,zA,zM,zS,zL,reduceCtorEq];exact⟨rfl,f0,⟨_,f5,hc5⟩,rfl⟩
  ·rintro k fr st _ hlt ⟨hny,f0,⟨c5,f5,hc5⟩,f38,f39,f40,rfl,rfl⟩;obtain⟨a,ha⟩:=yQ2 hlt;obtain⟨g,hg⟩:=hln.1.get (lMg ha);have hgl:=(lGs hg).1;obtain⟨y,hky,hy⟩:=hxw.get hg;obtain⟨y1,y2,y3,y4,y5,y6,rfl⟩:=hy.agg;obtain rfl:y1=g.op:=vQt hy;have htk:(ln.1.take (k+1)).any (λi=>zX7 ((W[i]?).getD fm0))=decide (g.op=2):=by
    rw[yQ7 ha,List.any_append,hny,List.any_cons,List.any_nil,hg,<- xXv g];simp
   by_cases h2:g.op=2
   ·have hax:axW W ln=some (2,.mk 2 noN [] []):=by
     unfold axW;rw[hno];simp only;rw[if_pos (List.any_eq_true.2 ⟨a,lMg ha,by rw[hg];simp[xXv,h2]⟩)]
    simp only[go_sem,zE,zB,zA,zM,zS,zL,reduceCtorEq,f0,f5,f38,f39,f40,lt_i hlt,yQ3 e1,iNn,yZc ha,fits,hky,lt_i hgl,yQ3 htw,dEt (show (g.op:Int)=2 by omega),hc5];rw[hax];refine yQ0 ⟨⟨_,rfl,?_⟩,rfl⟩;simp only[IsFm,Option.getD_some];exact⟨_,_,_,_,rfl,by omega,.inl rfl,by simp only[IsTms],.inl rfl,by simp only[IsFms]⟩
   ·simp only[go_sem,zE,zB,zA,zM,zS,zL,reduceCtorEq,f0,f5,f38,f39,f40,lt_i hlt,yQ3 e1,iNn,yZc ha,fits,hky,lt_i hgl,yQ3 htw,dEf (show ¬ (g.op:Int)=2 by omega),yQd hlt (show ln.1.length<=281474976710656 by omega)];exact⟨by rw[htk];exact dEf h2,_,rfl,hc5⟩
  ·rintro fr st _ ⟨hny,f0,⟨c5,f5,hc5⟩,f38,f39,f40,rfl,rfl⟩;rw[lTl] at hny;have hax:axW W ln=none:=by
    unfold axW;rw[hno];simp only;rw[if_neg (by rw[hny];simp)]
   simp only[go_sem,zE,zB,zA,zM,zS,zL,reduceCtorEq,f5,f39,f40,yQm (nLi _),fits,hc5];rw[hax];refine yQ0 ⟨⟨_,rfl,?_⟩,rfl⟩;simp only[IsFm,Option.getD_none,fm0];exact⟨_,_,_,_,rfl,by omega,.inl rfl,by simp only[IsTms],.inl rfl,by simp only[IsFms]⟩
def b3 (p:Nat×Bool):List UInt8:=[UInt8.ofNat (p.1 / 65536),UInt8.ofNat (p.1 / 256),UInt8.ofNat p.1]
def keyL (ln:Ln):List UInt8:=(plcs ln).flatMap b3++[UInt8.ofNat ln.1.length]
def keyB (ln:Ln):ByteArray:=⟨(keyL ln).toArray⟩
def byI (l:List UInt8):List IV:=l.map λu=>.raw (.int .u8 (u.toNat:Int))
theorem zGs:∀l:List UInt8,yVt (byI l)=some l
 | []=>rfl
 | u::l=>by
  show yVt (.raw (.int .u8 (u.toNat:Int))::byI l)=_;rw[xZ5,zGs l];rfl
theorem kw (k:Nat):IntKind.u8.wrap ((k:Nat):Int)=((UInt8.ofNat k).toNat:Int):=by
 simp[IntKind.wrap,IntKind.bits,IntKind.signed]
theorem ks8 (k:Nat):Int.fdiv (k:Int) (2 ^ min (Int.toNat 8) 64)=((k / 256:Nat):Int):=by
 rw[show (2:Int) ^ min (Int.toNat 8) 64=((256:Nat):Int) from rfl];exact (Int.ofNat_fdiv k 256).symm
theorem ks16 (k:Nat):Int.fdiv (k:Int) (2 ^ min (Int.toNat 16) 64)=((k / 65536:Nat):Int):=by
 rw[show (2:Int) ^ min (Int.toNat 16) 64=((65536:Nat):Int) from rfl];exact (Int.ofNat_fdiv k 65536).symm
theorem xV4 (a b c:Operand):yJn 3 [(0,a),(1,b),(2,c)]=true:=rfl
theorem uZd (ln:Ln)(x:IV)(hx:IsLn ln x)(hl:ln.1.length<=1000000/\ln.2.length<=1000000)(st:ISt) :
  ICall prog gl 112 [x] st (λr st'=>r=.raw (.string (keyB ln))/\st'=st):=by
 have hpc:=λst=>xX8 gl ln x hx st;have hp1:=λI=>zYj gl ln x hx ⟨by omega,by omega⟩ I;obtain⟨t1,t2,rfl,e1,e2⟩:=hx;have hcv:=λn:Int=>yXt prog 3 5 zJk vQi .i64 n;refine ICall.intro (c:=cf prog gl [3] []) func112 rfl (by show _<=30;simp) (by kernel_rfl) ?_;simp only[go_sem,zE,zB,zA,zM,zS,zL,reduceCtorEq,fits];refine λb=>yQ9 λhb=>?_;refine (hpc _).mono ?_;rintro _ st1 ⟨rfl,rfl⟩;simp only[go_sem,zE,zB,zA,zM,zS,zL,reduceCtorEq,fits];refine RangeC.intro (plX ln) (plcs ln).length (λk st'=>∃t,st' b=some (.box [.sl t (byI (((plcs ln).take k).flatMap b3))])/\own st' t (3*k) 1 st/\subSt st st') (λ_ _=>False) (by simp only[go_sem]) ?_ ⟨_,ISt.put_same _ _ _,own.nil _ _ _ _ _,yQp hb⟩ ?_ (hp1 _) ?_ (λ_ _ _ h=>h.elim)
 ·rintro k a ⟨p,_,rfl⟩;rfl
 ·rintro k _ st1 ⟨⟨i,r⟩,hp,rfl⟩ ⟨t,h1,h2,h3⟩;simp only[go_sem,zE,zB,zA,zM,zS,zL,reduceCtorEq,fits,h1,hcv,show ((0:Int)<=8)=True from eq_true (by omega),show ((0:Int)<=16)=True from eq_true (by omega),ks8,ks16,kw,xV4];have hkl:k<ln.1.length+ln.2.length:=by rw[<- yGm];exact (lGs hp).1
  have hbl:(byI (((plcs ln).take k).flatMap b3)).length=3*k:=by
   rw[byI,List.length_map];have:∀l:List (Nat×Bool),(l.flatMap b3).length=3*l.length:=λl=>by
    induction l with
    | nil=>rfl
    | cons a l ih=>rw[List.flatMap_cons,lLa,ih,List.length_cons];show 3+_=_;omega
   rw[this,List.length_take,yGm];omega
  refine zGu (m:=3) h2 hbl rfl h3 rfl (by simp[fits,IV.one]) (by simp only;omega) (by omega) λt' st2 h4 h5 h6=>?_;have h7:st2 b=some (.box [.sl t (byI (((plcs ln).take k).flatMap b3))]):=h6 b _ h1 λn h=>by cases h
  simp only[go_sem,zE,zB,zA,zM,zS,zL,reduceCtorEq,h7,fits];refine⟨t',?_,?_,yQe h5 hb⟩
  ·rw[yQ7 hp,List.flatMap_append];simp only[byI,List.map_append];rfl
  ·rw[show 3*(k+1)=3*k+3 by omega];exact h4.mono λg hg _=>by
    rw[yQ6 λh=>by rw[h,h7] at hg;cases hg];exact hg
 ·rintro st1 rr ⟨t,h1,h2,h3⟩;rw[lTl] at h1;simp only[go_sem,zE,zB,zA,zM,zS,zL,reduceCtorEq,h1,fits,yQi,hcv,kw,yQ1];intro _;have hbl:(byI ((plcs ln).flatMap b3)).length=3*(plcs ln).length:=by
   rw[byI,List.length_map];have:∀l:List (Nat×Bool),(l.flatMap b3).length=3*l.length:=λl=>by
    induction l with
    | nil=>rfl
    | cons a l ih=>rw[List.flatMap_cons,lLa,ih,List.length_cons];show 3+_=_;omega
   exact this _
  have hpl:=yGm ln;refine zGu (m:=1) h2 hbl rfl h3 rfl (by simp[fits,IV.one]) (by simp only;omega) (by omega) λt' st2 h4 h5 h6=>?_;have hby:yVt (byI ((plcs ln).flatMap b3)++[.raw (.int .u8 ((UInt8.ofNat ln.1.length).toNat:Int))])=some (keyL ln):=by
   have:=zGs (keyL ln)
   rwa [keyL,byI,List.map_append] at this
  have hne:¬ keyL ln=[]:=by unfold keyL;simp
  have hsz:(keyL ln).toArray.size<=281474976710656:=by
   unfold keyL;rw[List.size_toArray,lLa];rw[byI,List.length_map] at hbl;rw[hbl];simp only[List.length_cons,List.length_nil];omega
  simp only[go_sem,zE,zB,zA,zM,zS,zL,reduceCtorEq,hby,hne,hsz,Option.bind_some,fits];exact yQs h5 ⟨rfl,rfl⟩
theorem wX5 {a b:Ln}(ha:(∀i∈a.1,i<16777216)/\∀i∈a.2,i<16777216)(hb:(∀i∈b.1,i<16777216)/\∀i∈b.2,i<16777216)(hl:a.1.length<256/\b.1.length<256)(h:keyB a=keyB b):a=b:=by
 have h1:keyL a=keyL b:=by
  have:=congrArg (λx:ByteArray=>x.data.toList) h;simpa[keyB] using this
 unfold keyL at h1;have h2:=List.append_inj_left' h1 rfl;have h3:=List.append_inj_right' h1 rfl;have hnum:∀n,n<16777216->(UInt8.ofNat (n / 65536)).toNat*65536+(UInt8.ofNat (n / 256)).toNat*256+(UInt8.ofNat n).toNat=n:=λn hn=>by
  simp only[UInt8.toNat_ofNat'];omega
 have key:∀(l m:List (Nat×Bool)),(∀p∈l,p.1<16777216)->(∀p∈m,p.1<16777216)->l.flatMap b3=m.flatMap b3->l.map (·.1)=m.map (·.1):=λl=>by
  induction l with
  | nil =>
   intro m _ _ h;cases m with
   | nil=>rfl
   | cons p m=>simp[b3] at h
  | cons p l ih =>
   intro m hl hm h;cases m with
   | nil=>simp[b3] at h
   | cons q m =>
    rw[List.flatMap_cons,List.flatMap_cons] at h;simp only[b3,List.cons_append,List.nil_append,List.cons.injEq] at h;obtain⟨e1,e2,e3,h⟩:=h;have n1:=hnum p.1 (hl p (.head _));have n2:=hnum q.1 (hm q (.head _));rw[e1,e2,e3,n2] at n1;rw[List.map_cons,List.map_cons,ih m (λx hx=>hl x (.tail _ hx)) (λx hx=>hm x (.tail _ hx)) h,n1]
 have hpl:∀c:Ln,(∀i∈c.1,i<16777216)/\(∀i∈c.2,i<16777216)->∀p∈plcs c,p.1<16777216:=λc hc p hp=>by
  rcases List.mem_append.1 hp with hp|hp
  ·obtain⟨i,hi,rfl⟩:=List.mem_map.1 hp;exact hc.1 i hi
  ·obtain⟨i,hi,rfl⟩:=List.mem_map.1 hp;exact hc.2 i hi
 have h4:=key (plcs a) (plcs b) (hpl a ha) (hpl b hb) h2;have hm:∀c:Ln,(plcs c).map (·.1)=c.1++c.2:=λc=>by simp[plcs,Function.comp_def]
 rw[hm,hm] at h4;have h5:a.1.length=b.1.length:=by
  have:=congrArg UInt8.toNat (List.cons.inj h3).1;simp only[UInt8.toNat_ofNat'] at this;omega
 exact Prod.ext (List.append_inj_left h4 h5) (List.append_inj_right h4 h5)
end Go.Proofs.Tryz
namespace Go.Iv
open Go
theorem ICallV.sub {P:Program}{gl:Nat->Option IV}{f:IV}{args:List IV}{st st0:ISt}{K:IV->ISt->Prop}(h:ICallV P gl f args st0 K)(hs:subSt st0 st):ICallV P gl f args st K:=by
 intro B X fv rs hg hst hf hv;obtain⟨hg1,he1⟩:=hg.sub (st:=st0) (by rw[hst];exact hs);refine (h B { X with st:=st0 } fv rs hg1 rfl (he1.v hf) ⟨hv.1,λi r c hr hc=>he1.v (hv.2 i r c hr hc)⟩).mono λv w' he=>?_;obtain⟨X',x,h1,h2,h3,h4,h5⟩:=he;exact⟨X',x,h1,h2,he1.trans h3,h4,h5⟩
theorem YieldL.none {P:Program}{gl:Nat->Option IV}{y:IV}{xs:Nat->List IV->Prop}{I:Nat->ISt->Prop}{S:ISt->Prop}(h:YieldL P gl y (zK6 xs) I S){k:Nat}{a:List IV}{stu:ISt}(hx:xs k a)(hi:I k stu) :
  ICallV P gl y a stu λr st'=>(r=.raw (.bool true)/\I (k+1) st')\/(r=.raw (.bool false)/\S st') :=
 (h k a (λ_=>Option.none) stu ⟨hx,rfl⟩ (λ_ hb=>absurd rfl hb) hi).mono λr st' hr=>hr.imp (λ⟨h1,s1,h2,_,h4⟩=>⟨h1,h4▸h2⟩) id
end Go.Iv
namespace Go.Proofs.Tryz
open Go Go.Iv
set_option maxRecDepth 4000
variable (gl:Nat->Option IV)
abbrev Mv:=Nat×Nat×List Ln
def mvN (j:Bool)(ln:Ln)(i:Nat)(t:Tn):Option Mv:=if t.2.any (tooN j ln)=true then none else some (t.1,i,t.2.map (yGl j ln))
noncomputable def yXe (W:List Fm)(j:Bool)(ln:Ln)(p:Nat×Bool):List (Option Mv):=match W[p.1]? with
 | some f=>(yZp W j f p.2).map (mvN j ln p.1)
 | none=>[]
noncomputable def mvsN (W:List Fm)(j:Bool)(ln:Ln):List (Option Mv):=(plcs ln).flatMap (yXe W j ln)
def cutO {α:Type}:List (Option α)->List (Option α)
 | []=>[]
 | none::_=>[none]
 | some a::l=>some a::cutO l
theorem zZ9 {α:Type}:∀ {l m:List (Option α)},(∀o∈l,o≠none)->cutO (l++m)=l++cutO m
 | [],m,_=>rfl
 | none::l,m,h=>absurd rfl (h none (.head _))
 | some a::l,m,h=>by simp only[List.cons_append,cutO,zZ9 λo ho=>h o (.tail _ ho)]
theorem wXm {α:Type}{l:List (Option α)}(h:∀o∈l,o≠none):cutO l=l:=by
 have:=zZ9 (m:=[]) h;simpa[cutO] using this
theorem wWy {α:Type}{l m:List (Option α)}{o:Option α}(h:∀o∈l,o≠none):(cutO (l++o::m))[l.length]?=some o:=by
 rw[zZ9 h,List.getElem?_append_right (Nat.le_refl _),Nat.sub_self];cases o<;>rfl
theorem xUq {α:Type}{l m:List (Option α)}(h:∀o∈l,o≠none):(cutO (l++none::m)).length=l.length+1:=by
 rw[zZ9 h,lLa];rfl
def IsMv (v:Mv)(x:IV):Prop:=∃t ys,x=.agg [.raw (.int .u8 (v.1:Int)),.raw (.int .i64 (v.2.1:Int)),.sl t ys]/\okEs t 2/\AllR IsLn v.2.2 ys
def mvA:Option Mv->List IV->Prop
 | some v,a=>∃x,a=[x,.raw (.int .i64 0)]/\IsMv v x
 | none,a=>a=[.agg [.raw (.int .u8 0),.raw (.int .i64 0),.sl ⟨true,.nil,0⟩ []],.raw (.int .i64 5)]
noncomputable def mvX (W:List Fm)(j:Bool)(ln:Ln):Nat->List IV->Prop:=λk a=>∃o,(cutO (mvsN W j ln))[k]?=some o/\mvA o a
def SpSt (ca m:Nat)(W:List Fm)(st:ISt):Prop:=∃es,st m=some (.map .pl es)/\CacheOk ca W es
def SpUp (ca m:Nat)(W:List Fm):Nat->List (Value×IV)->List (Value×IV)->Prop:=λm' es es'=>m'=m/\(CacheOk ca W es->CacheOk ca W es')
theorem yWy (W:List Fm)(l:List Fm):(zZz W l).length<=l.length:=by
 have:=zZn (l.map (noW W))
 rwa [List.length_map] at this
theorem xXe (G:Gl gl)(T:Gt gl)(ca m:Nat)(W:List Fm)(hS:SpOk ca W)(hWs:W.length<=200000)(tw:Tag)(xw:List IV)(htw:okEs tw 4)(hxw:IsFms W xw)(ln:Ln)(hln:LnOk W ln)(x:IV)(hx:IsLn ln x) :
  IterU prog gl 71 [] [.cptr x,.cptr (spI ca tw xw m)] (zK6 (mvX W (calJ ca) ln)) (cutO (mvsN W (calJ ca) ln)).length (λ_=>SpSt ca m W) (SpUp ca m W):=by
 have hl1:=yWg hln.1.1 hln.1.2;have hl2:=yWg hln.2.1 hln.2.2;have hpc:=λst=>xX8 gl ln x hx st;have hp1:=λI=>zYj gl ln x hx ⟨by omega,by omega⟩ I;obtain⟨t1,t2,rfl,e1,e2⟩:=hx;rintro y I' S' st ⟨f,fi,ca',rfl,hfn,hent⟩ hI hup hy h0;have hsp:∀ {k stu},I' k stu->SpSt ca m W stu:=λ{k stu} h=>by
  obtain⟨s0,h1,es,h2,h3⟩:=hI k stu h;exact⟨es,h1 _ _ h2,h3⟩
 change ICall prog gl _ [.fn f fi ca',_,_] st _;refine ICall.intro (c:=cf prog gl [] [] [3]) func71 rfl (by show _<=59;simp) (by kernel_rfl) ?_;simp only[go_sem,zE,zB,zA,zM,zS,zL,reduceCtorEq,fits];refine (hpc _).mono ?_;rintro _ st ⟨rfl,rfl⟩;simp only[go_sem,zE,zB,zA,zM,zS,zL,reduceCtorEq,fits]
 let pre:Nat->List (Option Mv):=λk=>((plcs ln).take k).flatMap (yXe W (calJ ca) ln)
 refine RangeC.intro (plX ln) (plcs ln).length (λk st'=>I' (pre k).length st'/\∀o∈pre k,o≠none) (λe st'=>e=.ret/\(S' st'\/I' (cutO (mvsN W (calJ ca) ln)).length st')) (by simp only[go_sem]) ?_ ⟨h0,λo ho=>by cases ho⟩ ?_ (hp1 _) ?_ ?_
 ·rintro k a ⟨p,_,rfl⟩;rfl
 ·rintro k _ st1 ⟨⟨i,r⟩,hp,rfl⟩ ⟨hik,hnn⟩;obtain⟨es,hm,hes⟩:=hsp hik;have hiW:i<W.length:=by
   have:=lMg hp;unfold plcs at this;rcases List.mem_append.1 this with h|h
   ·obtain⟨i',hi',he⟩:=List.mem_map.1 h;cases he;exact hln.1.2 _ hi'
   ·obtain⟨i',hi',he⟩:=List.mem_map.1 h;cases he;exact hln.2.2 _ hi'
  obtain⟨g,hg⟩:=yQ2 hiW;have huses:=wU4 gl G T ca m W hS tw xw htw hxw i r g hg es hes st1 hm;simp only[go_sem,zE,zB,zA,zM,zS,zL,reduceCtorEq,fits];refine huses.mono ?_;rintro _ _ ⟨⟨t,ys,rfl,ht,hys⟩,es',hes',rfl⟩;have hik':=hup (pre k).length st1 m .pl es es' hik hm ⟨rfl,λ_=>hes'⟩;have hat:yXe W (calJ ca) ln (i,r)=(yZp W (calJ ca) g r).map (mvN (calJ ca) ln i):=by unfold yXe;rw[hg]
  have hsplit:∀q tt,(yZp W (calJ ca) g r)[q]?=some tt->∃rest,mvsN W (calJ ca) ln=(pre k++((yZp W (calJ ca) g r).take q).map (mvN (calJ ca) ln i))++mvN (calJ ca) ln i tt::rest:=λq tt hq=>by
   refine⟨((yZp W (calJ ca) g r).drop (q+1)).map (mvN (calJ ca) ln i)++((plcs ln).drop (k+1)).flatMap (yXe W (calJ ca) ln),?_⟩;have h1:plcs ln=(plcs ln).take k++(i,r)::(plcs ln).drop (k+1):=by
    obtain⟨h2,h3⟩:=lGs hp
    conv=>lhs;rw[<- List.take_append_drop k (plcs ln),List.drop_eq_getElem_cons h2,h3]
   have h4:yZp W (calJ ca) g r=(yZp W (calJ ca) g r).take q++tt::(yZp W (calJ ca) g r).drop (q+1):=by
    obtain⟨h2,h3⟩:=lGs hq
    conv=>lhs;rw[<- List.take_append_drop q (yZp W (calJ ca) g r),List.drop_eq_getElem_cons h2,h3]
   unfold mvsN
   conv=>lhs;rw[h1]
   rw[List.flatMap_append,List.flatMap_cons,hat]
   conv=>lhs;rw[h4]
   simp only[List.map_append,List.map_cons,List.append_assoc,List.cons_append,pre]
  have htl2:(yZp W (calJ ca) g r).length<=1000:=by
   have:=yYd (ca:=ca) (hS.pf (lMg hg)) r;unfold yZp;rw[List.length_map,<- List.length_map (f:=(·.1)),this];unfold yJh
   repeat' split
   all_goals simp
  simp only[go_sem,zE,zB,zA,zM,zS,zL,reduceCtorEq,fits];intro _;rw[hys.1];refine LoopC.ctr (yZp W (calJ ca) g r).length (λq fr st' ds=>I' ((pre k).length+q) st'/\(∀o∈((yZp W (calJ ca) g r).take q).map (mvN (calJ ca) ln i),o≠none)/\fr 1=.iv (.cptr (.agg [.sl t1 (yQh ln.1),.sl t2 (yQh ln.2)]))/\fr 2=.iv (.cptr (spI ca tw xw m))/\fr 3=.iv (.cptr (.fn f fi ca')) /\
   fr 4=.box [.raw (.int .i64 (i:Int)),.raw (.bool r)]/\fr 17=.iv (.sl t ys)/\fr 18=.iv (.raw (.int .i64 (yZp W (calJ ca) g r).length))/\fr 19=.iv (.raw (.int .i64 (q:Int)))/\ds=[]) ?_ ?_ ?_
  ·simp only[go_sem,zE,zB,zA,zM,zS,zL,reduceCtorEq];exact⟨hik',λ_ h=>h.elim,rfl⟩
  ·rintro q fr st2 _ hlt ⟨hiq,hnq,f1,f2,f3,f4,f17,f18,f19,rfl⟩;obtain⟨tt,htt⟩:=yQ2 hlt;obtain⟨rest,hrest⟩:=hsplit q tt htt;obtain⟨z,hzk,t3,zs,rfl,e3,hzs⟩:=hys.2 q tt htt;obtain⟨t0,ht0,rfl⟩:=List.mem_map.1 (lMg htt);have hAnn:∀o∈pre k++((yZp W (calJ ca) g r).take q).map (mvN (calJ ca) ln i),o≠none:=λo ho=>(List.mem_append.1 ho).elim (hnn o) (hnq o);have hAl:(pre k++((yZp W (calJ ca) g r).take q).map (mvN (calJ ca) ln i)).length=(pre k).length+q:=by rw[lLa,List.length_map,List.length_take];omega
   have ho:=wWy (l:=pre k++((yZp W (calJ ca) g r).take q).map (mvN (calJ ca) ln i)) (m:=rest) (o:=mvN (calJ ca) ln i (t0.1,t0.2.map (exW W))) hAnn;rw[<- hrest,hAl] at ho;have hp2:=zWt ht0;have hpl:=xJq ht0;simp only[go_sem,zE,zB,zA,zM,zS,zL,reduceCtorEq,f1,f2,f3,f4,f17,f18,f19,lt_i hlt,yQ3 ht,iNn,hzk,fits];intro _;rw[hzs.1];refine LoopC.ctr (t0.2.map (exW W)).length (λv fr st' ds=>(∃t4 us,fr 7=.box [.raw (.int .u8 (t0.1:Int)),.raw (.int .i64 (i:Int)),.sl t4 us]/\AllR IsLn (((t0.2.map (exW W)).take v).map (yGl (calJ ca) ln)) us/\own st' t4 v 2 st2/\subSt st2 st')/\((t0.2.map (exW W)).take v).any (tooN (calJ ca) ln)=false /\
    fr 1=.iv (.cptr (.agg [.sl t1 (yQh ln.1),.sl t2 (yQh ln.2)]))/\fr 2=.iv (.cptr (spI ca tw xw m))/\fr 3=.iv (.cptr (.fn f fi ca')) /\
    fr 4=.box [.raw (.int .i64 (i:Int)),.raw (.bool r)]/\fr 17=.iv (.sl t ys)/\fr 18=.iv (.raw (.int .i64 (yZp W (calJ ca) g r).length))/\fr 19=.iv (.raw (.int .i64 (q:Int)))/\fr 29=.iv (.sl t3 zs)/\fr 30=.iv (.raw (.int .i64 (t0.2.map (exW W)).length))/\fr 31=.iv (.raw (.int .i64 (v:Int)))/\ds=[]) ?_ ?_ ?_
   ·simp only[go_sem,zE,zB,zA,zM,zS,zL,reduceCtorEq];exact⟨⟨_,_,rfl,AllR.nil,own.nil _ _ _ _ _,subSt.refl _⟩,rfl,f1,f2,f3,f4,f17,f18,f19,rfl⟩
   ·rintro v fr st3 _ hv ⟨⟨t4,us,f7,hus,hown,hsub⟩,hany,f1,f2,f3,f4,f17,f18,f19,f29,f30,f31,rfl⟩;obtain⟨e,he⟩:=yQ2 hv;obtain⟨ze,hze,hez⟩:=hzs.2 v e he;obtain⟨p0,hp0,rfl⟩:=List.mem_map.1 (lMg he);have hb1:=yWy W p0.1;have hb2:=yWy W p0.2;have hb3:=hpl p0 hp0;have hprem:=λst=>xYb gl T ca m tw xw ln _ ⟨t1,t2,rfl,e1,e2⟩ (exW W p0) ze hez ⟨by omega,by omega,by show (zZz W p0.1).length<=_;omega,by show (zZz W p0.2).length<=_;omega,by show p0.1.length<=_;omega,by show p0.2.length<=_;omega⟩ st;obtain⟨t5,t6,rfl,e5,e6⟩:=hez;simp only[go_sem,zE,zB,zA,zM,zS,zL,reduceCtorEq,f1,f2,f3,f4,f7,f17,f18,f19,f29,f30,f31,lt_i hv,yQ3 e3,iNn,hze,fits];refine (hprem _).mono ?_;rintro _ st3 ⟨⟨b1,b2,b3,b4,rfl,hz'⟩,rfl⟩;cases htoo:tooN (calJ ca) ln (exW W p0) with
    | true =>
     have hmn:mvN (calJ ca) ln i (t0.1,t0.2.map (exW W))=none:=by
      unfold mvN;rw[if_pos (List.any_eq_true.2 ⟨_,lMg he,htoo⟩)]
     rw[hmn] at ho;have hlen:=xUq (m:=rest) hAnn;rw[<- hmn,<- hrest,hAl] at hlen;have hyc:=hy.none (k:=(pre k).length+q) (a:=[.agg [.raw (.int .u8 0),.raw (.int .i64 0),.sl ⟨true,.nil,0⟩ []],.raw (.int .i64 5)]) ⟨none,ho,rfl⟩ hiq;simp only[go_sem,zE,zB,zA,zM,zS,zL,reduceCtorEq,f1,f2,f3,f4,f17,f18,f19,f29,f30,f31,htoo,fits];refine yZd hent ((hyc.sub hsub).mono ?_);rintro _ st4 (⟨rfl,h⟩|⟨rfl,h⟩)
     ·simp only[go_sem,zE,zB,zA,zM,zS,zL,reduceCtorEq];exact .inr (hlen▸h)
     ·simp only[go_sem,zE,zB,zA,zM,zS,zL,reduceCtorEq];exact .inl h
    | false =>
     have hln:=hz' htoo;simp only[go_sem,zE,zB,zA,zM,zS,zL,reduceCtorEq,f1,f2,f3,f4,f7,f17,f18,f19,f29,f30,f31,htoo,fits,yQ1];have hul:us.length=v:=by rw[hus.1,List.length_map,List.length_take];omega
     refine yX4 hown hul hsub rfl (by simp[fits,IV.one]) (by simp only;rw[List.length_map] at hv;omega) (by rw[List.length_map] at hv;omega) λt4' st4 hown4 hsub4 _=>?_;simp only[go_sem,zE,zB,zA,zM,zS,zL,reduceCtorEq,f1,f2,f3,f4,f7,f17,f18,f19,f29,f30,f31,yQd hv (show (t0.2.map (exW W)).length<=281474976710656 by rw[List.length_map];omega)];refine⟨⟨t4',_,rfl,?_,hown4,hsub4⟩,?_⟩
     ·rw[yQ7 he,List.map_append];exact hus.snoc hln
     ·rw[yQ7 he,List.any_append,hany];simp[htoo]
   ·rintro fr st3 _ ⟨⟨t4,us,f7,hus,hown,hsub⟩,hany,f1,f2,f3,f4,f17,f18,f19,f29,f30,f31,rfl⟩;rw[lTl] at hus hany;have hmn:mvN (calJ ca) ln i (t0.1,t0.2.map (exW W))=some (t0.1,i,(t0.2.map (exW W)).map (yGl (calJ ca) ln)):=by
     unfold mvN;rw[if_neg (by rw[hany];simp)]
    have hyc:=hy.none (k:=(pre k).length+q) (a:=[.agg [.raw (.int .u8 (t0.1:Int)),.raw (.int .i64 (i:Int)),.sl t4 us],.raw (.int .i64 0)]) ⟨_,ho,by rw[hmn];exact⟨_,rfl,t4,us,rfl,hown.es,hus⟩⟩ hiq;simp only[go_sem,zE,zB,zA,zM,zS,zL,reduceCtorEq,f1,f2,f3,f4,f7,f17,f18,f19,f29,f30,f31,yQm (nLi _),fits];refine yZd hent ((hyc.sub hsub).mono ?_);rintro _ st4 (⟨rfl,h⟩|⟨rfl,h⟩)
    ·simp only[go_sem,zE,zB,zA,zM,zS,zL,reduceCtorEq,f1,f2,f3,f4,f17,f18,f19,yQd hlt (show (yZp W (calJ ca) g r).length<=281474976710656 by omega)];refine⟨h,λo ho'=>?_⟩;rw[yQ7 htt,List.map_append] at ho';rcases List.mem_append.1 ho' with h1|h1
     ·exact hnq o h1
     ·rw[List.mem_singleton.1 h1];show mvN (calJ ca) ln i (t0.1,t0.2.map (exW W))≠none;rw[hmn];simp
    ·simp only[go_sem,zE,zB,zA,zM,zS,zL,reduceCtorEq];exact .inl h
  ·rintro fr st2 _ ⟨hiq,hnq,f1,f2,f3,f4,f17,f18,f19,rfl⟩;rw[lTl] at hnq;have hpk:pre (k+1)=pre k++(yZp W (calJ ca) g r).map (mvN (calJ ca) ln i):=by
    simp only[pre];rw[yQ7 hp,List.flatMap_append,List.flatMap_cons,List.flatMap_nil,List.append_nil,hat]
   simp only[go_sem,zE,zB,zA,zM,zS,zL,reduceCtorEq,f1,f2,f3,f4,f17,f18,f19,yQm (nLi _)];rw[hpk];refine⟨by rw[lLa,List.length_map];exact hiq,λo ho=>(List.mem_append.1 ho).elim (hnn o) (hnq o)⟩
 ·rintro st1 rr ⟨hik,hnn⟩;have hall:cutO (mvsN W (calJ ca) ln)=mvsN W (calJ ca) ln:=wXm λo ho=>hnn o (by simp only[pre];rw[lTl];exact ho);have hpl:(pre (plcs ln).length).length=(mvsN W (calJ ca) ln).length:=by simp only[pre];rw[lTl];rfl
  simp only[go_sem,zE,zB,zA,zM,zS,zL,reduceCtorEq];refine yQ0 (.inl ?_);rw[hall,<- hpl];exact hik
 ·rintro e st1 rr ⟨rfl,h⟩;simp only[go_sem,zE,zB,zA,zM,zS,zL,reduceCtorEq];exact yQ0 h.symm
end Go.Proofs.Tryz
namespace Go.Proofs.Tryz
open Go Go.Iv
abbrev Lk:=Nat×Nat×List Nat
abbrev Us:=Nat×Nat
def lkAt (links:List (List Lk))(u:Us):List Nat:=(((links[u.1]?).getD [])[u.2]?).elim [] λk=>k.2.2
def htG (cl:Nat->Prop)(links:List (List Lk)):Nat->Nat->Prop
 | 0,_=>False
 | k+1,i=>cl i\/∃lk∈(links[i]?).getD [],∀p∈lk.2.2,htG cl links k p
theorem zKh {cl:Nat->Prop}{links:List (List Lk)}:∀ {k m i:Nat},htG cl links k i->k<=m->htG cl links m i
 | 0,_,_,h,_=>h.elim
 | k+1,0,_,_,hm=>absurd hm (by omega)
 | k+1,m+1,i,h,hm=>h.imp id λ⟨lk,h1,h2⟩=>⟨lk,h1,λp hp=>zKh (h2 p hp) (by omega)⟩
def LstG (cl:Nat->Prop)(links:List (List Lk))(i h:Nat):Prop:=(0<h->htG cl links h i)/\∀k,htG cl links k i->0<h/\h<=k
def decW (ws:List (List Nat))(u:Us):List (List Nat):=ws.modify u.1 λl=>l.modify u.2 λx=>(x+255)%256
def atW (ws:List (List Nat))(u:Us):Option Nat:=((ws[u.1]?).getD [])[u.2]?
theorem zQ4 (ws:List (List Nat))(u v:Us):atW (decW ws u) v=if u=v then (atW ws v).map λx=>(x+255)%256 else atW ws v:=by
 unfold atW decW;rw[List.getElem?_modify];obtain⟨a,b⟩:=u;obtain⟨c,d⟩:=v;simp only[Prod.mk.injEq];by_cases h1:a=c
 ·subst h1;cases hq:ws[a]? with
  | none=>simp
  | some l =>
   simp only[if_true,Option.map_some,Option.getD_some,true_and,List.getElem?_modify];by_cases h2:b=d
   ·subst h2;simp
   ·simp[h2]
 ·simp[h1]
abbrev Ss:=List Nat×List (List Nat)×List Nat
def yXx (H:Nat)(S:Ss)(u:Us):Ss :=
 if atW (decW S.2.1 u) u=some 0/\S.1[u.1]?=some 0 then (S.1.set u.1 H,decW S.2.1 u,S.2.2++[u.1]) else (S.1,decW S.2.1 u,S.2.2)
def usAt (us:List (List Us))(p:Nat):List Us:=(us[p]?).getD []
inductive Sett (us:List (List Us)):Nat->List Nat->List (List Nat)->List Nat->List Nat->Prop
 | done (H:Nat) (hs:List Nat) (ws:List (List Nat)):Sett us H hs ws [] hs
 | more {H:Nat} {hs r now:List Nat} {ws:List (List Nat)} (hn:now≠[])
   (h:Sett us (H+1) ((now.flatMap (usAt us)).foldl (yXx H) (hs,ws,[])).1 ((now.flatMap (usAt us)).foldl (yXx H) (hs,ws,[])).2.1 ((now.flatMap (usAt us)).foldl (yXx H) (hs,ws,[])).2.2 r):Sett us H hs ws now r
section
variable (H:Nat)(h0:List Nat)(rem:Us->Nat)
structure Part (U1:List Us)(S:Ss):Prop where
 len:S.1.length=h0.length
 ws:∀u x,atW S.2.1 u=some x->x+U1.count u=rem u
 new:∀i,S.1[i]?=some H↔h0[i]?=some 0/\∃k,(i,k)∈U1/\atW S.2.1 (i,k)=some 0
 old:∀i x,x≠H->(S.1[i]?=some x↔h0[i]?=some x/\¬ (x=0/\∃k,(i,k)∈U1/\atW S.2.1 (i,k)=some 0))
 nx:∀i,i∈S.2.2↔S.1[i]?=some H
 nd:S.2.2.Nodup
variable {H h0 rem}
theorem Part.step {U1:List Us}{S:Ss}{u:Us}(hP:Part H h0 rem U1 S)(hH:0<H)(hhs:∀i:Nat,h0[i]?≠some H)(hrem:∀v,rem v<=2)(hc:(U1++[u]).count u<=rem u)(hu:∃x,atW S.2.1 u=some x):Part H h0 rem (U1++[u]) (yXx H S u):=by
 obtain⟨x,hx⟩:=hu;have hxr:=hP.ws u x hx;have hcu:(U1++[u]).count u=U1.count u+1:=by simp
 have hx0:0<x:=by omega
 have hx2:=hrem u;have hd:atW (decW S.2.1 u) u=some (x-1):=by
  rw[zQ4,if_pos rfl,hx,Option.map_some];congr 1;omega
 have hne:∀v,u≠v->atW (decW S.2.1 u) v=atW S.2.1 v:=λv h=>by rw[zQ4,if_neg h]
 -- what waits no longer
 have hz:∀i,(∃k,(i,k)∈U1++[u]/\atW (decW S.2.1 u) (i,k)=some 0)↔(∃k,(i,k)∈U1/\atW S.2.1 (i,k)=some 0)\/(i=u.1/\x=1):=by
  intro i;constructor
  ·rintro⟨k,h1,h2⟩;by_cases h3:u=(i,k)
   ·subst h3;rw[hd] at h2;exact .inr ⟨rfl,by simp at h2;omega⟩
   ·rw[hne _ h3] at h2;rcases List.mem_append.1 h1 with h1|h1
    ·exact .inl ⟨k,h1,h2⟩
    ·exact absurd (List.mem_singleton.1 h1).symm h3
  ·rintro (⟨k,h1,h2⟩|⟨rfl,rfl⟩)
   ·refine⟨k,List.mem_append_left _ h1,?_⟩;by_cases h3:u=(i,k)
    ·subst h3;rw[hx] at h2;simp at h2;omega
    ·rw[hne _ h3];exact h2
   ·exact⟨u.2,List.mem_append_right _ (List.mem_singleton.2 rfl),hd⟩
 have hws:∀v y,atW (decW S.2.1 u) v=some y->y+(U1++[u]).count v=rem v:=λv y hy=>by
  by_cases h3:u=v
  ·subst h3;rw[hd] at hy;simp at hy;omega
  ·rw[hne _ h3] at hy;have:=hP.ws v y hy;rw[List.count_append,show[u].count v=0 by simp[List.count_cons,h3]];exact this
 have h0H:(0:Nat)≠H:=by omega
 unfold yXx;by_cases hcond:atW (decW S.2.1 u) u=some 0/\S.1[u.1]?=some 0
 ·rw[if_pos hcond];have hx1:x=1:=by rw[hd] at hcond;simp at hcond;omega
  obtain⟨hs0,hn0⟩:=(hP.old u.1 0 h0H).1 hcond.2;have hlt:u.1<S.1.length:=(lGs hcond.2).1;have hget:∀i,(S.1.set u.1 H)[i]?=if u.1=i then some H else S.1[i]?:=λi=>by
   rw[List.getElem?_set];simp only[hlt,if_true]
  refine⟨by simp[hP.len],hws,λi=>?_,λi y hy=>?_,λi=>?_,?_⟩
  ·simp only[hget,hz];by_cases hi:u.1=i
   ·subst hi;simp[hs0,hx1]
   ·rw[if_neg hi,hP.new i];constructor
    ·rintro⟨a,b⟩;exact⟨a,.inl b⟩
    ·rintro⟨a,b|⟨b,_⟩⟩
     ·exact⟨a,b⟩
     ·exact absurd b.symm hi
  ·simp only[hget,hz];by_cases hi:u.1=i
   ·subst hi;rw[if_pos rfl];constructor
    ·intro h;exact absurd (Option.some.inj h).symm hy
    ·rintro⟨a,b⟩;rw[hs0] at a;exact absurd ⟨(Option.some.inj a).symm,.inr ⟨rfl,hx1⟩⟩ b
   ·rw[if_neg hi,hP.old i y hy];constructor
    ·rintro⟨a,b⟩;refine⟨a,λ⟨c,d⟩=>b ⟨c,?_⟩⟩;rcases d with d|⟨d,_⟩
     ·exact d
     ·exact absurd d.symm hi
    ·rintro⟨a,b⟩;exact⟨a,λ⟨c,d⟩=>b ⟨c,.inl d⟩⟩
  ·simp only[hget];rw[List.mem_append,List.mem_singleton,hP.nx i];by_cases hi:u.1=i
   ·subst hi;simp
   ·rw[if_neg hi];exact⟨λh=>h.elim id λh=>absurd h.symm hi,.inl⟩
  ·refine List.nodup_append.2 ⟨hP.nd,List.nodup_cons.2 ⟨by simp,List.nodup_nil⟩,λa ha b hb=>?_⟩;rintro rfl;rw[List.mem_singleton] at hb;rw[hP.nx,hb,hcond.2] at ha;exact h0H (Option.some.inj ha)
 ·rw[if_neg hcond];have hstill:∀i,h0[i]?=some 0->i=u.1->x=1->∃k,(i,k)∈U1/\atW S.2.1 (i,k)=some 0:=by
   intro i h0 hi hx1;subst hi;refine Classical.byContradiction λhno=>hcond ⟨by rw[hd,hx1],?_⟩;exact (hP.old u.1 0 h0H).2 ⟨h0,λh=>hno h.2⟩
  refine⟨hP.len,hws,λi=>?_,λi y hy=>?_,hP.nx,hP.nd⟩
  ·simp only[hz];rw[hP.new i];constructor
   ·rintro⟨a,b⟩;exact⟨a,.inl b⟩
   ·rintro⟨a,b|⟨b,c⟩⟩
    ·exact⟨a,b⟩
    ·exact⟨a,hstill i a b c⟩
  ·simp only[hz];rw[hP.old i y hy];constructor
   ·rintro⟨a,b⟩;refine⟨a,λ⟨c,d⟩=>b ⟨c,?_⟩⟩;rcases d with d|⟨d,e⟩
    ·exact d
    ·exact hstill i (c▸a) d e
   ·rintro⟨a,b⟩;exact⟨a,λ⟨c,d⟩=>b ⟨c,.inl d⟩⟩
theorem Part.all (hH:0<H)(hhs:∀i:Nat,h0[i]?≠some H)(hrem:∀v,rem v<=2):∀(U2 U1:List Us) (S:Ss),Part H h0 rem U1 S->(∀v,(U1++U2).count v<=rem v)->(∀u∈U2,∃x,atW S.2.1 u=some x)->Part H h0 rem (U1++U2) (U2.foldl (yXx H) S)
 | [],U1,S,hP,_,_=>by simpa using hP
 | u::U2,U1,S,hP,hc,hu=>by
  have h1:=hP.step (u:=u) hH hhs hrem (by have:=hc u;rw[List.count_append,List.count_cons_self] at this;rw[List.count_append];simp;omega) (hu u (.head _));have hw:∀v,(atW (yXx H S u).2.1 v).isSome=(atW S.2.1 v).isSome:=λv=>by
   have:(yXx H S u).2.1=decW S.2.1 u:=by unfold yXx;split<;>rfl
   rw[this,zQ4];split<;>simp
  have:=Part.all hH hhs hrem U2 (U1++[u]) _ h1 (λ(v:Us)=>by simpa[List.append_assoc] using hc v) λv hv=>by
   obtain⟨x,hx⟩:=hu v (.tail _ hv);exact Option.isSome_iff_exists.1 ((hw v).trans (by rw[hx];rfl))
  simpa[List.append_assoc] using this
end
section
variable (cl:Nat->Prop)(links:List (List Lk))(us:List (List Us))
open Classical in
noncomputable def wt (k:Nat)(u:Us):Nat:=((lkAt links u).filter λp=>decide (¬ htG cl links k p)).length
structure Rnd (H:Nat)(hs:List Nat)(ws:List (List Nat))(now:List Nat):Prop where
 len:hs.length=links.length
 ww:∀u x,atW ws u=some x->x=wt cl links (H-2) u
 wd:∀u,lkAt links u≠[]->∃x,atW ws u=some x
 ht:∀i x,hs[i]?=some x->(0<x->htG cl links x i/\x<=H-1)/\∀k,k<=H-1->htG cl links k i->0<x/\x<=k
 nw:∀i,i∈now↔hs[i]?=some (H-1)
 nd:now.Nodup
variable {cl links us}
theorem xJj {u:Us}(hus:∀p,(usAt us p).count u=(lkAt links u).count p):∀ {now:List Nat},now.Nodup->(now.flatMap (usAt us)).count u=((lkAt links u).filter λp=>decide (p∈now)).length
 | [],_=>by simp[List.filter_eq_nil_iff.2]
 | a::now,h=>by
  have h1:=List.nodup_cons.1 h;rw[List.flatMap_cons,List.count_append,hus,xJj hus h1.2];generalize lkAt links u=l
  induction l with
  | nil=>rfl
  | cons b l ih =>
   simp only[List.filter_cons,List.count_cons,List.mem_cons];by_cases hb:b=a
   ·subst hb;simp[h1.1];simp at ih;omega
   ·by_cases hm:b∈now
    ·simp[hb,hm];simp at ih;omega
    ·simp[hb,hm];simp at ih;omega
open Classical in
theorem zKl {α:Type}{p q r:α->Bool}(h1:∀x,p x=true↔q x=true\/r x=true)(h2:∀x,¬ (q x=true/\r x=true)):∀l:List α,(l.filter p).length=(l.filter q).length+(l.filter r).length
 | []=>rfl
 | a::l=>by
  have ih:=zKl h1 h2 l;have ha:=h1 a;have hb:=h2 a;simp only[List.filter_cons];cases hp:p a<;>cases hq:q a<;>cases hr:r a<;>simp_all<;>omega
theorem wJx {i:Nat}{lk:Lk}(h:lk∈(links[i]?).getD []):∃k,lkAt links (i,k)=lk.2.2:=by
 obtain⟨k,hk⟩:=List.mem_iff_getElem?.1 h;exact⟨k,by simp only[lkAt,hk];rfl⟩
theorem uQu {i k:Nat}(h:lkAt links (i,k)≠[]):∃lk∈(links[i]?).getD [],lk.2.2=lkAt links (i,k):=by
 unfold lkAt at h ⊢;cases hq:((links[i]?).getD [])[k]? with
 | none=>simp[hq] at h
 | some lk=>exact⟨lk,lMg hq,by simp[hq]⟩
theorem zU4 {k:Nat}{u:Us}:wt cl links k u=0↔∀p∈lkAt links u,htG cl links k p:=by
 unfold wt;rw[List.length_eq_zero_iff,List.filter_eq_nil_iff];simp
theorem vY1 (k:Nat){u:Us}(h:(lkAt links u).length<=2):wt cl links k u<=2:=Nat.le_trans (List.length_filter_le _ _) h
open Classical in
theorem Rnd.next {H:Nat}{hs:List Nat}{ws:List (List Nat)}{now:List Nat}(hR:Rnd cl links H hs ws now)(hH:2<=H)(hus:∀p u,(usAt us p).count u=(lkAt links u).count p)(h2:∀u,(lkAt links u).length<=2)(hin:∀u,∀p∈lkAt links u,p<links.length) :
  Rnd cl links (H+1) ((now.flatMap (usAt us)).foldl (yXx H) (hs,ws,[])).1 ((now.flatMap (usAt us)).foldl (yXx H) (hs,ws,[])).2.1 ((now.flatMap (usAt us)).foldl (yXx H) (hs,ws,[])).2.2:=by
 have hex:∀i,i∈now->htG cl links (H-1) i/\¬ htG cl links (H-2) i:=λi hi=>by
  have h:=hR.ht i _ ((hR.nw i).1 hi);exact⟨(h.1 (by omega)).1,λh'=>by have:=(h.2 (H-2) (by omega) h').2;omega⟩
 have hnow:∀i,i<links.length->htG cl links (H-1) i->¬ htG cl links (H-2) i->i∈now:=λi hi h1 h3=>by
  obtain⟨x,hx⟩:=yQ2 (l:=hs) (hR.len▸hi);have h:=hR.ht i x hx;obtain⟨h4,h5⟩:=h.2 (H-1) (Nat.le_refl _) h1;have h6:¬ x<=H-2:=λh6=>h3 (zKh (h.1 h4).1 h6);exact (hR.nw i).2 (by rw[hx];congr 1;omega)
 have hhs:∀i:Nat,hs[i]?≠some H:=λi hi=>by
  have:=((hR.ht i H hi).1 (by omega)).2;omega
 have hcnt:∀u,wt cl links (H-2) u=wt cl links (H-1) u+(now.flatMap (usAt us)).count u:=λu=>by
  rw[xJj (λp=>hus p u) hR.nd];unfold wt;have e:(lkAt links u).filter (λp=>decide (p∈now))=(lkAt links u).filter λp=>decide (htG cl links (H-1) p/\¬ htG cl links (H-2) p):=by
   refine List.filter_congr λp hp=>?_;rw[decide_eq_decide];exact⟨hex p,λh=>hnow p (hin u p hp) h.1 h.2⟩
  rw[e];refine zKl (λp=>?_) (λp=>?_) _
  ·simp only[dTe];constructor
   ·intro h;by_cases h1:htG cl links (H-1) p
    ·exact .inr ⟨h1,h⟩
    ·exact .inl h1
   ·rintro (h|h)
    ·exact λh'=>h (zKh h' (by omega))
    ·exact h.2
  ·simp only[dTe];exact λh=>h.1 h.2.1
 have hP0:Part H hs (wt cl links (H-2)) [] (hs,ws,[]):=by
  refine⟨rfl,λu x hx=>by rw[hR.ww u x hx];rfl,λi=>?_,λi x hx=>?_,λi=>?_,List.nodup_nil⟩
  ·simp[hhs i]
  ·simp
  ·simp[hhs i]
 have hin0:∀u∈now.flatMap (usAt us),lkAt links u≠[]:=λu hu h0=>by
  have:=List.count_pos_iff.2 hu;have h3:=hcnt u;unfold wt at h3;rw[h0] at h3;simp at h3;omega
 have hP:=Part.all (by omega) hhs (λv=>vY1 _ (h2 v)) (now.flatMap (usAt us)) [] _ hP0 (λv=>by rw[List.nil_append];have:=hcnt v;omega) λu hu=>hR.wd u (hin0 u hu);rw[List.nil_append] at hP;have hsome:∀(l:List Us) (S:Ss) v,(atW (l.foldl (yXx H) S).2.1 v).isSome=(atW S.2.1 v).isSome:=λl=>by
  induction l with
  | nil=>intro S v;rfl
  | cons u l ih =>
   intro S v;rw[List.foldl_cons,ih];have:(yXx H S u).2.1=decW S.2.1 u:=by unfold yXx;split<;>rfl
   rw[this,zQ4];split<;>simp
 -- the moves that wait for nothing
 have hzero:∀i k,(i,k)∈now.flatMap (usAt us)->atW ((now.flatMap (usAt us)).foldl (yXx H) (hs,ws,[])).2.1 (i,k)=some 0->htG cl links H i:=λi k hu hz=>by
  have h3:=hP.ws _ _ hz;have h4:=hcnt (i,k);have h5:=zU4.1 (show wt cl links (H-1) (i,k)=0 by omega);obtain⟨lk,hlk,he⟩:=uQu (hin0 _ hu);obtain⟨n,hn⟩:∃n,H=n+1:=⟨H-1,by omega⟩
  rw[hn] at h5 ⊢;exact .inr ⟨lk,hlk,λp hp=>h5 p (he▸hp)⟩
 have hback:∀i,htG cl links H i->¬ htG cl links (H-1) i->∃k,(i,k)∈now.flatMap (usAt us)/\atW ((now.flatMap (usAt us)).foldl (yXx H) (hs,ws,[])).2.1 (i,k)=some 0:=λi h3 h4=>by
  obtain⟨n,hn⟩:∃n,H=n+2:=⟨H-2,by omega⟩
  have hH1:H-1=n+1:=by omega
  have hH2:H-2=n:=by omega
  rw[hH1] at h4;rw[hn] at h3;rcases h3 with h3|⟨lk,hlk,h3⟩
  ·exact absurd (.inl h3) h4
  ·obtain⟨k,hk⟩:=wJx hlk;have h5:wt cl links (H-1) (i,k)=0:=zU4.2 λp hp=>by rw[hk] at hp;rw[hH1];exact h3 p hp
   have h6:wt cl links (H-2) (i,k)≠0:=λh6=>h4 (.inr ⟨lk,hlk,λp hp=>by
    have:=zU4.1 h6 p (by rw[hk];exact hp)
    rwa [hH2] at this⟩)
   have h7:=hcnt (i,k);have hmem:(i,k)∈now.flatMap (usAt us):=List.count_pos_iff.1 (by omega);refine⟨k,hmem,?_⟩;obtain⟨x,hx⟩:=hR.wd _ (hin0 _ hmem);have h8:=hsome (now.flatMap (usAt us)) (hs,ws,[]) (i,k);rw[hx] at h8;obtain⟨y,hy⟩:=Option.isSome_iff_exists.1 h8;have:=hP.ws _ _ hy;rw[hy];congr 1;omega
 refine⟨hP.len.trans hR.len,λu x hx=>?_,λu hu=>?_,λi x hx=>?_,λi=>?_,hP.nd⟩
 ·have:=hP.ws u x hx;have:=hcnt u;rw[show H+1-2=H-1 by omega];omega
 ·obtain⟨x,hx⟩:=hR.wd u hu;have h8:=hsome (now.flatMap (usAt us)) (hs,ws,[]) u;rw[hx] at h8;exact Option.isSome_iff_exists.1 h8
 ·rw[show H+1-1=H by omega];by_cases hxH:x=H
  ·subst hxH;obtain⟨h3,k,h4,h5⟩:=(hP.new i).1 hx;refine⟨λ_=>⟨hzero i k h4 h5,Nat.le_refl _⟩,λm hm hh=>⟨by omega,?_⟩⟩;refine Classical.byContradiction λhlt=>?_;have:=((hR.ht i 0 h3).2 m (by omega) hh).1;omega
  ·obtain⟨h3,h4⟩:=(hP.old i x hxH).1 hx;obtain⟨h5,h6⟩:=hR.ht i x h3;refine⟨λh0=>⟨(h5 h0).1,by have:=(h5 h0).2;omega⟩,λm hm hh=>?_⟩;by_cases h7:htG cl links (H-1) i
   ·have h8:=h6 (H-1) (Nat.le_refl _) h7;by_cases hmH:m<=H-1
    ·exact h6 m hmH hh
    ·exact⟨h8.1,by omega⟩
   ·have hm2:m=H:=by
     refine Classical.byContradiction λhne=>h7 (zKh hh (by omega))
    subst hm2;have h9:x=0:=by
     rcases Nat.eq_zero_or_pos x with h|h
     ·exact h
     ·exact absurd (zKh (h5 h).1 (h5 h).2) h7
    exact absurd ⟨h9,hback i hh h7⟩ h4
 ·rw[show H+1-1=H by omega];exact hP.nx i
theorem Sett.right {H:Nat}{hs r now:List Nat}{ws:List (List Nat)}(h:Sett us H hs ws now r)(hR:Rnd cl links H hs ws now)(hH:2<=H)(hus:∀p u,(usAt us p).count u=(lkAt links u).count p)(h2:∀u,(lkAt links u).length<=2)(hin:∀u,∀p∈lkAt links u,p<links.length) :
  r.length=links.length/\∀i x,r[i]?=some x->LstG cl links i x:=by
 induction h with
 | more hn _ ih=>exact ih (hR.next hH hus h2 hin) (by omega)
 | done H hs ws =>
  refine⟨hR.len,λi x hx=>?_⟩;have hbase:∀i,i<links.length->htG cl links (H-1) i->htG cl links (H-2) i:=λi hi h1=>by
   obtain⟨x,hx⟩:=yQ2 (l:=hs) (hR.len▸hi);obtain⟨h3,h4⟩:=hR.ht i x hx;have h5:=h4 (H-1) (Nat.le_refl _) h1;have h6:x≠H-1:=λh6=>by
    have:=(hR.nw i).2 (by rw[hx,h6]);cases this
   exact zKh (h3 h5.1).1 (by omega)
  have hall:∀k i,i<links.length->htG cl links k i->htG cl links (H-2) i:=λk=>by
   induction k with
   | zero=>intro i _ h;exact h.elim
   | succ k ih =>
    intro i hi h;refine hbase i hi ?_;obtain⟨n,hn⟩:∃n,H=n+2:=⟨H-2,by omega⟩
    rw[hn,show n+2-2=n by omega] at ih;rw[hn];rcases h with h|⟨lk,hlk,h⟩
    ·exact .inl h
    ·refine .inr ⟨lk,hlk,λp hp=>ih p ?_ (h p hp)⟩;obtain⟨q,hq⟩:=wJx hlk;exact hin (i,q) p (by rw[hq];exact hp)
  have hi:i<links.length:=by rw[<- hR.len];exact (lGs hx).1
  obtain⟨h3,h4⟩:=hR.ht i x hx;refine⟨λh0=>(h3 h0).1,λk hk=>?_⟩;by_cases hkH:k<=H-1
  ·exact h4 k hkH hk
  ·have h5:=h4 (H-2) (by omega) (hall k i hi hk);exact⟨h5.1,by omega⟩
end
end Go.Proofs.Tryz
namespace Go.Proofs.Tryz
open Go Go.Iv
set_option maxRecDepth 4000
variable (gl:Nat->Option IV)
theorem zZ5:intK prog 21=some .i32:=by kernel_rfl
def IsLk (k:Lk)(x:IV):Prop:=∃p q:Nat,x=.agg [.raw (.int .u8 (k.1:Int)),.raw (.int .u8 (k.2.2.length:Int)),.raw (.int .i32 (k.2.1:Int)),.raw (.int .i32 (p:Int)),.raw (.int .i32 (q:Int))]/\k.2.2=[p,q].take k.2.2.length
def wJ6 (l:List Lk)(x:IV):Prop:=∃t ys,x=.sl t ys/\okEs t 5/\AllR IsLk l ys
def numE (lines:List Ln):List (Value×IV):=lines.zipIdx.map λp=>(.string (keyB p.1),.raw (.int .i32 (p.2:Int)))
def zWv (ln:Ln):Prop:=((∀i∈ln.1,i<16777216)/\∀i∈ln.2,i<16777216)/\ln.1.length<256
structure RS (ca m:Nat)(W:List Fm)(tw:Tag)(xw:List IV)(rb mN:Nat)(S0 st:ISt)(lines:List Ln)(links:List (List Lk)):Prop where
 ex:∃tl xl tk xk,st rb=some (.box [spI ca tw xw m,.sl tl xl,.raw (.map (some mN)),.sl tk xk,.sl ⟨true,.nil,0⟩ []])/\AllR IsLn lines xl/\own st tl lines.length 2 S0/\AllR wJ6 links xk/\own st tk links.length 1 S0
 num:st mN=some (.map .str (numE lines))
 sp:SpSt ca m W st
 base:subSt S0 st
 off:S0 rb=none/\S0 mN=none/\S0 m=none
 ok:∀ln∈lines,zWv ln
 nd:lines.Nodup
def uKv (rb mN m:Nat)(st st':ISt):Prop:=∀b o,st b=some o->b≠rb->b≠mN->b≠m->(∀n,o≠.front n 2)->st' b=some o
theorem xYi (lines:List Ln)(ln:Ln):numE (lines++[ln])=numE lines++[(.string (keyB ln),.raw (.int .i32 (lines.length:Int)))]:=by
 simp[numE,List.zipIdx_append]
theorem zYo (lines:List Ln):(numE lines).map (·.1)=lines.map λln=>Value.string (keyB ln):=by
 unfold numE;rw[List.map_map]
 conv=>rhs;rw[<- List.zipIdx_map_fst 0 lines,List.map_map]
 rfl
theorem wZq {lines:List Ln}{n:Nat}{ln:Ln}(h:lines[n]?=some ln):(numE lines)[n]?=some (.string (keyB ln),.raw (.int .i32 (n:Int))):=by
 unfold numE;rw[List.getElem?_map,List.getElem?_zipIdx,h];simp
theorem wJy {a b:Ln}(ha:zWv a)(hb:zWv b)(h:keyB a=keyB b):a=b:=wX5 ha.1 hb.1 ⟨ha.2,hb.2⟩ h
theorem wVv {lines:List Ln}(h:∀ln∈lines,zWv ln)(hn:lines.Nodup):((numE lines).map (·.1)).Nodup:=by
 rw[zYo];refine List.pairwise_map.2 (List.Pairwise.imp_of_mem (λ{a b} ha hb hab hk=>hab (wJy (h a ha) (h b hb) ?_)) hn);exact Value.string.inj hk
theorem zYp (lines:List Ln):∀p∈numE lines,yQv .str p.1=true:=λp hp=>by
 obtain⟨q,_,rfl⟩:=List.mem_map.1 hp;rfl
theorem xYj {lines:List Ln}(h:∀ln∈lines,zWv ln)(hn:lines.Nodup){n:Nat}{ln:Ln}(hl:lines[n]?=some ln):yXs (.string (keyB ln)) (numE lines)=some (.raw (.int .i32 (n:Int))):=by
 obtain⟨x,h1,h2,_⟩:=zV2 (kk:=.str) (key:=.string (keyB ln)) rfl .junk (numE lines) n (zYp lines) (wVv h hn) (by rw[zYo,List.getElem?_map,hl];rfl);rw[wZq hl] at h1;rw[h2];exact congrArg some (Prod.mk.inj (Option.some.inj h1)).2.symm
theorem wZp {lines:List Ln}{ln:Ln}(h:∀ln∈lines,zWv ln)(hk:zWv ln)(hn:ln ∉ lines):yXs (.string (keyB ln)) (numE lines)=none/\updI (.string (keyB ln)) (.raw (.int .i32 (lines.length:Int))) (numE lines)=numE (lines++[ln]):=by
 rw[xYi];refine zV3 (kk:=.str) rfl _ _ (zYp lines) λp hp he=>hn ?_;obtain⟨q,hq,rfl⟩:=List.mem_map.1 hp;have hm:q.1∈lines:=by
  have:=List.mem_map_of_mem (f:=Prod.fst) hq
  rwa [List.zipIdx_map_fst] at this
 rwa [<- wJy (h _ hm) hk (Value.string.inj he)]
theorem wKe (ca m:Nat)(W:List Fm)(tw:Tag)(xw:List IV)(rb mN:Nat)(S0 st:ISt)(lines:List Ln)(links:List (List Lk))(hR:RS ca m W tw xw rb mN S0 st lines links)(ln:Ln)(hk:zWv ln)(hk2:ln.2.length<256)(x:IV)(hx:IsLn ln x)(hll:lines.length<=20000) :
  ICall prog gl 78 [.raw (.pointer (some ⟨rb,0,none⟩)),x] st (λr st' =>
   (∃n:Nat,lines[n]?=some ln/\r=.tup [.raw (.int .i32 (n:Int)),.raw (.int .i64 0)]/\st'=st) \/
   (ln ∉ lines/\((20000<=lines.length/\r=.tup [.raw (.int .i32 0),.raw (.int .i64 4)]/\st'=st) \/
    (lines.length<20000/\r=.tup [.raw (.int .i32 (lines.length:Int)),.raw (.int .i64 0)]/\RS ca m W tw xw rb mN S0 st' (lines++[ln]) links/\uKv rb mN m st st')))):=by
 have hkey:=λst=>uZd gl ln x hx ⟨by have:=hk.2;omega,by omega⟩ st;obtain⟨t1,t2,rfl,e1,e2⟩:=id hx;obtain⟨tl,xl,tk,xk,hrb,hxl,hol,hxk,hok⟩:=hR.ex;refine ICall.intro (c:=cf prog gl [39,2000042] []) func78 rfl (by show _<=52;simp) (by kernel_rfl) ?_;simp only[go_sem,zE,zB,zA,zM,zS,zL,reduceCtorEq,fits];refine (hkey _).mono ?_;rintro _ st ⟨rfl,rfl⟩;by_cases hm:ln∈lines
 ·obtain⟨n,hn⟩:=List.mem_iff_getElem?.1 hm;have hf:=xYj hR.ok hR.nd hn;simp only[go_sem,zE,zB,zA,zM,zS,zL,reduceCtorEq,hrb,hR.num,hf,zKc,fits];exact yQ0 (.inl ⟨n,hn,rfl,rfl⟩)
 ·obtain⟨hf,hu⟩:=wZp hR.ok hk hm;have hcv:=λn:Int=>yXt prog 3 21 zJk zZ5 .i64 n;have hxll:=hxl.1;by_cases hge:20000<=lines.length
  ·simp only[go_sem,zE,zB,zA,zM,zS,zL,reduceCtorEq,hrb,hR.num,hf,yUr,fits,hxll,dEt (show (20000:Int)<=lines.length by omega)];intros;exact yQ0 (.inr ⟨hm,.inl ⟨hge,rfl,rfl⟩⟩)
  ·have hw:IntKind.i32.wrap (lines.length:Int)=(lines.length:Int):=IntWalk.i32_in _ (by omega);simp only[go_sem,zE,zB,zA,zM,zS,zL,reduceCtorEq,hrb,hR.num,hf,yUr,fits,hxll,dEf (show ¬ (20000:Int)<=lines.length by omega),hcv,hw,yQ1];intros;refine yX4 hol hxll hR.base rfl (by simp[fits,IV.one]) (by simp only;omega) (by omega) λtl' st2 hol2 hb2 hkeep=>?_;have hrb2:=hkeep rb _ hrb λn h=>by cases h
   have hnum2:=hkeep mN _ hR.num λn h=>by cases h
   obtain⟨es,hes1,hes2⟩:=hR.sp;have hm2:=hkeep m _ hes1 λn h=>by cases h
   have hne1:mN≠rb:=by rintro rfl;rw[hrb2] at hnum2;cases hnum2
   have hne2:m≠rb:=by rintro rfl;rw[hrb2] at hm2;cases hm2
   have hne3:m≠mN:=by rintro rfl;rw[hnum2] at hm2;cases hm2
   simp only[go_sem,zE,zB,zA,zM,zS,zL,reduceCtorEq,hrb2,fits,yQ6 hne1,hnum2,hu];have hst3:∀b o,st2 b=some o->b≠rb->b≠mN->((st2.put rb (some (.box [spI ca tw xw m,.sl tl' (xl++[.agg [.sl t1 (yQh ln.1),.sl t2 (yQh ln.2)]]),.raw (.map (some mN)),.sl tk xk,.sl ⟨true,.nil,0⟩ []]))).put mN (some (.map .str (numE (lines++[ln]))))) b=some o:=λb o h h1 h2=>by
    rw[yQ6 h2,yQ6 h1];exact h
   have hfr:∀g n k,st2 g=some (.front n k)->g≠rb/\g≠mN:=λg n k h=>⟨λh1=>(by rw[h1,hrb2] at h;cases h),λh1=>(by rw[h1,hnum2] at h;cases h)⟩
   refine yQ0 (.inr ⟨hm,.inr ⟨by omega,rfl,⟨⟨tl',_,tk,xk,?_,hxl.snoc hx,?_,hxk,?_⟩,ISt.put_same ..,⟨es,hst3 m _ hm2 hne2 hne3,hes2⟩,yQe (yQe hb2 hR.off.1) hR.off.2.1,hR.off,?_,?_⟩,λb o h h1 h2 h3 h4=>hst3 b o (hkeep b o h h4) h1 h2⟩⟩)
   ·rw[yQ6 λh=>hne1 h.symm,ISt.put_same]
   ·rw[lLa];exact hol2.mono λg hg _=>hst3 g _ hg (hfr g _ _ hg).1 (hfr g _ _ hg).2
   ·exact hok.mono λg hg _=>by
     have h2:=hkeep g _ hg λn h=>by cases h
     exact hst3 g _ h2 (hfr g _ _ h2).1 (hfr g _ _ h2).2
   ·intro a ha;rcases List.mem_append.1 ha with ha|ha
    ·exact hR.ok a ha
    ·rw[List.mem_singleton.1 ha];exact hk
   ·refine List.nodup_append.2 ⟨hR.nd,List.nodup_cons.2 ⟨by simp,List.nodup_nil⟩,λa ha b hb hab=>?_⟩;rw[List.mem_singleton] at hb;rw[hab,hb] at ha;exact hm ha
theorem _root_.Go.Iv.IterU.of {P:Program}{gl:Nat->Option IV}{g:FuncId}{first caps:List IV}{lk:Nat->List IV->ISt->Prop}{len:Nat}{I J:Nat->ISt->Prop}{up:Nat->List (Value×IV)->List (Value×IV)->Prop}(h:IterU P gl g first caps lk len I up)(hIJ:∀k st,J k st->I k st):IterU P gl g first caps lk len J up :=
 λy I' S' st hf hI hu hy h0=>h y I' S' st hf (λk stu hk=>by obtain⟨s,h1,h2⟩:=hI k stu hk;exact⟨s,h1,hIJ k s h2⟩) hu hy h0
def LkOf (lines:List Ln)(v:Mv)(k:Lk):Prop:=k.1=v.1/\k.2.1=v.2.1/\k.2.2.length=v.2.2.length/\∀(q n:Nat),k.2.2[q]?=some n->∃p,lines[n]?=some p/\v.2.2[q]?=some p
theorem LkOf.app {lines more:List Ln}{v:Mv}{k:Lk}(h:LkOf lines v k):LkOf (lines++more) v k :=
 ⟨h.1,h.2.1,h.2.2.1,λq n hq=>by
  obtain⟨p,h1,h2⟩:=h.2.2.2 q n hq;exact⟨p,by rw[List.getElem?_append_left (lGs h1).1];exact h1,h2⟩⟩
def LksOf (lines:List Ln)(vs:List Mv)(l:List Lk):Prop:=l.length=vs.length/\∀(i:Nat) (v:Mv),vs[i]?=some v->∃k,l[i]?=some k/\LkOf lines v k
theorem LksOf.app {lines more:List Ln}{vs:List Mv}{l:List Lk}(h:LksOf lines vs l):LksOf (lines++more) vs l:=⟨h.1,λi v hv=>by
 obtain⟨k,h1,h2⟩:=h.2 i v hv;exact⟨k,h1,h2.app⟩⟩
theorem LksOf.snoc {lines:List Ln}{vs:List Mv}{l:List Lk}{v:Mv}{k:Lk}(h:LksOf lines vs l)(hk:LkOf lines v k):LksOf lines (vs++[v]) (l++[k]):=by
 refine⟨by simp[h.1],λi b hb=>?_⟩;rcases Nat.lt_or_ge i vs.length with hi|hi
 ·rw[List.getElem?_append_left hi] at hb;rw[List.getElem?_append_left (by rw[h.1];exact hi)];exact h.2 i b hb
 ·rw[List.getElem?_append_right hi] at hb;rw[List.getElem?_append_right (by rw[h.1];exact hi),h.1];cases hk':i-vs.length with
  | zero=>rw[hk'] at hb;cases hb;exact⟨k,rfl,hk⟩
  | succ n=>rw[hk'] at hb;simp at hb
def yKp (W:List Fm)(j:Bool)(ln p:Ln):Prop:=∃v:Mv,some v∈mvsN W j ln/\p∈v.2.2
theorem wZt {j:Bool}{ln:Ln}{i:Nat}{t:Tn}{v:Mv}(h:mvN j ln i t=some v):v=(t.1,i,t.2.map (yGl j ln))/\t.2.any (tooN j ln)=false:=by
 unfold mvN at h;cases ha:t.2.any (tooN j ln)
 ·rw[ha] at h;simp at h;exact⟨h.symm,rfl⟩
 ·rw[ha] at h;simp at h
theorem zQz {ca:Nat}{W:List Fm}(hS:SpOk ca W){ln:Ln}(hln:LnOk W ln){v:Mv}(h:some v∈mvsN W (calJ ca) ln):v.2.1<W.length/\v.1<256/\v.2.2.length<=2/\∀p∈v.2.2,LnOk W p/\p.1.length<=64/\p.2.length<=64:=by
 obtain⟨⟨i,r⟩,hp,h⟩:=List.mem_flatMap.1 h;unfold yXe at h;cases hf:W[i]? with
 | none=>simp only[hf] at h;cases h
 | some f =>
  simp only[hf] at h;obtain⟨t,ht,h⟩:=List.mem_map.1 h;obtain⟨t0,ht0,rfl⟩:=List.mem_map.1 ht;obtain⟨rfl,hany⟩:=wZt h;have hfW:=lMg hf;refine⟨(lGs hf).1,?_,by rw[List.length_map,List.length_map];exact zWt ht0,λp hp=>?_⟩
  ·have:t0.1∈yJh (calJ ca) f.op r:=by rw[<- yYd (hS.pf hfW) r];exact List.mem_map_of_mem ht0
   unfold yJh at this;have key:∀l:List Nat,t0.1∈l->(∀x∈l,x<256)->t0.1<256:=λl h1 h2=>h2 _ h1;refine key _ this ?_
   repeat' split
   all_goals simp
  ·obtain⟨e,he,rfl⟩:=List.mem_map.1 hp;obtain⟨p0,hp0,rfl⟩:=List.mem_map.1 he;refine⟨xX7 hln (hS.sub hfW ht0 hp0),?_⟩;have htoo:tooN (calJ ca) ln (exW W p0)=false:=by
    cases hq:tooN (calJ ca) ln (exW W p0) with
    | false=>rfl
    | true=>rw[List.any_eq_true.2 ⟨_,he,hq⟩] at hany;cases hany
   unfold tooN at htoo;rw[Bool.or_eq_false_iff,decide_eq_false_iff_not,decide_eq_false_iff_not] at htoo;have h1:=zZn (ln.1++(exW W p0).1.1);have h2:=zZn (rgtN (calJ ca) ln (exW W p0)++(exW W p0).1.2);rw[lLa] at h1 h2;have h3:(exW W p0).1.1.length<=(exW W p0).2.1:=yWy W p0.1;have h4:(exW W p0).1.2.length<=(exW W p0).2.2:=yWy W p0.2;unfold yGl;simp only;omega
theorem xXs {W:List Fm}(hWs:W.length<=1000000){ln:Ln}(h:LnOk W ln)(hs:ln.1.length<=64/\ln.2.length<=64):zWv ln/\ln.2.length<256:=by
 exact⟨⟨⟨λi hi=>by have:=h.1.2 i hi;omega,λi hi=>by have:=h.2.2 i hi;omega⟩,by omega⟩,by omega⟩
theorem RS.upm {ca m:Nat}{W:List Fm}{tw:Tag}{xw:List IV}{rb mN:Nat}{S0 st:ISt}{lines:List Ln}{links:List (List Lk)}(h:RS ca m W tw xw rb mN S0 st lines links){kk:KeyK}{es es':List (Value×IV)}(hm:st m=some (.map kk es))(hu:CacheOk ca W es->CacheOk ca W es') :
  RS ca m W tw xw rb mN S0 (st.put m (some (.map kk es'))) lines links:=by
 obtain⟨tl,xl,tk,xk,hrb,hxl,hol,hxk,hok⟩:=h.ex;obtain⟨es0,he0,hc0⟩:=h.sp;rw[he0] at hm;cases hm;have h1:rb≠m:=by rintro rfl;rw[hrb] at he0;cases he0
 have h2:mN≠m:=by rintro rfl;rw[h.num] at he0;cases he0
 have hfr:∀g n k,st g=some (.front n k)->(st.put m (some (.map .pl es'))) g=some (.front n k):=λg n k hg=>by
  rw[yQ6 λe=>by rw[e,he0] at hg;cases hg];exact hg
 exact⟨⟨tl,xl,tk,xk,by rw[yQ6 h1];exact hrb,hxl,hol.mono λg hg _=>hfr g _ _ hg,hxk,hok.mono λg hg _=>hfr g _ _ hg⟩,by rw[yQ6 h2];exact h.num,⟨es',ISt.put_same ..,hu hc0⟩,yQe h.base h.off.2.2,h.off,h.ok,h.nd⟩
theorem RS.elsewhere {ca m:Nat}{W:List Fm}{tw:Tag}{xw:List IV}{rb mN:Nat}{S0 st st':ISt}{lines:List Ln}{links:List (List Lk)}(h:RS ca m W tw xw rb mN S0 st lines links)(hb:subSt S0 st')
  (hk:∀b o,st b=some o->b=rb\/b=mN\/b=m\/(∃n,o=.front n 2)\/(∃n,o=.front n 1)->st' b=some o):RS ca m W tw xw rb mN S0 st' lines links:=by
 obtain⟨tl,xl,tk,xk,hrb,hxl,hol,hxk,hok⟩:=h.ex;obtain⟨es0,he0,hc0⟩:=h.sp;exact⟨⟨tl,xl,tk,xk,hk _ _ hrb (.inl rfl),hxl,hol.mono λg hg _=>hk g _ hg (.inr (.inr (.inr (.inl ⟨_,rfl⟩)))),hxk,hok.mono λg hg _=>hk g _ hg (.inr (.inr (.inr (.inr ⟨_,rfl⟩))))⟩,hk _ _ h.num (.inr (.inl rfl)),⟨es0,hk _ _ he0 (.inr (.inr (.inl rfl))),hc0⟩,hb,h.off,h.ok,h.nd⟩
theorem zVq {ca:Nat}{W:List Fm}(hS:SpOk ca W)(hWs:W.length<=200000){ln:Ln}(hln:LnOk W ln):(mvsN W (calJ ca) ln).length<=16000000:=by
 have h1:=yWg hln.1.1 hln.1.2;have h2:=yWg hln.2.1 hln.2.2;have h3:∀p,(yXe W (calJ ca) ln p).length<=2:=λp=>by
  unfold yXe;cases hf:W[p.1]? with
  | none=>simp
  | some f =>
   simp only[List.length_map,yZp];rw[<- List.length_map (f:=(·.1)),yYd (hS.pf (lMg hf))];unfold yJh
   repeat' split
   all_goals simp
 have h4:∀l:List (Nat×Bool),(l.flatMap (yXe W (calJ ca) ln)).length<=2*l.length:=λl=>by
  induction l with
  | nil=>simp
  | cons a l ih=>rw[List.flatMap_cons,lLa,List.length_cons];have:=h3 a;omega
 have:=h4 (plcs ln);rw[yGm] at this;unfold mvsN;omega
theorem yVq:tyI prog 21=some (false,1):=by kernel_rfl
def ExpR (ca m:Nat)(W:List Fm)(tw:Tag)(xw:List IV)(rb mN:Nat)(S0:ISt)(lines:List Ln)(links:List (List Lk))(ln:Ln)(r:IV)(st':ISt):Prop :=
 (∃t ys L vs more,r=.tup [.sl t ys,.raw (.int .i64 0)]/\okEs t 5/\AllR IsLk L ys/\mvsN W (calJ ca) ln=vs.map some/\LksOf (lines++more) vs L/\(∀p∈more,yKp W (calJ ca) ln p)/\(lines++more).length<=20000/\RS ca m W tw xw rb mN S0 st' (lines++more) links) \/
 (r=.tup [.sl ⟨true,.nil,0⟩ [],.raw (.int .i64 5)]/\none∈mvsN W (calJ ca) ln/\subSt S0 st') \/
 (r=.tup [.sl ⟨true,.nil,0⟩ [],.raw (.int .i64 4)]/\subSt S0 st'/\∃more p,(∀q∈more,yKp W (calJ ca) ln q)/\yKp W (calJ ca) ln p/\p ∉ lines++more/\(lines++more).Nodup/\20000<=(lines++more).length)
theorem wXi (G:Gl gl)(T:Gt gl)(ca m:Nat)(W:List Fm)(hS:SpOk ca W)(hWs:W.length<=200000)(tw:Tag)(xw:List IV)(htw:okEs tw 4)(hxw:IsFms W xw)(rb mN:Nat)(S0 st:ISt)(lines:List Ln)(links:List (List Lk))(hR:RS ca m W tw xw rb mN S0 st lines links)(hll:lines.length<=20000)
  (i:Nat) (ln:Ln) (hi:lines[i]?=some ln) (hln:LnOk W ln) :
  ICall prog gl 79 [.raw (.pointer (some ⟨rb,0,none⟩)),.raw (.int .i64 (i:Int))] st (ExpR ca m W tw xw rb mN S0 lines links ln):=by
 obtain⟨tl,xl,tk,xk,hrb,hxl,hol,hxk,hok⟩:=hR.ex;obtain⟨x,hxi,hx⟩:=hxl.2 i ln hi;have hil:i<lines.length:=(lGs hi).1;have hmc:=λst=>xYr gl m (spI ca tw xw m) x _ rfl ln hx st;have hit:=xXe gl G T ca m W hS hWs tw xw htw hxw ln hln x hx;obtain⟨t1,t2,rfl,e1,e2⟩:=id hx;refine ICall.intro (c:=cf prog gl [4,5,6,17,21] [] [2]) func79 rfl (by show _<=68;simp) (by kernel_rfl) ?_;simp only[go_sem,zE,zB,zA,zM,zS,zL,reduceCtorEq,fits];refine λb4=>yQ9 λh4=>λb5=>yQ9 λh5=>λb6=>yQ9 λh6=>?_;have n54:b5≠b4:=by rintro rfl;rw[ISt.put_same] at h5;cases h5
 have n64:b6≠b4:=by rintro rfl;rw[yQ6 (λh=>n54 h.symm),ISt.put_same] at h6;cases h6
 have n65:b6≠b5:=by rintro rfl;rw[ISt.put_same] at h6;cases h6
 have h5':st b5=none:=by rw[yQ6 n54] at h5;exact h5
 have h6':st b6=none:=by rw[yQ6 n65,yQ6 n64] at h6;exact h6
 obtain⟨stA,hstA⟩:∃s,s=((st.put b4 (some (.box [.sl ⟨true,.nil,0⟩ []]))).put b5 (some (.box [.raw (.int .i64 0)]))).put b6 (some (.box [.sl ⟨true,.nil,0⟩ []])):=⟨_,rfl⟩
 have hA:∀b o,st b=some o->stA b=some o:=λb o h=>by
  rw[hstA,yQ6 (λe=>by rw[e,h6'] at h;cases h),yQ6 (λe=>by rw[e,h5'] at h;cases h),yQ6 (λe=>by rw[e,h4] at h;cases h)];exact h
 have hA4:stA b4=some (.box [.sl ⟨true,.nil,0⟩ []]):=by rw[hstA,yQ6 (λh=>n64 h.symm),yQ6 (λh=>n54 h.symm),ISt.put_same]
 have hA5:stA b5=some (.box [.raw (.int .i64 0)]):=by rw[hstA,yQ6 (λh=>n65 h.symm),ISt.put_same]
 have hA6:stA b6=some (.box [.sl ⟨true,.nil,0⟩ []]):=by rw[hstA,ISt.put_same]
 have hRA:=hR.elsewhere (st':=stA) (λb o h=>hA b o (hR.base b o h)) λb o h _=>hA b o h;rw[<- hstA];have nrb:∀ {b:Nat},st b=none->b≠rb/\b≠mN/\b≠m:=λ{b} h=>by
  obtain⟨es,he,_⟩:=hR.sp;exact⟨λe=>(by rw[e,hrb] at h;cases h),λe=>(by rw[e,hR.num] at h;cases h),λe=>(by rw[e,he] at h;cases h)⟩
 have k4:=nrb h4;have k5:=nrb h5';have k6:=nrb h6';have z4:=yXh hR.base h4;have z5:=yXh hR.base h5';have z6:=yXh hR.base h6';simp only[go_sem,zE,zB,zA,zM,zS,zL,reduceCtorEq,hA _ _ hrb,yQ3 hol.es,iNn,hxi,fits];refine (hmc _).mono ?_;rintro _ s0 ⟨rfl,rfl⟩;simp only[go_sem,zE,zB,zA,zM,zS,zL,reduceCtorEq];have hcm:∀ {l:List (Option Mv)} {o:Option Mv},o∈cutO l->o∈l:=λ{l}=>by
  induction l with
  | nil=>intro o h;exact h
  | cons a l ih =>
   intro o h;cases a with
   | none=>simp only[cutO,List.mem_singleton] at h;rw[h];exact .head _
   | some a =>
    simp only[cutO] at h;rcases List.mem_cons.1 h with h|h
    ·rw[h];exact .head _
    ·exact .tail _ (ih h)
 let EI:Nat->ISt->Prop:=λk s=>∃more vs L t6 ys,(cutO (mvsN W (calJ ca) ln)).take k=vs.map some/\RS ca m W tw xw rb mN S0 s (lines++more) links/\(∀p∈more,yKp W (calJ ca) ln p)/\(lines++more).length<=20000/\LksOf (lines++more) vs L/\AllR IsLk L ys /\
  s b4=some (.box [.sl ⟨true,.nil,0⟩ []])/\s b5=some (.box [.raw (.int .i64 0)])/\s b6=some (.box [.sl t6 ys])/\own s t6 L.length 5 S0
 let ES:Exit->ISt->Prop:=λe s=>e=.ret/\s b4=some (.box [.sl ⟨true,.nil,0⟩ []])/\subSt S0 s/\((s b5=some (.box [.raw (.int .i64 5)])/\none∈mvsN W (calJ ca) ln) \/
  (s b5=some (.box [.raw (.int .i64 4)])/\∃more p,(∀q∈more,yKp W (calJ ca) ln q)/\yKp W (calJ ca) ln p/\p ∉ lines++more/\(lines++more).Nodup/\20000<=(lines++more).length))
 refine RangeU.intro (mvX W (calJ ca) ln) (cutO (mvsN W (calJ ca) ln)).length EI ES (SpUp ca m W) ?_ (by simp only[go_sem]) ?_ ?_ ?_ (hit.of λk s ⟨_,_,_,_,_,_,h,_⟩=>h.sp) ?_ ?_
 ·rintro k s m' kk es es' ⟨more,vs,L,t6,ys,q1,q2,q3,q4,q5,q6,q7,q8,q9,q10⟩ hm ⟨rfl,hu⟩;refine⟨more,vs,L,t6,ys,q1,q2.upm hm hu,q3,q4,q5,q6,by rw[yQ6 k4.2.2];exact q7,by rw[yQ6 k5.2.2];exact q8,by rw[yQ6 k6.2.2];exact q9,q10.mono λg hg _=>?_⟩;rw[yQ6 λe=>by rw[e,hm] at hg;cases hg];exact hg
 ·rintro k a ⟨o,_,ho⟩;cases o with
  | none=>rw[show a=_ from ho];rfl
  | some v=>obtain⟨x,rfl,_⟩:=ho;rfl
 ·refine⟨[],[],[],_,_,rfl,by rw[List.append_nil];exact hRA,λ_ h=>(by cases h),by rw[List.append_nil];exact hll,⟨rfl,λi v h=>(by simp at h)⟩,AllR.nil,hA4,hA5,hA6,own.nil _ _ _ _ _⟩
 ·rintro k a s ⟨o,hok',ho⟩ ⟨more,vs,L,t6,ys,q1,q2,q3,q4,q5,q6,q7,q8,q9,q10⟩;cases o with
  | none =>
   obtain rfl:a=_:=ho;simp only[go_sem,zE,zB,zA,zM,zS,zL,reduceCtorEq,fits,show decide ((5:Int)=0)=false from rfl,decide_false,q7,yQ6 n54,yQ6 (λh=>n54 h.symm),q8];exact⟨rfl,by rw[yQ6 (λh=>n54 h.symm),ISt.put_same],yQe (yQe q2.base z4) z5,.inl ⟨ISt.put_same ..,hcm (lMg hok')⟩⟩
  | some v =>
   obtain⟨xv,rfl,tv,zv,rfl,htv,hzv⟩:=ho;have hvm:=hcm (lMg hok');obtain⟨g1,g2,g3,g4⟩:=zQz hS hln hvm;have hcv:=λn:Int=>yXt prog 3 21 zJk zZ5 .i64 n;have hw:IntKind.i32.wrap (v.2.1:Int)=(v.2.1:Int):=IntWalk.i32_in _ (by omega);simp only[go_sem,zE,zB,zA,zM,zS,zL,reduceCtorEq,fits,decide_true,hcv,hw];intro _;rw[hzv.1];refine LoopC.ctr v.2.2.length (λq fr st' ds=>(∃(mm:List Ln) (p0 p1:Nat) (ids:List Nat),fr 9=.box [.raw (.int .u8 (v.1:Int)),.raw (.int .u8 (q:Int)),.raw (.int .i32 (v.2.1:Int)),.raw (.int .i32 (p0:Int)),.raw (.int .i32 (p1:Int))]/\ids=[p0,p1].take q /\
     RS ca m W tw xw rb mN S0 st' (lines++(more++mm)) links/\(∀p∈more++mm,yKp W (calJ ca) ln p)/\(lines++(more++mm)).length<=20000/\(∀(r n:Nat),ids[r]?=some n->∃p,(lines++(more++mm))[n]?=some p/\v.2.2[r]?=some p)) /\
    st' b4=some (.box [.sl ⟨true,.nil,0⟩ []])/\st' b5=some (.box [.raw (.int .i64 0)])/\st' b6=some (.box [.sl t6 ys])/\own st' t6 L.length 5 S0 /\
    fr 2=.iv (.cptr (.raw (.pointer (some ⟨rb,0,none⟩))))/\fr 4=.iv (.raw (.pointer (some ⟨b4,0,none⟩)))/\fr 5=.iv (.raw (.pointer (some ⟨b5,0,none⟩)))/\fr 6=.iv (.raw (.pointer (some ⟨b6,0,none⟩))) /\
    fr 38=.iv (.sl tv zv)/\fr 39=.iv (.raw (.int .i64 v.2.2.length))/\fr 40=.iv (.raw (.int .i64 (q:Int)))/\ds=[]) ?_ ?_ ?_
   ·simp only[go_sem,zE,zB,zA,zM,zS,zL,reduceCtorEq];exact⟨⟨[],0,0,[],rfl,rfl,by rw[List.append_nil];exact q2,by rw[List.append_nil];exact q3,by rw[List.append_nil];exact q4,λr n h=>by simp at h⟩,q7,q8,q9,q10,rfl⟩
   ·rintro q fr s1 _ hq ⟨⟨mm,p0,p1,ids,f9,rfl,r2,r3,r4,r5⟩,q7,q8,q9,q10,f2,f4,f5,f6,f38,f39,f40,rfl⟩;obtain⟨p,hp⟩:=yQ2 hq;have hpm:=lMg hp;obtain⟨g5,g6⟩:=g4 p hpm;have hPp:yKp W (calJ ca) ln p:=⟨v,hvm,hpm⟩
    obtain⟨zq,hzq,hzl⟩:=hzv.2 q p hp;obtain⟨kk1,kk2⟩:=xXs (by omega) g5 g6;have hfc:=wKe gl ca m W tw xw rb mN S0 s1 _ links r2 p kk1 kk2 zq hzl r4;obtain⟨ta,tb,rfl,ea,eb⟩:=hzl;have hq2:q=0\/q=1:=by omega
    have fin:∀ {n:Nat} {mm':List Ln},(lines++(more++mm'))[n]?=some p->(∀(k:Nat) (a:Ln),(lines++(more++mm))[k]?=some a->(lines++(more++mm'))[k]?=some a)->∀(r n':Nat),([p0,p1].take q++[n])[r]?=some n'->∃p,(lines++(more++mm'))[n']?=some p/\v.2.2[r]?=some p:=λ{n mm'} hn hext r n' h=>by
     have hlen:([p0,p1].take q).length=q:=by rw[List.length_take];simp only[List.length_cons,List.length_nil];omega
     rcases Nat.lt_or_ge r q with hr|hr
     ·rw[List.getElem?_append_left (by omega)] at h;obtain⟨a,ha1,ha2⟩:=r5 r n' h;exact⟨a,hext _ _ ha1,ha2⟩
     ·rw[List.getElem?_append_right (by omega),hlen] at h;have hr0:r-q=0:=by
       rcases Nat.eq_zero_or_pos (r-q) with h0|h0
       ·exact h0
       ·rw[List.getElem?_eq_none (by simp only[List.length_cons,List.length_nil];omega)] at h;cases h
      rw[hr0] at h;cases h;obtain rfl:r=q:=by omega
      exact⟨p,hn,hp⟩
    simp only[go_sem,zE,zB,zA,zM,zS,zL,reduceCtorEq,f2,f4,f5,f6,f9,f38,f39,f40,lt_i hq,yQ3 htv,iNn,hzq,fits];refine hfc.mono ?_;rintro _ s2 (⟨n,hn,rfl,rfl⟩|⟨hnm,⟨hge,rfl,rfl⟩|⟨hlt',rfl,hR2,hkp⟩⟩)
    ·rcases hq2 with rfl|rfl
     ·simp only[go_sem,zE,zB,zA,zM,zS,zL,reduceCtorEq,f2,f4,f5,f6,f9,f38,f39,f40,fits,decide_true,iNn,show (0<2)=True from eq_true (by decide),yVq,show IntKind.u8.wrap (((0:Nat):Int)+1)=((1:Nat):Int) from rfl,show IntKind.i64.wrap (((0:Nat):Int)+1)=((1:Nat):Int) from rfl];exact⟨⟨mm,n,p1,[n],rfl,rfl,r2,r3,r4,fin hn (λ_ _ h=>h)⟩,q7,q8,q9,q10⟩
     ·simp only[go_sem,zE,zB,zA,zM,zS,zL,reduceCtorEq,f2,f4,f5,f6,f9,f38,f39,f40,fits,decide_true,iNn,show (1<2)=True from eq_true (by decide),yVq,show IntKind.u8.wrap (((1:Nat):Int)+1)=((2:Nat):Int) from rfl,show IntKind.i64.wrap (((1:Nat):Int)+1)=((2:Nat):Int) from rfl];exact⟨⟨mm,p0,n,[p0,n],rfl,rfl,r2,r3,r4,fin hn (λ_ _ h=>h)⟩,q7,q8,q9,q10⟩
    ·simp only[go_sem,zE,zB,zA,zM,zS,zL,reduceCtorEq,f2,f4,f5,f6,f9,f38,f39,f40,fits,show decide ((4:Int)=0)=false from rfl,decide_false,q7,yQ6 n54,q8];exact⟨rfl,by rw[yQ6 (λh=>n54 h.symm),ISt.put_same],yQe (yQe r2.base z4) z5,.inr ⟨ISt.put_same ..,more++mm,p,r3,hPp,hnm,r2.nd,hge⟩⟩
    ·have hgn:(lines++(more++(mm++[p])))[(lines++(more++mm)).length]?=some p:=by
      rw[<- List.append_assoc more,<- List.append_assoc lines,List.getElem?_append_right (Nat.le_refl _),Nat.sub_self];rfl
     have hext:∀(k:Nat) (a:Ln),(lines++(more++mm))[k]?=some a->(lines++(more++(mm++[p])))[k]?=some a:=λk a h=>by
      rw[<- List.append_assoc more,<- List.append_assoc lines,List.getElem?_append_left (lGs h).1];exact h
     have hR3:RS ca m W tw xw rb mN S0 s2 (lines++(more++(mm++[p]))) links:=by
      rw[<- List.append_assoc more,<- List.append_assoc lines];exact hR2
     have hP3:∀x∈more++(mm++[p]),yKp W (calJ ca) ln x:=λx hx=>by
      rw[<- List.append_assoc] at hx;rcases List.mem_append.1 hx with hx|hx
      ·exact r3 x hx
      ·rw[List.mem_singleton.1 hx];exact hPp
     have hL3:(lines++(more++(mm++[p]))).length<=20000:=by
      rw[<- List.append_assoc more,<- List.append_assoc lines,lLa];simp only[List.length_cons,List.length_nil];omega
     have v4:=hkp b4 _ q7 k4.1 k4.2.1 k4.2.2 λn h=>by cases h
     have v5:=hkp b5 _ q8 k5.1 k5.2.1 k5.2.2 λn h=>by cases h
     have v6:=hkp b6 _ q9 k6.1 k6.2.1 k6.2.2 λn h=>by cases h
     have v10:own s2 t6 L.length 5 S0:=q10.mono λg hg _=>by
      obtain⟨tl',xl',tk',xk',w1,_⟩:=r2.ex;obtain⟨es',w2,_⟩:=r2.sp;exact hkp g _ hg (λe=>by rw[e,w1] at hg;cases hg) (λe=>by rw[e,r2.num] at hg;cases hg) (λe=>by rw[e,w2] at hg;cases hg) λn h=>by cases h
     rcases hq2 with rfl|rfl
     ·simp only[go_sem,zE,zB,zA,zM,zS,zL,reduceCtorEq,f2,f4,f5,f6,f9,f38,f39,f40,fits,decide_true,iNn,show (0<2)=True from eq_true (by decide),yVq,show IntKind.u8.wrap (((0:Nat):Int)+1)=((1:Nat):Int) from rfl,show IntKind.i64.wrap (((0:Nat):Int)+1)=((1:Nat):Int) from rfl];exact⟨⟨mm++[p],_,p1,[_],rfl,rfl,hR3,hP3,hL3,fin hgn hext⟩,v4,v5,v6,v10⟩
     ·simp only[go_sem,zE,zB,zA,zM,zS,zL,reduceCtorEq,f2,f4,f5,f6,f9,f38,f39,f40,fits,decide_true,iNn,show (1<2)=True from eq_true (by decide),yVq,show IntKind.u8.wrap (((1:Nat):Int)+1)=((2:Nat):Int) from rfl,show IntKind.i64.wrap (((1:Nat):Int)+1)=((2:Nat):Int) from rfl];exact⟨⟨mm++[p],p0,_,[p0,_],rfl,rfl,hR3,hP3,hL3,fin hgn hext⟩,v4,v5,v6,v10⟩
   ·rintro fr s1 _ ⟨⟨mm,p0,p1,ids,f9,rfl,r2,r3,r4,r5⟩,q7,q8,q9,q10,f2,f4,f5,f6,f38,f39,f40,rfl⟩;have hlen:([p0,p1].take v.2.2.length).length=v.2.2.length:=by rw[List.length_take];simp only[List.length_cons,List.length_nil];omega
    have hyl:ys.length=L.length:=q6.1;have hcl:(cutO (mvsN W (calJ ca) ln)).length<=16000000:=by
     have h1:∀l:List (Option Mv),(cutO l).length<=l.length:=λl=>by
      induction l with
      | nil=>exact Nat.le_refl _
      | cons a l ih =>
       cases a with
       | none=>simp[cutO]
       | some a=>simp only[cutO,List.length_cons];omega
     exact Nat.le_trans (h1 _) (zVq hS hWs hln)
    have hLk:L.length=k:=by
     have h1:=congrArg List.length q1;rw[List.length_take,List.length_map] at h1;have h2:=(lGs hok').1;rw[q5.1];omega
    have hkl:=(lGs hok').1;simp only[go_sem,zE,zB,zA,zM,zS,zL,reduceCtorEq,f2,f4,f5,f6,f9,f39,f40,yQm (nLi _),q9,fits,yQ1];refine yX4 q10 hyl r2.base rfl (by simp[fits,IV.one]) (by simp only;omega) (by omega) λt6' s2 w1 w2 w3=>?_;have v4:=w3 b4 _ q7 λn h=>by cases h
    have v5:=w3 b5 _ q8 λn h=>by cases h
    have v6:=w3 b6 _ q9 λn h=>by cases h
    simp only[go_sem,zE,zB,zA,zM,zS,zL,reduceCtorEq,f2,f4,f5,f6,f9,v6,fits];have hkeep:∀b o,s1 b=some o->b≠b6->(∀n,o≠.front n 5)->(s2.put b6 (some (.box [.sl t6' (ys++[.agg [.raw (.int .u8 (v.1:Int)),.raw (.int .u8 (v.2.2.length:Int)),.raw (.int .i32 (v.2.1:Int)),.raw (.int .i32 (p0:Int)),.raw (.int .i32 (p1:Int))]])]))) b=some o:=λb o h h1 h2=>by
     rw[yQ6 h1];exact w3 b o h h2
    refine⟨more++mm,vs++[v],L++[(v.1,v.2.1,[p0,p1].take v.2.2.length)],t6',_,?_,r2.elsewhere (yQe w2 z6) λb o h hor=>hkeep b o h ?_ ?_,r3,r4,LksOf.snoc ?_ ⟨rfl,rfl,hlen,r5⟩,q6.snoc ⟨p0,p1,by rw[hlen],by rw[hlen]⟩,?_,?_,ISt.put_same ..,?_⟩
    ·rw[yQ7 hok',q1,List.map_append];rfl
    ·rintro rfl;rcases hor with h1|h1|h1|⟨n,h1⟩|⟨n,h1⟩
     ·exact k6.1 h1
     ·exact k6.2.1 h1
     ·exact k6.2.2 h1
     ·rw[q9] at h;rw[h1] at h;cases h
     ·rw[q9] at h;rw[h1] at h;cases h
    ·rintro n rfl;rcases hor with h1|h1|h1|⟨n,h1⟩|⟨n,h1⟩
     ·obtain⟨_,_,_,_,e,_⟩:=r2.ex;rw[h1,e] at h;cases h
     ·rw[h1,r2.num] at h;cases h
     ·obtain⟨_,e,_⟩:=r2.sp;rw[h1,e] at h;cases h
     ·cases h1
     ·cases h1
    ·rw[<- List.append_assoc];exact q5.app
    ·rw[yQ6 λh=>n64 h.symm];exact v4
    ·rw[yQ6 λh=>n65 h.symm];exact v5
    ·rw[lLa];refine w1.mono λg hg _=>?_;rw[yQ6 λe=>by rw[e,v6] at hg;cases hg];exact hg
 ·rintro s rr ⟨more,vs,L,t6,ys,q1,q2,q3,q4,q5,q6,q7,q8,q9,q10⟩;rw[lTl] at q1;have hall:mvsN W (calJ ca) ln=vs.map some:=by
   have h1:∀l:List (Option Mv),none ∉ cutO l->cutO l=l:=λl=>by
    induction l with
    | nil=>intro _;rfl
    | cons a l ih =>
     intro h;cases a with
     | none=>exact absurd (.head _) h
     | some a=>simp only[cutO] at h ⊢;rw[ih λh'=>h (.tail _ h')]
   rw[<- q1,h1];rw[q1];simp
  simp only[go_sem,zE,zB,zA,zM,zS,zL,reduceCtorEq,q9,q7,q8,yQ6 n54,yQ6 (λh=>n54 h.symm),yQ6 n64,yQ6 (λh=>n64 h.symm),fits];refine yQ0 (.inl ⟨t6,ys,L,vs,more,rfl,q10.es,q6,hall,q5,q3,q4,q2.elsewhere (yQe (yQe q2.base z4) z5) λb o h hor=>?_⟩);have hb:∀b',(b'≠rb/\b'≠mN/\b'≠m)->(∃c,s b'=some (.box c))->b≠b':=by
   rintro b' hk ⟨c,hc⟩ rfl;rcases hor with h1|h1|h1|⟨n,h1⟩|⟨n,h1⟩
   ·exact hk.1 h1
   ·exact hk.2.1 h1
   ·exact hk.2.2 h1
   ·rw[hc,h1] at h;cases h
   ·rw[hc,h1] at h;cases h
  rw[yQ6 (hb b5 k5 ⟨_,q8⟩),yQ6 (hb b4 k4 ⟨_,q7⟩)];exact h
 ·rintro e s rr ⟨rfl,w1,w2,hor⟩;rcases hor with⟨w3,w4⟩|⟨w3,w4⟩
  ·simp only[go_sem,zE,zB,zA,zM,zS,zL,reduceCtorEq,w1,w3];exact yQ0 (.inr (.inl ⟨rfl,w4,w2⟩))
  ·simp only[go_sem,zE,zB,zA,zM,zS,zL,reduceCtorEq,w1,w3];exact yQ0 (.inr (.inr ⟨rfl,w2,w4⟩))
theorem uX4 (a b:Fm)(x y:IV)(hx:IsFm a x)(hy:IsFm b y)(st:ISt):ICall prog gl 102 [x,y] st (λr st'=>r=.raw (.bool (decide (yZa a b=0)))/\st'=st):=by
 have hc:=zXq gl a b x y hx hy st;cases a with
 | mk o1 n1 u1 s1 =>
 cases b with
 | mk o2 n2 u2 s2 =>
 obtain⟨t1,x1,t2,x2,rfl,_⟩:=hx.mk;obtain⟨t3,x3,t4,x4,rfl,_⟩:=hy.mk;refine iI func102 ?_;simp only[go_sem,zE,zB,zA,zM,zS,zL,reduceCtorEq,fits];refine hc.mono ?_;rintro _ st ⟨rfl,rfl⟩;simp only[go_sem,zE,zB,zA,zM,zS,zL,reduceCtorEq];exact yQ0 ⟨rfl,rfl⟩
theorem wQz {st:ISt}{m b b5 b6:Nat}{M S x y F0 F:Option IObj}(h1:st m=none)(h2:(st.put m M) b=none)(h3:((st.put m M).put b S) b5=none)(h4:(((((st.put m M).put b S).put b5 x).put b5 y).put b5 none) b6=none)(hM:M≠none)(hS:S≠none) :
  b6≠b/\b6≠m/\b≠m/\st b6=none/\st b=none/\((((((st.put m M).put b S).put b5 x).put b5 y).put b5 none).put b6 F0).put b6 F=((st.put m M).put b6 F).put b S:=by
 have e1:b≠m:=by rintro rfl;rw[ISt.put_same] at h2;exact hM h2
 rw[yQ6 e1] at h2;have e2:b5≠b:=by rintro rfl;rw[ISt.put_same] at h3;exact hS h3
 rw[yQ6 e2] at h3;have e3:b5≠m:=by rintro rfl;rw[ISt.put_same] at h3;exact hM h3
 rw[yQ6 e3] at h3;have hst:((((st.put m M).put b S).put b5 x).put b5 y).put b5 none=(st.put m M).put b S:=by
  funext c;simp only[ISt.put_apply];by_cases e:c=b5
  ·rw[if_pos e,e,if_neg e2,if_neg e3,h3]
  ·rw[if_neg e,if_neg e,if_neg e]
 rw[hst] at h4 ⊢;have e4:b6≠b:=by rintro rfl;rw[ISt.put_same] at h4;exact hS h4
 rw[yQ6 e4] at h4;have e5:b6≠m:=by rintro rfl;rw[ISt.put_same] at h4;exact hM h4
 rw[yQ6 e5] at h4;refine⟨e4,e5,e1,h4,h2,?_⟩;rw[yQ8];funext c;simp only[ISt.put_apply];by_cases e:c=b6
 ·rw[if_pos e,e,if_neg e4,if_pos rfl]
 ·rw[if_neg e,if_neg e]
theorem xWw (f:Fm):1<=(cloF f).length:=by
 cases f with
 | mk o n us sub =>
  rw[cloF,lLa];have:=xX0 (.mk o n us sub);omega
theorem xZ1:∀l:List Fm,l.length<=(yZj l).length
 | []=>Nat.le_refl _
 | a::l=>by
  rw[yZj,lLa,List.length_cons];have h1:=xWw a;have h2:=xZ1 l;omega
theorem zKo:∀(a:List Fm)(k:Nat),(yZj (a.take k)).length<=(yZj a).length
 | [],k=>by simp
 | c::a,0=>by simp[yZj]
 | c::a,k+1=>by
  simp only[List.take_succ_cons,yZj,lLa];have:=zKo a k;omega
theorem xZ3 {cs Z:List IV}{k:Nat}(h:cs.take k=Z):cs=Z++cs.drop k:=by rw[<- h,List.take_append_drop]
theorem zY4 {st S s1:ISt}{m b ca:Nat}{W:List Fm}{y:IV}{t:Tag}{z:List IV}(hm:st m=none)(h0:∀c o,(st.put m (some (.map .pl []))) c=some o->S c=some o)(h1:∀c o,s1 c=some o->S c=some o/\(st.put m (some (.map .pl []))) c=none)
  (hb:s1 b=some (.box [.raw (.int .u8 (ca:Int)),y,.raw (.map (some m))])) (hy:OI s1 y (.sl t z)) (ht:okEs t 4) (hz:IsFms W z) :
  ∃x s1 s0,LendOk S s1 s0/\OI s1 (ptr b) x/\∃m tw xw,st m=none/\okEs tw 4/\IsFms W xw/\age x=spI ca tw xw m/\s0=st.put m (some (.map .pl [])):=by
 refine⟨.cptr (.agg [.raw (.int .u8 (ca:Int)),.sl t z,.raw (.map (some m))]),s1,_,⟨λc o hc=>(h1 c o hc).1,h0,λc cs hc=>(h1 c _ hc).2⟩,.ptr b _ _ hb rfl λi r c hr hc=>?_,m,⟨false,t.cap,t.es⟩,ages z,hm,?_,hz.aged,by simp only[age,ages],rfl⟩
 ·match i,hr,hc with
  | 0,hr,hc=>cases hr;cases hc;exact .refl _
  | 1,hr,hc=>cases hr;cases hc;exact hy
  | 2,hr,hc=>cases hr;cases hc;exact .refl _
  | i+3,hr,hc=>simp at hr
 ·exact ht
theorem xKk (ca:Nat)(s:Sq)(x:IV)(hx:IsSq s x)(hl:(yZj (s.l++s.r)).length<=1000000)(st:ISt) :
  ICall prog gl 68 [.raw (.int .u8 (ca:Int)),x] st (λr st'=>∃m tw xw,st m=none/\okEs tw 4/\IsFms (setF (yZj (s.l++s.r))) xw/\r=spI ca tw xw m/\st'=st.put m (some (.map .pl []))):=by
 refine ICall.fix ?_;have hx0:=hx;obtain⟨t1,x1,t2,x2,rfl,e1,i1,e2,i2⟩:=hx;refine ICall.introF (t:=5) (n:=2) (c:=cf prog gl [12,5,6,32,38] []) func68 rfl (by show _<=43;simp) (by show _<43;simp) (by kernel_rfl) ?_;simp only[go_sem,zE,zB,zA,zM,zS,zL,reduceCtorEq,fits];refine λm=>yQ9 λh1=>λb=>yQ9 λh2=>λb5=>yQ9 λh3=>?_;refine⟨b5,ptr b,by simp only[go_sem,zE,zB,zA,zM,zS,zL,reduceCtorEq],ISt.put_same ..,?_⟩;simp only[go_sem,zE,zB,zA,zM,zS,zL,reduceCtorEq,fits];refine λb6=>yQ9 λh4=>?_;obtain⟨n1,n2,n3,h5,h6,hst⟩:=wQz (F0:=some (.box [.raw .nilFunc])) (F:=some (.box [colFn b b6])) h1 h2 h3 h4 nofun nofun;simp only[go_sem,zE,zB,zA,zM,zS,zL,reduceCtorEq,fits,yJc,show age (ptr b)=ptr b by simp only[age],hst];refine (wJ8 gl s.l s.r t1 t2 _ x1 x2 (.inr rfl) i1 i2 (by rw[<- lLa];exact Nat.le_trans (xZ1 _) (Nat.le_trans hl (by omega))) _).mono ?_;rintro _ _ ⟨tc,xc,rfl,hec,hxc,rfl⟩;simp only[go_sem,zE,zB,zA,zM,zS,zL,reduceCtorEq];intro _;generalize hB:(st.put m (some (.map .pl []))).put b6 (some (.box [colFn b b6]))=B0;have hb6:B0 b6=some (.box [colFn b b6]):=by rw[<- hB,ISt.put_same]
 have hgB:∀g,B0 g=none->g≠m/\g≠b6/\st g=none:=λg hg=>by
  rw[<- hB] at hg;have g1:g≠b6:=by rintro rfl;rw[ISt.put_same] at hg;cases hg
  rw[yQ6 g1] at hg;have g2:g≠m:=by rintro rfl;rw[ISt.put_same] at hg;cases hg
  rw[yQ6 g2] at hg;exact⟨g2,g1,hg⟩
 have hBm:∀c o,(st.put m (some (.map .pl []))) c=some o->B0 c=some o/\c≠b:=λc o hc=>by
  have c1:c≠b:=by rintro rfl;rw[yQ6 n3,h6] at hc;cases hc
  have c2:c≠b6:=by rintro rfl;rw[yQ6 n2,h5] at hc;cases hc
  exact⟨by rw[<- hB,yQ6 c2];exact hc,c1⟩
 refine LoopC.ctr xc.length (λk fr st' ds=>Fo ca m b B0 (yZj ((s.l++s.r).take k)) st'/\fr 5=.iv (.cptr (ptr b))/\fr 6=.iv (ptr b6)/\fr 19=.iv (.sl tc xc)/\fr 20=.iv (.raw (.int .i64 xc.length))/\fr 21=.iv (.raw (.int .i64 (k:Int)))/\ds=[]) ?_ ?_ ?_
 ·simp only[go_sem,zE,zB,zA,zM,zS,zL,reduceCtorEq];exact⟨.inl ⟨rfl,rfl⟩,rfl⟩
 ·rintro k fr st1 _ hlt ⟨hF3,f5,f6,f19,f20,f21,rfl⟩;rw[hxc.len] at hlt;obtain⟨g,hg⟩:=yQ2 hlt;obtain⟨z,hz,hgz⟩:=hxc.get hg;have hlk:(yZj ((s.l++s.r).take k)++cloF g).length<=1000000:=by rw[<- yY9 hg];exact Nat.le_trans (zKo _ _) hl
  have IHg:=vXd gl g ca m b6 b z hgz B0 st1 _ hb6 n1 hlk hF3;have hs6:=hF3.self hb6 n1;cases g with
  | mk og ng ug sg =>
  obtain⟨tg1,xg1,tg2,xg2,rfl,hgg⟩:=hgz.mk;simp only[go_sem,zE,zB,zA,zM,zS,zL,reduceCtorEq,f5,f6,f19,f20,f21,lt_i (show k<xc.length by rw[hxc.len];exact hlt),yQ3 hec,iNn,hz,fits,IV.one];rw[hs6];simp only[go_sem,zE,zB,zA,zM,zS,zL,reduceCtorEq];refine IHg.mono ?_;rintro _ st1 hF4;simp only[go_sem,zE,zB,zA,zM,zS,zL,reduceCtorEq,f5,f6,f19,f20,f21,yQd (show k<xc.length by rw[hxc.len];exact hlt) (show xc.length<=281474976710656 by rw[hxc.len];exact Nat.le_trans (xZ1 _) (Nat.le_trans hl (by omega)))];rw[yY9 hg];exact hF4
 ·rintro fr st1 _ ⟨hF,f5,f6,f19,f20,f21,rfl⟩;rw[hxc.len,lTl] at hF;generalize hW:yZj (s.l++s.r)=W at hF hl ⊢;rcases hF with⟨rfl,rfl⟩|⟨g,cap,cs,zs,hl0,hg,hgb,hcap,hroom,hcs,hzs,rfl⟩
  ·simp only[go_sem,zE,zB,zA,zM,zS,zL,reduceCtorEq,f5,f19,f20,f21,yQm (nLi _),fits,yGe];refine (wQl gl _ rfl _).mono ?_;rintro _ _ ⟨rfl,rfl⟩;simp only[go_sem,zE,zB,zA,zM,zS,zL,reduceCtorEq,f5,fits];refine (zU1 gl _ _ rfl _).mono ?_;rintro _ _ ⟨⟨t',rfl,ht'⟩,rfl⟩;simp only[go_sem,zE,zB,zA,zM,zS,zL,reduceCtorEq,f5,fits];rw[yQ8];refine yQ0 (zY4 (s1:=ISt.put (λ_=>none) b (some (.box [.raw (.int .u8 (ca:Int)),.sl t' [],.raw (.map (some m))]))) (t:=t') (z:=[]) h1 (λc o hc=>?_) (λc o hc=>?_) (ISt.put_same ..) (.refl _) (.inl ht') (by rw[wZ3];rfl))
   ·rw[yQ6 (hBm c o hc).2];exact (hBm c o hc).1
   ·rw[ISt.put_apply] at hc;split at hc
    ·rename_i e;subst e;exact⟨by rw[ISt.put_same];exact hc,by rw[yQ6 n3];exact h6⟩
    ·cases hc
  ·have hcells:=xZ3 hcs;have hso:=vXt gl W zs (cs.drop (W.length*4)) hzs (λe=>hl0 (by rw[e] at hzs;exact List.eq_nil_of_length_eq_zero (by rw[<- hzs.len];rfl))) (by rw[hzs.len];omega) g cap;rw[<- hcells,hzs.len] at hso;simp only[go_sem,zE,zB,zA,zM,zS,zL,reduceCtorEq,f5,f19,f20,f21,yQm (nLi _),fits,yGe,yQ6 hgb.symm];refine (hso _ (ISt.put_same ..)).mono ?_;rintro _ _ ⟨rfl,mm,ys,hms,hperm,hpw,-,rfl⟩;have hml:=hperm.length_eq;have hco:=wQp gl 102 (by simp only[go_sem,zE,zB,zA,zM,zS,zL,reduceCtorEq]) (uX4 gl) mm ys (cs.drop (W.length*4)) hms (by omega) g cap (by omega);rw[hml] at hco;simp only[go_sem,zE,zB,zA,zM,zS,zL,reduceCtorEq,f5,fits,yQ6 hgb.symm];refine (hco _ (ISt.put_same ..)).mono ?_;rintro _ _ ⟨k,cs2,zs2,rfl,rfl,hc1,hc2,hz2,hk,hkm,-⟩;simp only[go_sem,zE,zB,zA,zM,zS,zL,reduceCtorEq,f5,fits,yQ6 hgb.symm];refine yZ1 rfl ?_;obtain⟨gm,g6,gs⟩:=hgB g hg;subst hk;rw[yQ8,yQ8,zV8 hgb];have hz4:∀z∈zs2,z.cells.length=4:=λz hz=>by
    obtain⟨a,ha,_⟩:=yUy hz2 z hz;cases a;obtain⟨_,_,_,_,rfl,_⟩:=ha.mk;rfl
   have hcl:cs2.length=cs.length:=by
    rw[hc1,lLa,zZ8 hms,List.length_drop];omega
   refine yQ0 (zY4 (s1:=(ISt.put (λ_=>none) b (some (.box [.raw (.int .u8 (ca:Int)),.raw (.slice (some ⟨g,0,none⟩) zs2.length cap),.raw (.map (some m))]))).put g (some (.box cs2))) (t:=⟨true,.app g,4⟩) (z:=zs2) h1 (λc o hc=>?_) (λc o hc=>?_) (by rw[yQ6 hgb.symm,ISt.put_same]) ?_ (.inr rfl) (by rw[yUe (vXb _ mm hperm hpw)];exact hz2))
   ·obtain⟨e1,e2⟩:=hBm c o hc;rw[yQ6 (by rintro rfl;rw[hg] at e1;cases e1),yQ6 e2];exact e1
   ·rw[ISt.put_apply] at hc;split at hc
    ·rename_i e;subst e;exact⟨by rw[ISt.put_same];exact hc,by rw[yQ6 gm];exact gs⟩
    ·rename_i e;rw[ISt.put_apply] at hc;split at hc
     ·rename_i e';subst e';exact⟨by rw[yQ6 e,ISt.put_same];exact hc,by rw[yQ6 n3];exact h6⟩
     ·cases hc
   ·refine .sl g cap ⟨true,.app g,4⟩ zs2 cs2 rfl (by omega) (by omega) hz4 (ISt.put_same ..) (by show cap*4<=_;omega) λi r c hr hc=>?_;have hi:=(lGs hc).1;rw[yQo _ hz4] at hi;rw[<- hc2,List.getElem?_take,if_pos hi,hr] at hc;cases hc;exact .refl _
end Go.Proofs.Tryz
namespace Go.Proofs.Tryz
open Go Go.Iv
theorem yY8 (f:Fm):f∈cloF f:=by
 cases f with
 | mk o n us sub =>
  rw[cloF];refine List.mem_append_left _ ?_;unfold yJg;split
  ·simp_all
  ·exact .head _
theorem yJq {g:Fm}:∀ {l:List Fm},g∈yZj l↔∃f∈l,g∈cloF f
 | []=>by simp[yZj]
 | a::l=>by simp only[yZj,List.mem_append,yJq,List.mem_cons];grind
theorem wZ4 {o:Nat}{a b g:Fm}(h:g∈yJg (.mk o noN [] [a,b])):g=.mk o noN [] [a,b]\/(o=7/\(g=imF a b\/g=imF b a)):=by
 unfold yJg at h;split at h
 ·rename_i he;cases he;simpa using h
 ·exact .inl (by simpa using h)
theorem zQ1 {a g:Fm}:g∈cloF (.mk 3 noN [] [a])↔g=.mk 3 noN [] [a]\/g∈cloF a:=by
 simp[cloF,yZj,yJg]
theorem xZ2 {o:Nat}{a b g:Fm}:g∈cloF (.mk o noN [] [a,b])->g=.mk o noN [] [a,b]\/(o=7/\(g=imF a b\/g=imF b a))\/g∈cloF a\/g∈cloF b:=λh=>by
 simp only[cloF,yZj,List.append_nil,List.mem_append] at h;rcases h with h|h|h
 ·rcases wZ4 h with h|h
  ·exact .inl h
  ·exact .inr (.inl h)
 ·exact .inr (.inr (.inl h))
 ·exact .inr (.inr (.inr h))
theorem xVh {o:Nat}{a b g:Fm}(h:g∈cloF a\/g∈cloF b):g∈cloF (.mk o noN [] [a,b]):=by
 simp only[cloF,yZj,List.append_nil,List.mem_append];exact .inr h
theorem vXg {ca:Nat}{f:Fm}(hf:PF f):fmB ca f=true->∀g∈cloF f,fmB ca g=true:=by
 induction hf with
 | atom n=>intro h g hg;simp[cloF,yZj,yJg] at hg;rw[hg];exact h
 | fls=>intro h g hg;simp[cloF,yZj,yJg] at hg;rw[hg];exact h
 | neg _ ih =>
  intro h g hg;rcases zQ1.1 hg with rfl|hg
  ·exact h
  ·exact ih (wWm h) g hg
 | bin h4 h7 _ _ iha ihb =>
  intro h g hg;obtain⟨k1,k2,k3,k4⟩:=wWn ⟨by omega,h4,h7⟩ h;rcases xZ2 hg with rfl|⟨_,rfl|rfl⟩|hg|hg
  ·exact h
  ·exact k3
  ·exact k4
  ·exact iha k1 g hg
  ·exact ihb k2 g hg
theorem xUw {f:Fm}(hf:PF f):∀g∈cloF f,∀j r,∀t∈addF j g r,∀p∈t.2,(∀x∈p.1,x∈cloF f)/\∀x∈p.2,x∈cloF f:=by
 induction hf with
 | atom n=>intro g hg j r t ht;simp[cloF,yZj,yJg] at hg;subst hg;simp[addF] at ht
 | fls=>intro g hg j r t ht;simp[cloF,yZj,yJg] at hg;subst hg;simp[addF] at ht
 | @neg a _ ih =>
  intro g hg j r t ht p hp;rcases zQ1.1 hg with rfl|hg
  ·have ha:a∈cloF (.mk 3 noN [] [a]):=zQ1.2 (.inr (yY8 a));cases r<;>simp[addF] at ht<;>subst ht<;>simp at hp<;>subst hp<;>simp[ha]
  ·obtain⟨h1,h2⟩:=ih g hg j r t ht p hp;exact⟨λx hx=>zQ1.2 (.inr (h1 x hx)),λx hx=>zQ1.2 (.inr (h2 x hx))⟩
 | @bin o a b h4 h7 _ _ iha ihb =>
  intro g hg j r t ht p hp;have ha:a∈cloF (.mk o noN [] [a,b]):=xVh (.inl (yY8 a));have hb:b∈cloF (.mk o noN [] [a,b]):=xVh (.inr (yY8 b));have imp:∀c d:Fm,c∈cloF (.mk o noN [] [a,b])->d∈cloF (.mk o noN [] [a,b])->t∈addF j (imF c d) r->(∀x∈p.1,x∈cloF (.mk o noN [] [a,b]))/\∀x∈p.2,x∈cloF (.mk o noN [] [a,b]):=λc d hc hd ht=>by
   cases r<;>simp[addF] at ht<;>subst ht<;>simp at hp
   ·rcases hp with rfl|rfl<;>simp[hc,hd]
   ·subst hp;simp[hc,hd]
  rcases xZ2 hg with rfl|⟨_,rfl|rfl⟩|hg|hg
  ·obtain rfl|rfl|rfl|rfl:o=4\/o=5\/o=6\/o=7:=by omega
   ·cases r<;>simp[addF] at ht<;>subst ht<;>simp at hp
    ·subst hp;simp[ha,hb]
    ·rcases hp with rfl|rfl<;>simp[ha,hb]
   ·cases r<;>cases j<;>simp[addF] at ht
    ·subst ht;simp at hp;rcases hp with rfl|rfl<;>simp[ha,hb]
    ·subst ht;simp at hp;rcases hp with rfl|rfl<;>simp[ha,hb]
    ·subst ht;simp at hp;subst hp;simp[ha,hb]
    ·rcases ht with rfl|rfl<;>simp at hp<;>subst hp<;>simp[ha,hb]
   ·exact imp a b ha hb ht
   ·have h1:imF a b∈cloF (.mk 7 noN [] [a,b]):=by simp[cloF,yJg]
    have h2:imF b a∈cloF (.mk 7 noN [] [a,b]):=by simp[cloF,yJg]
    cases r<;>simp[addF] at ht<;>subst ht<;>simp at hp
    ·subst hp;simp[h1,h2]
    ·rcases hp with rfl|rfl<;>simp[ha,hb]
  ·exact imp a b ha hb ht
  ·exact imp b a hb ha ht
  ·obtain⟨h1,h2⟩:=iha g hg j r t ht p hp;exact⟨λx hx=>xVh (.inl (h1 x hx)),λx hx=>xVh (.inl (h2 x hx))⟩
  ·obtain⟨h1,h2⟩:=ihb g hg j r t ht p hp;exact⟨λx hx=>xVh (.inr (h1 x hx)),λx hx=>xVh (.inr (h2 x hx))⟩
theorem wVj (f:Fm):(yJg f).length<=3:=by
 unfold yJg;split<;>simp
mutual
theorem wXw:∀f:Fm,(cloF f).length<=3*f.size
 | .mk o n us sub=>by
  have h1:=wVj (.mk o n us sub);have h2:=zXs sub;simp only[cloF,lLa,Fm.size];omega
theorem zXs:∀l:List Fm,(yZj l).length<=3*yQb l
 | []=>by simp[yZj]
 | a::l=>by
  have h1:=wXw a;have h2:=zXs l;simp only[yZj,lLa,yQb];omega
end
theorem wVd {l:List Fm}{k:Nat}(h:∀f∈l,f.size<=k):yQb l<=l.length*k:=by
 induction l with
 | nil=>simp[yQb]
 | cons a l ih =>
  have h1:=h a (.head _);have h2:=ih λf hf=>h f (.tail _ hf);simp only[yQb,List.length_cons,Nat.add_mul,Nat.one_mul];omega
theorem yKf {ca:Nat}{s:Sq}(hc:ca=1\/ca=2)(h:yQx ca s=true) :
  SpOk ca (setF (yZj (s.l++s.r)))/\(yZj (s.l++s.r)).length<=200000/\(setF (yZj (s.l++s.r))).length<=200000/\InW (setF (yZj (s.l++s.r))) (s.l,s.r):=by
 unfold yQx at h;simp only[bAt,dTe,List.all_eq_true] at h;obtain⟨⟨⟨⟨⟨_,hl⟩,hr⟩,hfl⟩,hfr⟩,_⟩:=h;have hfm:∀f∈s.l++s.r,fmB ca f=true:=λf hf=>(List.mem_append.1 hf).elim (hfl f) (hfr f);have hc3:ca≠3:=by omega
 have hsz:∀f∈s.l++s.r,f.size<=400:=λf hf=>by
  have:=hfm f hf;unfold fmB Fm.right at this;simp only[bAt,dTe] at this;exact this.1.1.2
 have h1:=zXs (s.l++s.r);have h2:=wVd hsz;rw[lLa] at h2;have h3:(yZj (s.l++s.r)).length<=200000:=by omega
 obtain⟨r,hset,hrl⟩:=zUx (yZj (s.l++s.r));rw[yUe hset];refine⟨⟨hc,hset.1,by omega,λf hf=>?_,λf hf j rr t ht p hp=>?_⟩,h3,by omega,λf hf=>?_,λf hf=>?_⟩
 ·obtain⟨g,hg,hfg⟩:=yJq.1 ((hset.2 f).1 hf);exact vXg (zYk hc3 (hfm g hg)) (hfm g hg) f hfg
 ·obtain⟨g,hg,hfg⟩:=yJq.1 ((hset.2 f).1 hf);obtain⟨k1,k2⟩:=xUw (zYk hc3 (hfm g hg)) f hfg j rr t ht p hp;exact⟨λx hx=>(hset.2 x).2 (yJq.2 ⟨g,hg,k1 x hx⟩),λx hx=>(hset.2 x).2 (yJq.2 ⟨g,hg,k2 x hx⟩)⟩
 ·exact (hset.2 f).2 (yJq.2 ⟨f,List.mem_append_left _ hf,yY8 f⟩)
 ·exact (hset.2 f).2 (yJq.2 ⟨f,List.mem_append_right _ hf,yY8 f⟩)
end Go.Proofs.Tryz
namespace Go.Proofs.Tryz
open Go Go.Iv
def mvW (W:List Fm)(v:Mv):Nat×Fm×List Sn:=(v.1,(W[v.2.1]?).getD fm0,v.2.2.map (lnW W))
def mvT (j:Bool)(ln:Ln)(i:Nat)(t:Tn):Mv:=(t.1,i,t.2.map (yGl j ln))
noncomputable def yW9 (W:List Fm)(j:Bool)(ln:Ln)(p:Nat×Bool):List Mv:=match W[p.1]? with
 | some f=>(yZp W j f p.2).map (mvT j ln p.1)
 | none=>[]
theorem xYt {ca:Nat}{W:List Fm}(hS:SpOk ca W){ln:Ln}(hln:LnOk W ln)(j:Bool){i:Nat}{f:Fm}(hf:W[i]?=some f)(r:Bool):(yW9 W j ln (i,r)).map (mvW W)=zVp j (lnW W ln) r f:=by
 unfold yW9 zVp yZp;simp only[hf,List.map_map];refine List.map_congr_left λt ht=>?_;simp only[Function.comp,mvT,mvW,hf,Option.getD_some,List.map_map];refine Prod.ext rfl (Prod.ext rfl ?_);refine List.map_congr_left λp hp=>?_;exact wZl hS.srt hln (hS.full f (lMg hf) j r t ht p hp)
theorem zUv {ca:Nat}{W:List Fm}(hS:SpOk ca W){ln:Ln}(hln:LnOk W ln)(j r:Bool):∀ {l:List Nat},(∀i∈l,i<W.length)->((l.map λi=>(i,r)).flatMap (yW9 W j ln)).map (mvW W)=(fmW W l).flatMap (zVp j (lnW W ln) r)
 | [],_=>rfl
 | i::l,h=>by
  obtain⟨f,hf⟩:=yQ2 (h i (.head _));rw[zWe hf,List.map_cons,List.flatMap_cons,List.flatMap_cons,List.map_append,xYt hS hln j hf,zUv hS hln j r λk hk=>h k (.tail _ hk)]
theorem xYo {ca:Nat}{W:List Fm}(hS:SpOk ca W){ln:Ln}(hln:LnOk W ln)(j:Bool):((plcs ln).flatMap (yW9 W j ln)).map (mvW W)=mvF j (lnW W ln):=by
 unfold plcs mvF;rw[List.flatMap_append,List.map_append,zUv hS hln j false hln.1.2,zUv hS hln j true hln.2.2];rfl
theorem xYu {W:List Fm}{j:Bool}{ln:Ln}{p:Nat×Bool}{v:Mv}(h:some v∈yXe W j ln p):v∈yW9 W j ln p:=by
 unfold yXe at h;unfold yW9;cases hf:W[p.1]? with
 | none=>simp only[hf] at h;cases h
 | some f =>
  simp only[hf] at h ⊢;obtain⟨t,ht,he⟩:=List.mem_map.1 h;refine List.mem_map.2 ⟨t,ht,?_⟩;unfold mvN at he;split at he
  ·cases he
  ·cases he;rfl
theorem wJu {W:List Fm}{j:Bool}{ln:Ln}{v:Mv}(h:some v∈mvsN W j ln):v∈(plcs ln).flatMap (yW9 W j ln):=by
 obtain⟨p,hp,h⟩:=List.mem_flatMap.1 h;exact List.mem_flatMap.2 ⟨p,hp,xYu h⟩
theorem wVy {W:List Fm}{j:Bool}{ln:Ln}{l:List (Nat×Bool)}:∀ {vs:List Mv},l.flatMap (yXe W j ln)=vs.map some->l.flatMap (yW9 W j ln)=vs:=by
 have one:∀p,(∀o∈yXe W j ln p,o≠none)->yXe W j ln p=(yW9 W j ln p).map some:=λp=>by
  unfold yXe yW9;cases W[p.1]? with
  | none=>intro _;rfl
  | some f =>
   simp only[List.map_map];intro h;refine List.map_congr_left λt ht=>?_;have h1:=h _ (List.mem_map_of_mem ht);unfold mvN at h1 ⊢;split
   ·rename_i hx;rw[if_pos hx] at h1;exact absurd rfl h1
   ·rfl
 have some_inj:∀ {a b:List Mv},a.map some=b.map some->a=b:=λ{a b} h=>by
  have h1:=congrArg (List.filterMap id) h;simpa[List.filterMap_map] using h1
 intro vs h;have hn:∀p∈l,∀o∈yXe W j ln p,o≠none:=λp hp o ho he=>by
  have:o∈vs.map some:=h▸List.mem_flatMap.2 ⟨p,hp,ho⟩;obtain⟨v,_,rfl⟩:=List.mem_map.1 this;cases he
 refine some_inj ?_;rw[<- h];clear h
 induction l with
 | nil=>rfl
 | cons a l ih =>
  rw[List.flatMap_cons,List.flatMap_cons,List.map_append,one a (hn a (.head _)),ih λp hp=>hn p (.tail _ hp)]
theorem xQa {ca:Nat}{W:List Fm}(hS:SpOk ca W){ln:Ln}(hln:LnOk W ln){j:Bool}{vs:List Mv}(h:mvsN W j ln=vs.map some):mvF j (lnW W ln)=vs.map (mvW W):=by
 rw[<- xYo hS hln,wVy h]
theorem zQy {ca:Nat}{W:List Fm}(hS:SpOk ca W){ln:Ln}(hln:LnOk W ln){j:Bool}:none∈mvsN W j ln↔zYu j (lnW W ln):=by
 have at_:∀i r f,W[i]?=some f->(none∈yXe W j ln (i,r)↔∃t∈addF j f r,∃p∈t.2,tooL j (lnW W ln) p):=λi r f hf=>by
  unfold yXe yZp;simp only[hf,List.map_map,List.mem_map,Function.comp];constructor
  ·rintro⟨t,ht,he⟩;unfold mvN at he;split at he
   ·rename_i hx;obtain⟨e,he1,he2⟩:=List.any_eq_true.1 hx;obtain⟨p,hp,rfl⟩:=List.mem_map.1 he1;exact⟨t,ht,p,hp,(xWa hln).1 he2⟩
   ·cases he
  ·rintro⟨t,ht,p,hp,hl⟩;refine⟨t,ht,?_⟩;unfold mvN;rw[if_pos (List.any_eq_true.2 ⟨_,List.mem_map_of_mem hp,(xWa hln).2 hl⟩)]
 unfold mvsN zYu;rw[List.mem_flatMap];constructor
 ·rintro⟨⟨i,r⟩,hp,h⟩;have hm:(r=false/\i∈ln.1)\/(r=true/\i∈ln.2):=by
   rcases List.mem_append.1 hp with hp|hp<;>obtain⟨k,hk,he⟩:=List.mem_map.1 hp<;>cases he
   ·exact .inl ⟨rfl,hk⟩
   ·exact .inr ⟨rfl,hk⟩
  rcases hm with⟨rfl,hi⟩|⟨rfl,hi⟩
  ·obtain⟨f,hf⟩:=hln.1.get hi;exact⟨f,false,yZl.2 ⟨i,hi,hf⟩,(at_ i _ f hf).1 h⟩
  ·obtain⟨f,hf⟩:=hln.2.get hi;exact⟨f,true,yZl.2 ⟨i,hi,hf⟩,(at_ i _ f hf).1 h⟩
 ·rintro⟨f,r,hf,h⟩;cases r
  ·obtain⟨i,hi,hf⟩:=yZl.1 hf;exact⟨(i,false),List.mem_append_left _ (List.mem_map.2 ⟨i,hi,rfl⟩),(at_ i _ f hf).2 h⟩
  ·obtain⟨i,hi,hf⟩:=yZl.1 hf;exact⟨(i,true),List.mem_append_right _ (List.mem_map.2 ⟨i,hi,rfl⟩),(at_ i _ f hf).2 h⟩
theorem xX6 {ca:Nat}{W:List Fm}(hS:SpOk ca W){ln p:Ln}(hln:LnOk W ln){s0:Sn}(h:yKp W (calJ ca) ln p)(hr:Rch (calJ ca) s0 (lnW W ln))(hc:¬ clN W ln):Rch (calJ ca) s0 (lnW W p)/\LnOk W p/\p.1.length<=64/\p.2.length<=64:=by
 obtain⟨v,hv,hp⟩:=h;obtain⟨h1,h2,h3⟩:=(zQz hS hln hv).2.2.2 p hp;refine⟨.step hr (λh=>hc ((zQm hS.srt hln).2 h)) (m:=mvW W v) ?_ (List.mem_map_of_mem hp),h1,h2,h3⟩;rw[<- xYo hS hln];exact List.mem_map_of_mem (wJu hv)
def LkS (W:List Fm)(j:Bool)(lines:List Ln)(ln:Ln)(l:List Lk):Prop:=(clN W ln/\l=[])\/(¬ clN W ln/\∃vs,mvsN W j ln=vs.map some/\LksOf lines vs l)
theorem LkS.app {W:List Fm}{j:Bool}{lines more:List Ln}{ln:Ln}{l:List Lk}(h:LkS W j lines ln l):LkS W j (lines++more) ln l :=
 h.imp id λ⟨h1,vs,h2,h3⟩=>⟨h1,vs,h2,h3.app⟩
structure ExS (ca:Nat)(W:List Fm)(s0:Sn)(lines:List Ln)(links:List (List Lk)):Prop where
 start:∃ln,lines[0]?=some ln/\lnW W ln=s0
 ok:∀ln∈lines,LnOk W ln
 rch:∀ln∈lines,Rch (calJ ca) s0 (lnW W ln)
 done:∀(k:Nat) (l:List Lk),links[k]?=some l->∃ln,lines[k]?=some ln/\LkS W (calJ ca) lines ln l
 len:lines.length<=20000
theorem ExS.add {ca:Nat}{W:List Fm}{s0:Sn}{lines:List Ln}{links:List (List Lk)}(h:ExS ca W s0 lines links)(hS:SpOk ca W){ln:Ln}(hl:lines[links.length]?=some ln){l:List Lk}{more:List Ln}(hk:LkS W (calJ ca) (lines++more) ln l)
  (hm:more=[]\/¬ clN W ln) (hp:∀p∈more,yKp W (calJ ca) ln p) (hlen:(lines++more).length<=20000):ExS ca W s0 (lines++more) (links++[l]):=by
 have hlm:=lMg hl;have hpr:∀p∈more,Rch (calJ ca) s0 (lnW W p)/\LnOk W p:=λp hx=>by
  rcases hm with rfl|hc
  ·cases hx
  ·obtain⟨h1,h2,_⟩:=xX6 hS (h.ok ln hlm) (hp p hx) (h.rch ln hlm) hc;exact⟨h1,h2⟩
 have app:∀ {k:Nat} {a:Ln},lines[k]?=some a->(lines++more)[k]?=some a:=λ{k a} hk=>by
  rw[List.getElem?_append_left (lGs hk).1];exact hk
 refine⟨?_,λp hx=>?_,λp hx=>?_,λk l' hk'=>?_,hlen⟩
 ·obtain⟨a,ha,hs⟩:=h.start;exact⟨a,app ha,hs⟩
 ·exact (List.mem_append.1 hx).elim (h.ok p) λhx=>(hpr p hx).2
 ·exact (List.mem_append.1 hx).elim (h.rch p) λhx=>(hpr p hx).1
 ·rcases Nat.lt_or_ge k links.length with hlt|hge
  ·rw[List.getElem?_append_left hlt] at hk';obtain⟨a,ha,hs⟩:=h.done k l' hk';exact⟨a,app ha,hs.app⟩
  ·rw[List.getElem?_append_right hge] at hk';have h0:k-links.length=0:=by
    rcases Nat.eq_zero_or_pos (k-links.length) with h0|h0
    ·exact h0
    ·rw[List.getElem?_eq_none (by simp only[List.length_cons,List.length_nil];omega)] at hk';cases hk'
   rw[h0] at hk';cases hk';obtain rfl:k=links.length:=by omega
   exact⟨ln,app hl,hk⟩
theorem ExS.reach {ca:Nat}{W:List Fm}{s0:Sn}{lines:List Ln}{links:List (List Lk)}(h:ExS ca W s0 lines links)(hS:SpOk ca W)(hn:lines.Nodup)(hl:lines.length<=links.length):ReachOk (calJ ca) s0 (lines.map (lnW W)):=by
 have hdone:∀ln∈lines,∃l,LkS W (calJ ca) lines ln l:=λln hm=>by
  obtain⟨k,hk,rfl⟩:=List.mem_iff_getElem.1 hm;obtain⟨a,ha,hs⟩:=h.done k _ (List.getElem?_eq_getElem (Nat.lt_of_lt_of_le hk hl));rw[List.getElem?_eq_getElem hk] at ha;cases ha;exact⟨_,hs⟩
 refine⟨?_,λs=>⟨λhs=>?_,λhs=>?_⟩,λs hs hc=>?_,by rw[List.length_map];exact h.len⟩
 ·rw[List.nodup_iff_pairwise_ne,List.pairwise_map];exact hn.imp_of_mem λ{a b} ha hb hne he=>hne (xG4 hS.srt (h.ok a ha) (h.ok b hb) he)
 ·obtain⟨ln,hm,rfl⟩:=List.mem_map.1 hs;exact h.rch ln hm
 ·induction hs with
  | refl =>
   obtain⟨a,ha,hs⟩:=h.start;exact List.mem_map.2 ⟨a,lMg ha,hs⟩
  | @step s _ hc m hm p hp ih =>
   obtain⟨ln,hlm,rfl⟩:=List.mem_map.1 ih;obtain⟨l,⟨hcl,_⟩|⟨_,vs,hvs,hlk⟩⟩:=hdone ln hlm
   ·exact absurd ((zQm hS.srt (h.ok ln hlm)).1 hcl) hc
   ·rw[xQa hS (h.ok ln hlm) hvs] at hm;obtain⟨v,hv,rfl⟩:=List.mem_map.1 hm;obtain⟨q,hq,rfl⟩:=List.mem_map.1 hp;obtain⟨i,hi,hvi⟩:=List.mem_iff_getElem.1 hv;obtain⟨k,hk,hlo⟩:=hlk.2 i v (by rw[List.getElem?_eq_getElem hi,hvi]);obtain⟨e,he,hqe⟩:=List.mem_iff_getElem.1 hq;have hek:e<k.2.2.length:=by rw[hlo.2.2.1];exact he
    obtain⟨p',hp1,hp2⟩:=hlo.2.2.2 e _ (List.getElem?_eq_getElem hek);rw[List.getElem?_eq_getElem he,hqe] at hp2;cases hp2;exact List.mem_map.2 ⟨q,lMg hp1,rfl⟩
 ·obtain⟨ln,hlm,rfl⟩:=List.mem_map.1 hs;obtain⟨l,⟨hcl,_⟩|⟨_,vs,hvs,_⟩⟩:=hdone ln hlm
  ·exact absurd ((zQm hS.srt (h.ok ln hlm)).1 hcl) hc
  ·intro hlo;have:=(zQy hS (h.ok ln hlm)).2 hlo;rw[hvs] at this;simp at this
theorem ExS.no5 {ca:Nat}{W:List Fm}{s0:Sn}{lines:List Ln}{links:List (List Lk)}(h:ExS ca W s0 lines links)(hS:SpOk ca W){ln:Ln}(hl:ln∈lines)(hc:¬ clN W ln)(hn:none∈mvsN W (calJ ca) ln):zQ6 (calJ ca) s0 5 :=
 .inr ⟨rfl,lnW W ln,h.rch ln hl,λhx=>hc ((zQm hS.srt (h.ok ln hl)).2 hx),(zQy hS (h.ok ln hl)).1 hn⟩
theorem ExS.no4 {ca:Nat}{W:List Fm}{s0:Sn}{lines:List Ln}{links:List (List Lk)}(h:ExS ca W s0 lines links)(hS:SpOk ca W){ln:Ln}(hl:ln∈lines)(hc:¬ clN W ln){more:List Ln}{p:Ln}(hm:∀q∈more,yKp W (calJ ca) ln q)(hp:yKp W (calJ ca) ln p)
  (hpn:p ∉ lines++more) (hn:(lines++more).Nodup) (hlen:20000<=(lines++more).length):zQ6 (calJ ca) s0 4:=by
 have hall:∀q∈lines++more++[p],Rch (calJ ca) s0 (lnW W q)/\LnOk W q:=λq hq=>by
  have pr:∀q,yKp W (calJ ca) ln q->Rch (calJ ca) s0 (lnW W q)/\LnOk W q:=λq hq=>by
   obtain⟨h1,h2,_⟩:=xX6 hS (h.ok ln hl) hq (h.rch ln hl) hc;exact⟨h1,h2⟩
  rcases List.mem_append.1 hq with hq|hq
  ·rcases List.mem_append.1 hq with hq|hq
   ·exact⟨h.rch q hq,h.ok q hq⟩
   ·exact pr q (hm q hq)
  ·rw[List.mem_singleton.1 hq];exact pr p hp
 have hnd:(lines++more++[p]).Nodup:=List.nodup_append.2 ⟨hn,by simp,λa ha b hb=>by
  rw[List.mem_singleton.1 hb];rintro rfl;exact hpn ha⟩
 refine .inl ⟨rfl,(lines++more++[p]).map (lnW W),?_,λs hs=>?_,by rw[List.length_map,lLa];simp only[List.length_cons,List.length_nil];omega⟩
 ·rw[List.nodup_iff_pairwise_ne,List.pairwise_map];exact hnd.imp_of_mem λ{a b} ha hb hne he=>hne (xG4 hS.srt (hall a ha).2 (hall b hb).2 he)
 ·obtain⟨q,hq,rfl⟩:=List.mem_map.1 hs;exact (hall q hq).1
end Go.Proofs.Tryz
namespace Go.Proofs.Tryz
open Go Go.Iv
set_option maxRecDepth 4000
variable (gl:Nat->Option IV)
noncomputable abbrev spW (s:Sq):List Fm:=setF (yZj (s.l++s.r))
theorem yUa {ca:Nat}{s:Sq}(h:yQx ca s=true):s.l.length<=64/\s.r.length<=64:=by
 unfold yQx at h;simp only[bAt,dTe] at h;exact⟨h.1.1.1.1.2,h.1.1.1.2⟩
theorem xZ6 (G:Gl gl)(ca:Nat)(s:Sq)(x:IV)(hx:IsSq s x)(hs:yYj s)(st:ISt) :
  ICall prog gl 37 [.raw (.int .u8 (ca:Int)),x] st (λr st' =>
   (¬ (ca=1\/ca=2)/\r=.tup [.raw (.pointer none),.raw (.int .i64 2)]/\st'=st)\/((ca=1\/ca=2)/\yQx ca s=false/\r=.tup [.raw (.pointer none),.raw (.int .i64 190)]/\st'=st) \/
   ((ca=1\/ca=2)/\yQx ca s=true/\∃m tw xw,st m=none/\okEs tw 4/\IsFms (spW s) xw/\r=.tup [spI ca tw xw m,.raw (.int .i64 0)]/\st'=st.put m (some (.map .pl [])))):=by
 have hv:=λst=>wQj gl G ca s x hx hs st;have hn:=xKk gl ca s x hx;obtain⟨t1,x1,t2,x2,rfl,e1,i1,e2,i2⟩:=id hx;refine iI func37 ?_;by_cases h1:ca=1
 ·have h1':decide ((ca:Int)=1)=true:=dEt (by omega);have hc:ca=1\/ca=2:=.inl h1;simp only[go_sem,zE,zB,zA,zM,zS,zL,reduceCtorEq,fits,h1'];refine (hv _).mono ?_;rintro _ st ⟨rfl,rfl⟩;rcases Bool.eq_false_or_eq_true (yQx ca s) with hb|hb
  ·obtain⟨_,hcl,_,_⟩:=yKf (ca:=ca) (s:=s) hc hb;simp only[go_sem,zE,zB,zA,zM,zS,zL,reduceCtorEq,fits,show Value.bool (yQx ca s)=.bool true by rw[hb]];refine (hn (Nat.le_trans hcl (by omega)) _).mono ?_;rintro _ _ ⟨m,tw,xw,hm,htw,hxw,rfl,rfl⟩;simp only[go_sem,zE,zB,zA,zM,zS,zL,reduceCtorEq];exact yQ0 (.inr (.inr ⟨hc,hb,m,tw,xw,hm,htw,hxw,rfl,rfl⟩))
  ·simp only[go_sem,zE,zB,zA,zM,zS,zL,reduceCtorEq,show Value.bool (yQx ca s)=.bool false by rw[hb]];exact yQ0 (.inr (.inl ⟨hc,hb,rfl,rfl⟩))
 ·have h1':decide ((ca:Int)=1)=false:=dEf (by omega);by_cases h2:ca=2
  ·have h2':decide ((ca:Int)=2)=true:=dEt (by omega);have hc:ca=1\/ca=2:=.inr h2;simp only[go_sem,zE,zB,zA,zM,zS,zL,reduceCtorEq,fits,h1',h2'];refine (hv _).mono ?_;rintro _ st ⟨rfl,rfl⟩;rcases Bool.eq_false_or_eq_true (yQx ca s) with hb|hb
   ·obtain⟨_,hcl,_,_⟩:=yKf (ca:=ca) (s:=s) hc hb;simp only[go_sem,zE,zB,zA,zM,zS,zL,reduceCtorEq,fits,show Value.bool (yQx ca s)=.bool true by rw[hb]];refine (hn (Nat.le_trans hcl (by omega)) _).mono ?_;rintro _ _ ⟨m,tw,xw,hm,htw,hxw,rfl,rfl⟩;simp only[go_sem,zE,zB,zA,zM,zS,zL,reduceCtorEq];exact yQ0 (.inr (.inr ⟨hc,hb,m,tw,xw,hm,htw,hxw,rfl,rfl⟩))
   ·simp only[go_sem,zE,zB,zA,zM,zS,zL,reduceCtorEq,show Value.bool (yQx ca s)=.bool false by rw[hb]];exact yQ0 (.inr (.inl ⟨hc,hb,rfl,rfl⟩))
  ·have h2':decide ((ca:Int)=2)=false:=dEf (by omega);simp only[go_sem,zE,zB,zA,zM,zS,zL,reduceCtorEq,fits,h1',h2'];exact yQ0 (.inl ⟨by omega,rfl,rfl⟩)
