/- Walks of the second program: put. -/
import Derived.Test.YtabhgbojkjcfjaaGreatDoorKT
import Derived.Test.YtabhgbojkjcfjaaGreatDoorKN
import Derived.Test.YtabhgbojkjcfjaaGreatDoorKC
set_option linter.all false
open Nat renaming reduceEqDiff → zE,reduceBEq → zB,reduceAdd → zA,reduceMul → zM,reduceLeDiff → zL
namespace Go.Proofs.Tryz
open Go Go.Iv
set_option maxRecDepth 4000
variable (gl:Nat->Option IV)
theorem IsOnes.append:∀ {l m:Sb}{A ys:List IV},IsOnes l A->IsOnes m ys->IsOnes (l++m) (A++ys)
 | [],m,A,ys,h,k=>by simp only[IsOnes] at h;subst h;exact k
 | a::l,m,A,ys,h,k=>by
  simp only[IsOnes] at h;obtain⟨y,zs,rfl,D,h⟩:=h;exact⟨y,zs++ys,rfl,D,IsOnes.append h k⟩
theorem IsOnes.one {a:ByteArray×Tm}{x:IV}(h:vXp a x):IsOnes [a] [x]:=⟨x,[],rfl,h,rfl⟩
theorem zGn {L r:List ByteArray}(h:SortedOf L r)(s:ByteArray):hasB r s=memB L s:=by
 rw[Bool.eq_iff_iff,yXj,<- h.2 s];simp[hasB]
theorem wYs {l:Sb}{k:Nat}{p:ByteArray×Tm}{m:ByteArray}{fr:List ByteArray}(h:l[k]?=some p):cntS (l.take (k+1)) m fr=cntS (l.take k) m fr++if memB fr p.1&&!decide (p.1=m) then [p] else []:=by
 rw[yQ4 h];unfold cntS;rw[List.filter_append];congr 1;simp only[List.filter_cons,List.filter_nil]
theorem wKs {l:Sb}{m:ByteArray}{fr:List ByteArray}{p:ByteArray×Tm}(h:p∈cntS l m fr):p∈l/\p.1∈fr:=by
 unfold cntS at h;rw[List.mem_filter,bAt,yXj] at h;exact⟨h.1,h.2.1⟩
theorem wKt (l:Sb)(m:ByteArray)(fr:List ByteArray):(cntS l m fr).length<=l.length:=List.length_filter_le _ _
theorem xGg {c:Sb}{M:Nat}(h:∀p∈c,p.2.size<=M):(c.flatMap λp=>yQo p.2).length<=c.length*M:=by
 induction c with
 | nil=>simp
 | cons a c A =>
  rw[List.flatMap_cons,lLa,List.length_cons,Nat.add_mul];have h1:=A λp hp=>h p (List.mem_cons_of_mem _ hp);have h2:=yV5 a.2;have D:=h a (List.mem_cons_self ..);omega
def RPF (f:Fm):Prop:=∀(x:IV) (_:IsFm f x) (_:f.ok=true) (l:Sb) (D:Tag) (A:List IV) (_:okEs D 4) (_:IsOnes l A) (_:∀p∈l,p.2.size<=1000000) (_:l.length+f.size<=1000000) (st:ISt),
 ICall prog gl 163 [x,.sl D A] st (λr st'=>IsFm (yJn l f) r/\st'=st)
theorem wX8 (op:Nat)(n:ByteArray)(us:List Tm)(sub:List Fm)(IH:∀a∈sub,RPF gl a):RPF gl (.mk op n us sub):=by
 intro x hx bl l tg xs aD aC bo hll st;have b2:=hx;obtain⟨t1,x1,t2,x2,rfl,a1,bx,aT,aO,am⟩:=hx.mk;obtain⟨bW,aJ,bV⟩:=yY1 bl;simp only[Fm.size] at hll;have bT:=yZu us;have bS:=yV6 sub;refine iI func163 ?_;simp only[go_sem,zE,zA,zL,fits];refine LoopC.ctr us.length (λk fr st' ds=>(∃U ys,fr 5=.box [.raw (.int .u8 op),.raw (.string n),.sl U ys,.sl ⟨true,.nil,0⟩ []]/\IsTms (yZd (yZa l) (us.take k)) ys/\own st' U k 3 st/\subSt st st') /\
  fr 1=.iv (.sl tg xs)/\fr 2=.box [.raw (.int .u8 op),.raw (.string n),.sl t1 x1,.sl t2 x2]/\fr 4=.box [.raw (.int .u8 0),.raw (.string ⟨#[]⟩),.sl ⟨true,.nil,0⟩ [],.sl ⟨true,.nil,0⟩ []]/\fr 6=.iv (.raw (.int .i64 k))/\ds=[]) ?_ ?_ ?_
 ·simp only[go_sem,zE];exact⟨⟨_,_,rfl,rfl,own.nil _ _ _ _ _,subSt.refl _⟩,rfl⟩
 ·rintro k fr au _ E ⟨⟨U,ys,f5,hys,F,ak⟩,f1,f2,f4,f6,rfl⟩;obtain⟨a,ha⟩:=yQ3 E;obtain⟨y,ac,hy⟩:=aT.get ha;have O:=lMg ha;have ab:=zG0 gl l a y hy tg xs aD aC (by have:=yWm O;omega) (by omega) au;have aa:ys.length=k:=by rw[hys.len,yZ5,List.length_take];omega
  have W:∀r,IsTm (yJi (yZa l) a) r->IsTms (yZd (yZa l) (us.take (k+1))) (ys++[r]):=λr hr=>by
   rw[yQ4 ha,yX4];exact hys.append (IsTms.one hr)
  obtain⟨v5,n5,t5,x5,rfl⟩:=hy.agg;simp only[go_sem,zE,zB,zA,f1,f2,f5,f6,aT.len,lt_i E,yQ2 bx,iNn,ac,fits];intros;refine ab.mono ?_;rintro r _ ⟨hr,rfl⟩;have hn:=W r hr;obtain⟨v6,n6,t6,x6,rfl⟩:=hr.agg;simp only[go_sem,zE,zA,zM,zL,fits,yQ1];refine yZ1 F aa ak rfl (by simp[fits,IV.one]) (by simp only;omega) (by omega) λah af A G _=>?_;simp only[go_sem,zE,zA,zL,f1,f2,f4,f5,f6,yQb E (show us.length<=281474976710656 by omega)];exact⟨ah,_,rfl,hn,A,G⟩
 rintro fr au _ ⟨⟨ta,xa,f5,aN,aZ,ak⟩,f1,f2,f4,f6,rfl⟩;rw[lTl] at aN;have aU:=aZ.es;simp only[go_sem,zE,zA,zL,f2,f6,aT.len,yQj (nLi _)];intros;refine (xZ3 gl op n _ _ _ _ _).mono ?_;rintro _ au ⟨rfl,rfl⟩;cases hq:isQ op
 ·simp only[go_sem];refine LoopC.ctr sub.length (λk fr st' ds=>(∃U ys,fr 5=.box [.raw (.int .u8 op),.raw (.string n),.sl ta xa,.sl U ys]/\IsFms (yXu l (sub.take k)) ys/\own st' U k 4 au/\subSt au st') /\
   fr 1=.iv (.sl tg xs)/\fr 2=.box [.raw (.int .u8 op),.raw (.string n),.sl t1 x1,.sl t2 x2]/\fr 4=.box [.raw (.int .u8 0),.raw (.string ⟨#[]⟩),.sl ⟨true,.nil,0⟩ [],.sl ⟨true,.nil,0⟩ []]/\fr 14=.iv (.raw (.int .i64 k))/\ds=[]) ?_ ?_ ?_
  ·simp only[go_sem,zE,f1,f2,f4,f5];exact⟨⟨_,_,rfl,rfl,own.nil _ _ _ _ _,subSt.refl _⟩,rfl⟩
  ·rintro k fr al _ E ⟨⟨U,ys,f5,hys,F,D⟩,f1,f2,f4,f14,rfl⟩;obtain⟨a,ha⟩:=yQ3 E;obtain⟨y,ac,hy⟩:=am.get ha;have O:=lMg ha;obtain⟨h1,h2⟩:=yX2 ha;have ab:=IH a O y hy (yZq aJ O) l tg xs aD aC bo (by omega) al;have aa:ys.length=k:=by rw[hys.len,yXt,List.length_take];omega
   have W:∀r,IsFm (yJn l a) r->IsFms (yXu l (sub.take (k+1))) (ys++[r]):=λr hr=>by
    rw[yQ4 ha,yK3];exact hys.append (IsFms.one hr)
   obtain⟨o5,n5,t5,x5,t6,x6,rfl⟩:=hy.agg;simp only[go_sem,zE,zB,zA,f1,f2,f5,f14,am.len,lt_i E,yQ2 aO,iNn,ac,fits];intros;refine ab.mono ?_;rintro r _ ⟨hr,rfl⟩;have hn:=W r hr;obtain⟨o7,n7,t7,x7,t8,x8,rfl⟩:=hr.agg;simp only[go_sem,zE,zA,zM,zL,fits,yQ1];refine yZ1 F aa D rfl (by simp[fits,IV.one]) (by simp only;omega) (by omega) λah st4 A aj _=>?_;simp only[go_sem,zE,zA,zL,f1,f2,f4,f5,f14,yQb E (show sub.length<=281474976710656 by omega)];exact⟨ah,_,rfl,hn,A,aj⟩
  rintro fr al _ ⟨⟨tb,xb,f5,av,F,D⟩,f1,f2,f4,f14,rfl⟩;rw[lTl] at av;simp only[go_sem,zE,zA,zL,f2,f4,f5,f14,am.len,yQj (nLi _)];intros;refine yQc (ak.trans D) ⟨?_,rfl⟩;exact⟨ta,xa,tb,xb,by simp[hq],a1,aU,aN,F.es,by simpa[hq] using av⟩
 ·obtain⟨rfl,b3,s,aH,bR⟩:=wWs hq bl;obtain⟨z,bw,hz⟩:∃z,x2[0]?=some z/\IsFm s z:=am.get (by rw[aH];rfl);have bB:frFs sub=frF s:=by rw[aH];simp[frFs]
  have bQ:s.size<=1000000:=by
   have:yQ9 sub=s.size:=by rw[aH];simp[yQ9]
   omega
  have bu:=hz;obtain⟨os,ns,tu,xu,tv,xv,rfl⟩:=hz.agg;simp only[go_sem,zE,zB,zA,f2,fits,yQ2 aO,show x2[Int.toNat 0]?=some _ from bw];refine (xV4 gl s _ bu (by omega) _).mono ?_;rintro _ au ⟨ti,aA,rfl,bj,ba,rfl⟩;have b0:=ba.len;have b5:=zJk s;simp only[go_sem,zE];refine LoopC.ctr l.length (λk fr st' ds=>(∃tc zc tt rt,fr 8=.iv (.sl tc zc)/\IsOnes (cntS (l.take k) n (frF s)) zc/\own st' tc (cntS (l.take k) n (frF s)).length 4 au/\subSt au st'/\fr 9=.iv (.sl tt (strI rt))/\okEs tt 1/\SortedOf (frF s++(cntS (l.take k) n (frF s)).map (·.1)) rt) /\
   fr 1=.iv (.sl tg xs)/\fr 2=.box [.raw (.int .u8 op),.raw (.string n),.sl t1 x1,.sl t2 x2]/\fr 4=.box [.raw (.int .u8 0),.raw (.string ⟨#[]⟩),.sl ⟨true,.nil,0⟩ [],.sl ⟨true,.nil,0⟩ []] /\
   fr 5=.box [.raw (.int .u8 op),.raw (.string n),.sl ta xa,.sl ⟨true,.nil,0⟩ []]/\fr 7=.iv (.sl ti (strI aA))/\fr 10=.iv (.raw (.int .i64 k))/\ds=[]) ?_ ?_ ?_
  ·simp only[go_sem,zE,f1,f2,f4,f5];exact⟨⟨_,_,_,_,rfl,rfl,own.nil _ _ _ _ _,subSt.refl _,rfl,bj,by simpa[cntS] using ba⟩,rfl⟩
  ·rintro k fr af _ E ⟨⟨tc,zc,tt,rt,f8,ag,A,G,f9,ao,ai⟩,f1,f2,f4,f5,f7,f10,rfl⟩;obtain⟨o,ho⟩:=yQ3 E;obtain⟨y,ac,v3,n3,t3,x3,rfl,hy⟩:=aC.get ho;have J:=wYs (m:=n) (fr:=frF s) ho;have aL:=wKt (l.take k) n (frF s);rw[List.length_take] at aL;by_cases hn:o.1=n
   ·rw[dEt hn,Bool.not_true,Bool.and_false] at J;simp only[bFt,if_false,List.append_nil] at J;simp only[go_sem,zE,f1,f2,f4,f5,f7,f8,f9,f10,aC.len,lt_i E,yQ2 aD,iNn,ac,fits,dEt hn,yQb E (show l.length<=281474976710656 by omega)];intros;exact⟨tc,zc,tt,rt,rfl,by rw[J];exact ag,by rw[J];exact A,G,rfl,ao,by rw[J];exact ai⟩
   ·simp only[go_sem,zE,zA,f1,f2,f7,f10,aC.len,lt_i E,yQ2 aD,iNn,ac,fits,dEf hn];intros;refine (wZ3 gl ti aA o.1 bj (by omega) _).mono ?_;rintro _ af ⟨rfl,rfl⟩;have ae:=zGn ba o.1;rw[dEf hn,Bool.not_false,Bool.and_true] at J;cases hb:memB (frF s) o.1
    ·rw[hb] at ae J;simp only[bFt,if_false,List.append_nil] at J;simp only[go_sem,zE,f1,f2,f4,f5,f7,f8,f9,f10,ae,yQb E (show l.length<=281474976710656 by omega)];exact⟨tc,zc,tt,rt,rfl,by rw[J];exact ag,by rw[J];exact A,G,rfl,ao,by rw[J];exact ai⟩
    ·rw[hb] at ae J;simp only[if_true] at J;simp only[go_sem,zE,zB,zA,zM,zL,f1,f8,f10,fits,ae,yQ1,yQ2 aD,iNn,ac];refine yZ1 A ag.len G rfl (by simp[fits,IV.one]) (by simp only;omega) (by omega) λah al aY D _=>?_;simp only[go_sem,zE,zA,f1,f9,f10,fits,yQ2 aD,iNn,ac];refine (zK5 gl _ rt tt ao ai (by simp only[lLa,List.length_map];omega) o.1 _).mono ?_;rintro _ al ⟨t9,r9,rfl,aG,aI,rfl⟩;simp only[go_sem,zE,f1,f2,f4,f5,f7,f10,yQb E (show l.length<=281474976710656 by omega)];refine⟨ah,_,t9,r9,rfl,?_,?_,D,rfl,aG,?_⟩
     ·rw[J];exact ag.append (IsOnes.one ⟨v3,n3,t3,x3,rfl,hy⟩)
     ·rw[J,lLa];exact aY
     ·rw[J,List.map_append,<- List.append_assoc];exact aI
  ·rintro fr af _ ⟨⟨tc,zc,tt,rt,f8,ag,A,G,f9,ao,ai⟩,f1,f2,f4,f5,f7,f10,rfl⟩;rw[lTl] at ag A ai;have aL:=wKt l n (frF s);have aK:∀p∈cntS l n (frF s),p.2.size<=1000000:=λp hp=>bo p (wKs hp).1;have bC:∀p∈cntS l n (frF s),p.1∈frF s:=λp hp=>(wKs hp).2;have aw:yJk l n (frFs sub)=if (cntS l n (frF s)).any (λp=>memB (yQo p.2) n) then (yJc (frF s++(cntS l n (frF s)).flatMap λp=>yQo p.2),cntS l n (frF s)++[(n,.mk true (yJc (frF s++(cntS l n (frF s)).flatMap λp=>yQo p.2)) [])]) else (n,cntS l n (frF s)):=by
    rw[bB];rfl
   generalize cntS l n (frF s)=cs at *;simp only[go_sem,zE,f1,f10,aC.len,yQj (nLi _)];intros;refine LoopC.ctr cs.length (λk fr st' ds=>(∃tt rt,fr 9=.iv (.sl tt (strI rt))/\okEs tt 1/\SortedOf (frF s++cs.map (·.1)++(cs.take k).flatMap λp=>yQo p.2) rt)/\fr 11=.iv (.raw (.bool ((cs.take k).any λp=>memB (yQo p.2) n))) /\
    fr 1=.iv (.sl tg xs)/\fr 2=.box [.raw (.int .u8 op),.raw (.string n),.sl t1 x1,.sl t2 x2]/\fr 4=.box [.raw (.int .u8 0),.raw (.string ⟨#[]⟩),.sl ⟨true,.nil,0⟩ [],.sl ⟨true,.nil,0⟩ []] /\
    fr 5=.box [.raw (.int .u8 op),.raw (.string n),.sl ta xa,.sl ⟨true,.nil,0⟩ []]/\fr 8=.iv (.sl tc zc)/\fr 12=.iv (.raw (.int .i64 k))/\st'=af/\ds=[]) ?_ ?_ ?_
   ·simp only[go_sem,zE,f1,f2,f4,f5,f8,f9];exact⟨⟨_,_,rfl,ao,by simpa using ai⟩,rfl,rfl⟩
   ·rintro k fr af _ E ⟨⟨tt,rt,f9,ao,ai⟩,f11,f1,f2,f4,f5,f8,f12,rfl,rfl⟩;obtain⟨o,ho⟩:=yQ3 E;obtain⟨y,ac,v3,n3,t3,x3,rfl,hy⟩:=ag.get ho;have bU:=aK o (lMg ho);have bD:=xGg (c:=cs.take k) (M:=1000000) (λp hp=>aK p (List.mem_of_mem_take hp));have b1:(cs.take k).length<=cs.length:=by rw[List.length_take];omega
    have b4:=yV5 o.2;have bX:(cs.take k).length*1000000+1000000<=1000000*1000000:=by omega
    simp only[go_sem,zE,zB,zA,zL,f8,f12,ag.len,lt_i E,yQ2 A.es,iNn,ac,fits];intros;refine (zV4 gl o.2 _ hy (by omega) _).mono ?_;rintro _ af ⟨t4,l4,rfl,bk,a8,rfl⟩;have bZ:=a8.len;simp only[go_sem,zE,zA,f2];refine (wZ3 gl t4 l4 n bk (by omega) _).mono ?_;rintro _ af ⟨rfl,rfl⟩;have ae:=zGn a8 n;have bn:∀st,ICall prog gl 220 [.sl tt (strI rt),.sl t4 (strI l4)] st (zWp (frF s++cs.map (·.1)++(cs.take k).flatMap (λp=>yQo p.2)++l4) st):=λst=>xQa gl _ rt tt ao ai l4 t4 bk (by
     simp only[lLa,List.length_map];omega) st
    have bm:∀r,SortedOf (frF s++cs.map (·.1)++(cs.take k).flatMap (λp=>yQo p.2)++l4) r->SortedOf (frF s++cs.map (·.1)++(cs.take (k+1)).flatMap λp=>yQo p.2) r:=λr hr=>by
     refine hr.congr λx=>?_;rw[yQ4 ho,List.flatMap_append];simp only[List.mem_append,List.flatMap_cons,List.flatMap_nil,List.append_nil,a8.2 x];exact or_assoc
    have aB:(cs.take (k+1)).any (λp=>memB (yQo p.2) n)=((cs.take k).any (λp=>memB (yQo p.2) n) || memB (yQo o.2) n):=by rw[yQ4 ho,List.any_append];simp
    cases hb:memB (yQo o.2) n
    ·rw[hb] at ae aB;simp only[go_sem,zE,zA,f9,ae];refine (bn _).mono ?_;rintro _ af ⟨t9,r9,rfl,aG,aI,rfl⟩;simp only[go_sem,zE,f1,f2,f4,f5,f8,f11,f12,yQb E (show cs.length<=281474976710656 by omega)];exact⟨⟨t9,r9,rfl,aG,bm _ aI⟩,by rw[aB,Bool.or_false]⟩
    ·rw[hb] at ae aB;simp only[go_sem,zE,zA,f9,ae];refine (bn _).mono ?_;rintro _ af ⟨t9,r9,rfl,aG,aI,rfl⟩;simp only[go_sem,zE,f1,f2,f4,f5,f8,f12,yQb E (show cs.length<=281474976710656 by omega)];exact⟨⟨t9,r9,rfl,aG,bm _ aI⟩,by rw[aB,Bool.or_true]⟩
   ·rintro fr af _ ⟨⟨tt,rt,f9,ao,ai⟩,f11,f1,f2,f4,f5,f8,f12,rfl,rfl⟩;rw[lTl] at ai f11;have bA:yJc rt=yJc (frF s++cs.flatMap λp=>yQo p.2):=yGx λx=>by
     rw[ai.2 x];simp only[List.mem_append];constructor
     ·rintro ((h|h)|h)
      ·exact .inl h
      ·obtain⟨p,hp,rfl⟩:=List.mem_map.1 h;exact .inl (bC p hp)
      ·exact .inr h
     ·rintro (h|h)
      ·exact .inl (.inl h)
      ·exact .inr h
    have bz:=ai.len;have bD:=xGg (c:=cs) (M:=1000000) aK;simp only[lLa,List.length_map] at bz;cases hc:cs.any λp=>memB (yQo p.2) n
    ·rw[hc] at f11 aw;simp only[bFt,if_false] at aw;simp only[go_sem,zE,f8,f11,f12,ag.len,yQj (nLi _)];intros;refine LoopC.ctr sub.length (λk fr st' ds=>(∃U ys,fr 5=.box [.raw (.int .u8 op),.raw (.string n),.sl ta xa,.sl U ys]/\IsFms (yXu cs (sub.take k)) ys/\own st' U k 4 af/\subSt af st') /\
      fr 1=.iv (.sl tc zc)/\fr 2=.box [.raw (.int .u8 op),.raw (.string n),.sl t1 x1,.sl t2 x2]/\fr 4=.box [.raw (.int .u8 0),.raw (.string ⟨#[]⟩),.sl ⟨true,.nil,0⟩ [],.sl ⟨true,.nil,0⟩ []]/\fr 14=.iv (.raw (.int .i64 k))/\ds=[]) ?_ ?_ ?_
     ·simp only[go_sem,zE,f2,f4,f5];exact⟨⟨_,_,rfl,rfl,own.nil _ _ _ _ _,subSt.refl _⟩,rfl⟩
     ·rintro k fr al _ E ⟨⟨U,ys,f5,hys,F,D⟩,f1,f2,f4,f14,rfl⟩;obtain⟨a,ha⟩:=yQ3 E;obtain⟨y,ac,hy⟩:=am.get ha;have O:=lMg ha;obtain⟨h1,h2⟩:=yX2 ha;have ab:=IH a O y hy (yZq aJ O) cs tc zc A.es ag aK (by omega) al;have aa:ys.length=k:=by rw[hys.len,yXt,List.length_take];omega
      have W:∀r,IsFm (yJn cs a) r->IsFms (yXu cs (sub.take (k+1))) (ys++[r]):=λr hr=>by
       rw[yQ4 ha,yK3];exact hys.append (IsFms.one hr)
      obtain⟨o5,n5,t5,x5,t6,x6,rfl⟩:=hy.agg;simp only[go_sem,zE,zB,zA,f1,f2,f5,f14,am.len,lt_i E,yQ2 aO,iNn,ac,fits];intros;refine ab.mono ?_;rintro r _ ⟨hr,rfl⟩;have hn:=W r hr;obtain⟨o7,n7,t7,x7,t8,x8,rfl⟩:=hr.agg;simp only[go_sem,zE,zA,zM,zL,fits,yQ1];refine yZ1 F aa D rfl (by simp[fits,IV.one]) (by simp only;omega) (by omega) λah st4 A aj _=>?_;simp only[go_sem,zE,zA,zL,f1,f2,f4,f5,f14,yQb E (show sub.length<=281474976710656 by omega)];exact⟨ah,_,rfl,hn,A,aj⟩
     rintro fr al _ ⟨⟨tb,xb,f5,av,F,D⟩,f1,f2,f4,f14,rfl⟩;rw[lTl] at av;simp only[go_sem,zE,zA,zL,f2,f4,f5,f14,am.len,yQj (nLi _)];intros;refine yQc ((ak.trans G).trans D) ⟨?_,rfl⟩;exact⟨ta,xa,tb,xb,by simp[hq,aw],a1,aU,aN,F.es,by simpa[hq,aw] using av⟩
    ·rw[hc] at f11 aw;simp only[if_true] at aw;simp only[go_sem,zE,zA,f8,f9,f11,f12,ag.len,yQj (nLi _)];intros;refine (xY6 gl tt ao rt (by omega) _).mono ?_;rintro _ af ⟨rfl,rfl⟩;rw[bA];simp only[go_sem,zE,zA,zM,zL,f2,f5,f8,fits,yQ1];refine yZ1 A ag.len G rfl (by simp[fits,IV.one]) (by simp only;omega) (by omega) λah bg aX aV _=>?_;simp only[go_sem];generalize yJc (frF s++cs.flatMap λp=>yQo p.2)=new at *;have a6:IsOnes (cs++[(n,Tm.mk true new [])]) (zc++[.agg [.raw (.string n),.raw (.bool true),.raw (.string new),.sl ⟨true,.nil,0⟩ []]]):=ag.append (IsOnes.one ⟨_,_,_,_,rfl,_,[],rfl,.inl rfl,rfl⟩);have bp:∀p∈cs++[(n,Tm.mk true new [])],p.2.size<=1000000:=λp hp=>by
      rcases List.mem_append.1 hp with hp|hp
      ·exact aK p hp
      ·rw[List.mem_singleton] at hp;subst hp;simp[Tm.size,yQa]
     have bY:(cs++[(n,Tm.mk true new [])]).length=cs.length+1:=by simp
     refine LoopC.ctr sub.length (λk fr st' ds=>(∃U ys,fr 5=.box [.raw (.int .u8 op),.raw (.string new),.sl ta xa,.sl U ys]/\IsFms (yXu (cs++[(n,Tm.mk true new [])]) (sub.take k)) ys/\own st' U k 4 bg/\subSt bg st') /\
      fr 1=.iv (.sl ah (zc++[.agg [.raw (.string n),.raw (.bool true),.raw (.string new),.sl ⟨true,.nil,0⟩ []]]))/\fr 2=.box [.raw (.int .u8 op),.raw (.string n),.sl t1 x1,.sl t2 x2]/\fr 4=.box [.raw (.int .u8 0),.raw (.string ⟨#[]⟩),.sl ⟨true,.nil,0⟩ [],.sl ⟨true,.nil,0⟩ []]/\fr 14=.iv (.raw (.int .i64 k))/\ds=[]) ?_ ?_ ?_
     ·simp only[go_sem,zE,f2,f4];exact⟨⟨_,_,rfl,rfl,own.nil _ _ _ _ _,subSt.refl _⟩,rfl⟩
     ·rintro k fr al _ E ⟨⟨U,ys,f5,hys,F,D⟩,f1,f2,f4,f14,rfl⟩;obtain⟨a,ha⟩:=yQ3 E;obtain⟨y,ac,hy⟩:=am.get ha;have O:=lMg ha;obtain⟨h1,h2⟩:=yX2 ha;have ab:=IH a O y hy (yZq aJ O) (cs++[(n,Tm.mk true new [])]) ah (zc++[.agg [.raw (.string n),.raw (.bool true),.raw (.string new),.sl ⟨true,.nil,0⟩ []]]) aX.es a6 bp (by omega) al;have aa:ys.length=k:=by rw[hys.len,yXt,List.length_take];omega
      have W:∀r,IsFm (yJn (cs++[(n,Tm.mk true new [])]) a) r->IsFms (yXu (cs++[(n,Tm.mk true new [])]) (sub.take (k+1))) (ys++[r]):=λr hr=>by
       rw[yQ4 ha,yK3];exact hys.append (IsFms.one hr)
      obtain⟨o5,n5,t5,x5,t6,x6,rfl⟩:=hy.agg;simp only[go_sem,zE,zB,zA,f1,f2,f5,f14,am.len,lt_i E,yQ2 aO,iNn,ac,fits];intros;refine ab.mono ?_;rintro r _ ⟨hr,rfl⟩;have hn:=W r hr;obtain⟨o7,n7,t7,x7,t8,x8,rfl⟩:=hr.agg;simp only[go_sem,zE,zA,zM,zL,fits,yQ1];refine yZ1 F aa D rfl (by simp[fits,IV.one]) (by simp only;omega) (by omega) λah st4 A aj _=>?_;simp only[go_sem,zE,zA,zL,f1,f2,f4,f5,f14,yQb E (show sub.length<=281474976710656 by omega)];exact⟨ah,_,rfl,hn,A,aj⟩
     rintro fr al _ ⟨⟨tb,xb,f5,av,F,D⟩,f1,f2,f4,f14,rfl⟩;rw[lTl] at av;simp only[go_sem,zE,zA,zL,f2,f4,f5,f14,am.len,yQj (nLi _)];intros;refine yQc ((ak.trans aV).trans D) ⟨?_,rfl⟩;exact⟨ta,xa,tb,xb,by simp[hq,aw],a1,aU,aN,F.es,by simpa[hq,aw] using av⟩
theorem xWx:∀(k:Nat)(t:Fm),SizeOf.sizeOf t<k->RPF gl t
 | 0,f,h=>by omega
 | k+1,.mk o n us sub,h=>wX8 gl o n us sub (λa A=>xWx k a (by
   have:=lSm A;simp at h;omega))
theorem vKp (t:Fm):RPF gl t:=xWx gl _ t (Nat.lt_succ_self _)
