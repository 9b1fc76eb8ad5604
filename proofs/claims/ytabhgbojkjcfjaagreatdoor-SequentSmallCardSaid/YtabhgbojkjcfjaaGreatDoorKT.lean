/- Walks of the second program: PutTerm. -/
import Derived.Test.YtabhgbojkjcfjaaGreatDoorMC
import Derived.Test.YtabhgbojkjcfjaaGreatDoorKM
set_option linter.all false
open Nat renaming reduceEqDiff → zE,reduceBEq → zB,reduceAdd → zA,reduceMul → zM,reduceLeDiff → zL
namespace Go.Proofs.Tryz
open Go Go.Iv
set_option maxRecDepth 4000
variable (gl:Nat->Option IV)
theorem wY3 {l:Sb}{k:Nat}{p:ByteArray×Tm}{n:ByteArray}(h:l[k]?=some p)(D:yZa (l.take k) n=none)(hp:p.1=n):yZa l n=some p.2:=by
 have h1:l=l.take k++p::l.drop (k+1):=by
  have A:=(lGs h).1
  conv=>lhs;rw[<- List.take_append_drop k l,List.drop_eq_getElem_cons A,(lGs h).2]
 rw[h1,yWq,D];simp[yZa,hp]
theorem wQ6 {l:Sb}{k:Nat}{p:ByteArray×Tm}{n:ByteArray}(h:l[k]?=some p)(A:yZa (l.take k) n=none)(hp:p.1≠n):yZa (l.take (k+1)) n=none:=by
 rw[yQ4 h,yWq,A];simp[yZa,hp]
def RPT (l:Sb)(t:Tm):Prop:=∀(x:IV) (_:IsTm t x) (D:Tag) (A:List IV) (_:okEs D 4) (_:IsOnes l A) (_:t.size<=1099511627776) (_:l.length<=1099511627776) (st:ISt),
 ICall prog gl 217 [x,.sl D A] st (λr st'=>IsTm (yJi (yZa l) t) r/\st'=st)
theorem zUs (l:Sb)(v:Bool)(n:ByteArray)(us:List Tm)(IH:∀a∈us,RPT gl l a):RPT gl l (.mk v n us):=by
 intro x hx tg xs ak ab aA hll st;obtain⟨t1,x1,rfl,av,ac⟩:=hx.mk;simp only[Tm.size] at aA;have aI:=yZu us;refine iI func217 ?_;cases v
 ·simp only[go_sem];refine LoopC.ctr 0 (λk fr st' ds=>fr 1=.iv (.sl tg xs)/\fr 2=.box [.raw (.bool false),.raw (.string n),.sl t1 x1]/\fr 4=.box [.raw (.bool false),.raw (.string ⟨#[]⟩),.sl ⟨true,.nil,0⟩ []]/\fr 5=.iv (.raw (.int .i64 0))/\st'=st/\ds=[]) ?_ ?_ ?_
  ·simp only[go_sem,zE]
  ·intro k _ _ _ h;omega
  ·rintro fr st _ ⟨f1,f2,f4,f5,rfl,rfl⟩;by_cases aK:0<l.length
   ·simp only[go_sem,zE,zA,zL,f1,f2,f5,ab.len,show decide ((0:Int)<(l.length:Int))=true from dEt (by omega)];intros;refine LoopC.ctr us.length (λk fr st' ds=>(∃F ys,fr 6=.box [.raw (.bool false),.raw (.string n),.sl F ys]/\IsTms (yZd (yZa l) (us.take k)) ys/\own st' F k 3 st/\subSt st st') /\
     fr 1=.iv (.sl tg xs)/\fr 2=.box [.raw (.bool false),.raw (.string n),.sl t1 x1]/\fr 4=.box [.raw (.bool false),.raw (.string ⟨#[]⟩),.sl ⟨true,.nil,0⟩ []]/\fr 7=.iv (.raw (.int .i64 k))/\ds=[]) ?_ ?_ ?_
    ·simp only[go_sem,zE,f1,f2,f4];exact⟨⟨_,_,rfl,rfl,own.nil _ _ _ _ _,subSt.refl _⟩,rfl⟩
    ·rintro k fr ae _ D ⟨⟨F,ys,f6,hys,ag,A⟩,f1,f2,f4,f7,rfl⟩;obtain⟨a,ha⟩:=yQ3 D;obtain⟨y,ah,hy⟩:=ac.get ha;have E:=lMg ha;have aa:=IH a E y hy tg xs ak ab (by have:=yWm E;omega) hll ae;have W:ys.length=k:=by rw[hys.len,yZ5,List.length_take];omega
     have U:∀r,IsTm (yJi (yZa l) a) r->IsTms (yZd (yZa l) (us.take (k+1))) (ys++[r]):=λr hr=>by
      rw[yQ4 ha,yX4];exact hys.append (IsTms.one hr)
     obtain⟨v5,n5,t5,x5,rfl⟩:=hy.agg;simp only[go_sem,zE,zB,zA,f1,f2,f6,f7,ac.len,lt_i D,yQ2 av,iNn,ah,fits];intros;refine aa.mono ?_;rintro r _ ⟨hr,rfl⟩;have hn:=U r hr;obtain⟨v6,n6,t6,x6,rfl⟩:=hr.agg;simp only[go_sem,zE,zA,zM,zL,fits,yQ1];refine yZ1 ag W A rfl (by simp[fits,IV.one]) (by simp only;omega) (by omega) λaj az J G _=>?_;simp only[go_sem,zE,zA,zL,f1,f2,f4,f6,f7,yQb D (show us.length<=281474976710656 by omega)];exact⟨aj,_,rfl,hn,J,G⟩
    rintro fr ae _ ⟨⟨ta,xa,f6,af,O,A⟩,f1,f2,f4,f7,rfl⟩;rw[lTl] at af;simp only[go_sem,zE,zA,zL,f2,f4,f6,f7,ac.len,yQj (nLi _)];intros;exact yQc A ⟨⟨ta,xa,rfl,O.es,af⟩,rfl⟩
   ·simp only[go_sem,zE,zA,zL,f1,f2,f5,ab.len,show decide ((0:Int)<(l.length:Int))=false from dEf (by omega)];intros;refine LoopC.ctr us.length (λk fr st' ds=>(∃F ys,fr 6=.box [.raw (.bool false),.raw (.string n),.sl F ys]/\IsTms (yZd (yZa l) (us.take k)) ys/\own st' F k 3 st/\subSt st st') /\
     fr 1=.iv (.sl tg xs)/\fr 2=.box [.raw (.bool false),.raw (.string n),.sl t1 x1]/\fr 4=.box [.raw (.bool false),.raw (.string ⟨#[]⟩),.sl ⟨true,.nil,0⟩ []]/\fr 7=.iv (.raw (.int .i64 k))/\ds=[]) ?_ ?_ ?_
    ·simp only[go_sem,zE,f1,f2,f4];exact⟨⟨_,_,rfl,rfl,own.nil _ _ _ _ _,subSt.refl _⟩,rfl⟩
    ·rintro k fr ae _ D ⟨⟨F,ys,f6,hys,ag,A⟩,f1,f2,f4,f7,rfl⟩;obtain⟨a,ha⟩:=yQ3 D;obtain⟨y,ah,hy⟩:=ac.get ha;have E:=lMg ha;have aa:=IH a E y hy tg xs ak ab (by have:=yWm E;omega) hll ae;have W:ys.length=k:=by rw[hys.len,yZ5,List.length_take];omega
     have U:∀r,IsTm (yJi (yZa l) a) r->IsTms (yZd (yZa l) (us.take (k+1))) (ys++[r]):=λr hr=>by
      rw[yQ4 ha,yX4];exact hys.append (IsTms.one hr)
     obtain⟨v5,n5,t5,x5,rfl⟩:=hy.agg;simp only[go_sem,zE,zB,zA,f1,f2,f6,f7,ac.len,lt_i D,yQ2 av,iNn,ah,fits];intros;refine aa.mono ?_;rintro r _ ⟨hr,rfl⟩;have hn:=U r hr;obtain⟨v6,n6,t6,x6,rfl⟩:=hr.agg;simp only[go_sem,zE,zA,zM,zL,fits,yQ1];refine yZ1 ag W A rfl (by simp[fits,IV.one]) (by simp only;omega) (by omega) λaj az J G _=>?_;simp only[go_sem,zE,zA,zL,f1,f2,f4,f6,f7,yQb D (show us.length<=281474976710656 by omega)];exact⟨aj,_,rfl,hn,J,G⟩
    rintro fr ae _ ⟨⟨ta,xa,f6,af,O,A⟩,f1,f2,f4,f7,rfl⟩;rw[lTl] at af;simp only[go_sem,zE,zA,zL,f2,f4,f6,f7,ac.len,yQj (nLi _)];intros;exact yQc A ⟨⟨ta,xa,rfl,O.es,af⟩,rfl⟩
 ·simp only[go_sem];refine LoopC.ctr l.length (λk fr st' ds=>yZa (l.take k) n=none/\fr 1=.iv (.sl tg xs)/\fr 2=.box [.raw (.bool true),.raw (.string n),.sl t1 x1]/\fr 4=.box [.raw (.bool false),.raw (.string ⟨#[]⟩),.sl ⟨true,.nil,0⟩ []]/\fr 5=.iv (.raw (.int .i64 k))/\st'=st/\ds=[]) ?_ ?_ ?_
  ·simp only[go_sem,zE];exact⟨rfl,rfl⟩
  ·rintro k fr st _ D ⟨al,f1,f2,f4,f5,rfl,rfl⟩;obtain⟨o,ho⟩:=yQ3 D;obtain⟨y,ah,v3,n3,t3,x3,rfl,hy⟩:=ab.get ho;by_cases hn:o.1=n
   ·have hl:=wY3 ho al hn;simp only[go_sem,zE,zB,zA,zL,f1,f2,f4,f5,ab.len,lt_i D,yQ2 ak,iNn,ah,fits,dEt hn];intros;refine yQ0 ⟨?_,rfl⟩;simp only[yJi,hl];exact hy
   ·simp only[go_sem,zE,zA,f1,f2,f4,f5,ab.len,lt_i D,yQ2 ak,iNn,ah,fits,dEf hn,yQb D (show l.length<=281474976710656 by omega)];intros;exact wQ6 ho al hn
  ·rintro fr st _ ⟨al,f1,f2,f4,f5,rfl,rfl⟩;rw[lTl] at al;simp only[go_sem,zE,zA,zL,f1,f2,f5,ab.len,yQj (nLi _),fits];intros;refine LoopC.ctr us.length (λk fr st' ds=>(∃F ys,fr 6=.box [.raw (.bool true),.raw (.string n),.sl F ys]/\IsTms (yZd (yZa l) (us.take k)) ys/\own st' F k 3 st/\subSt st st') /\
    fr 1=.iv (.sl tg xs)/\fr 2=.box [.raw (.bool true),.raw (.string n),.sl t1 x1]/\fr 4=.box [.raw (.bool false),.raw (.string ⟨#[]⟩),.sl ⟨true,.nil,0⟩ []]/\fr 7=.iv (.raw (.int .i64 k))/\ds=[]) ?_ ?_ ?_
   ·simp only[go_sem,zE,f1,f2,f4];exact⟨⟨_,_,rfl,rfl,own.nil _ _ _ _ _,subSt.refl _⟩,rfl⟩
   ·rintro k fr ae _ D ⟨⟨F,ys,f6,hys,ag,A⟩,f1,f2,f4,f7,rfl⟩;obtain⟨a,ha⟩:=yQ3 D;obtain⟨y,ah,hy⟩:=ac.get ha;have E:=lMg ha;have aa:=IH a E y hy tg xs ak ab (by have:=yWm E;omega) hll ae;have W:ys.length=k:=by rw[hys.len,yZ5,List.length_take];omega
    have U:∀r,IsTm (yJi (yZa l) a) r->IsTms (yZd (yZa l) (us.take (k+1))) (ys++[r]):=λr hr=>by
     rw[yQ4 ha,yX4];exact hys.append (IsTms.one hr)
    obtain⟨v5,n5,t5,x5,rfl⟩:=hy.agg;simp only[go_sem,zE,zB,zA,f1,f2,f6,f7,ac.len,lt_i D,yQ2 av,iNn,ah,fits];intros;refine aa.mono ?_;rintro r _ ⟨hr,rfl⟩;have hn:=U r hr;obtain⟨v6,n6,t6,x6,rfl⟩:=hr.agg;simp only[go_sem,zE,zA,zM,zL,fits,yQ1];refine yZ1 ag W A rfl (by simp[fits,IV.one]) (by simp only;omega) (by omega) λaj az J G _=>?_;simp only[go_sem,zE,zA,zL,f1,f2,f4,f6,f7,yQb D (show us.length<=281474976710656 by omega)];exact⟨aj,_,rfl,hn,J,G⟩
   rintro fr ae _ ⟨⟨ta,xa,f6,af,O,A⟩,f1,f2,f4,f7,rfl⟩;rw[lTl] at af;simp only[go_sem,zE,zA,zL,f2,f4,f6,f7,ac.len,yQj (nLi _)];intros;refine yQc A ⟨?_,rfl⟩;simp only[yJi,al];exact⟨ta,xa,rfl,O.es,af⟩
theorem zJ5 (l:Sb):∀(k:Nat) (t:Tm),SizeOf.sizeOf t<k->RPT gl l t
 | 0,f,h=>by omega
 | k+1,.mk v n us,h=>zUs gl l v n us (λa A=>zJ5 l k a (by
   have:=lSm A;simp at h;omega))
theorem zG0 (l:Sb)(t:Tm):RPT gl l t:=zJ5 gl l _ t (Nat.lt_succ_self _)
