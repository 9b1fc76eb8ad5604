/- Walks of the second program: PutTerm. -/
import Derived.Test.YtnknaopjcifoaaaGreatDoorMC
import Derived.Test.YtnknaopjcifoaaaGreatDoorKM
set_option linter.all false
open Nat renaming reduceEqDiff → zE,reduceBEq → zB,reduceAdd → zA,reduceMul → zM,reduceLeDiff → zL
namespace Go.Proofs.Tryz
open Go Go.Iv
set_option maxRecDepth 4000
variable (gl:Nat->Option IV)
theorem wKf {l:Sb}{k:Nat}{p:ByteArray×Tm}{n:ByteArray}(h:l[k]?=some p)(hn:yZ9 (l.take k) n=none)(hp:p.1=n):yZ9 l n=some p.2:=by
 have h1:l=l.take k++p::l.drop (k+1):=by
  have hlt:=(lGs h).1
  conv=>lhs;rw[<- List.take_append_drop k l,List.drop_eq_getElem_cons hlt,(lGs h).2]
 rw[h1,yW4,hn];simp[yZ9,hp]
theorem xYo {l:Sb}{k:Nat}{p:ByteArray×Tm}{n:ByteArray}(h:l[k]?=some p)(hn:yZ9 (l.take k) n=none)(hp:p.1≠n):yZ9 (l.take (k+1)) n=none:=by
 rw[yQ5 h,yW4,hn];simp[yZ9,hp]
def RPT (l:Sb)(t:Tm):Prop:=∀(x:IV) (_:IsTm t x) (tg:Tag) (xs:List IV) (_:okEs tg 4) (_:IsOnes l xs) (_:t.size<=1099511627776) (_:l.length<=1099511627776) (st:ISt),
 ICall prog gl 247 [x,.sl tg xs] st (λr st'=>IsTm (yJq (yZ9 l) t) r/\st'=st)
theorem zYl (l:Sb)(v:Bool)(n:ByteArray)(us:List Tm)(IH:∀a∈us,RPT gl l a):RPT gl l (.mk v n us):=by
 intro x hx tg xs htg hxs hsz hll st;obtain⟨t1,x1,rfl,ht1,hx1⟩:=hx.mk;simp only[Tm.size] at hsz;have hlsz:=yZx us;refine iI func247 ?_;cases v
 ·simp only[go_sem];refine LoopC.ctr 0 (λk fr st' ds=>fr 1=.iv (.sl tg xs)/\fr 2=.box [.raw (.bool false),.raw (.string n),.sl t1 x1]/\fr 4=.box [.raw (.bool false),.raw (.string ⟨#[]⟩),.sl ⟨true,.nil,0⟩ []]/\fr 5=.iv (.raw (.int .i64 0))/\st'=st/\ds=[]) ?_ ?_ ?_
  ·simp only[go_sem,zE]
  ·intro k _ _ _ h;omega
  ·rintro fr st _ ⟨f1,f2,f4,f5,rfl,rfl⟩;by_cases hl0:0<l.length
   ·simp only[go_sem,zE,zA,zL,f1,f2,f5,hxs.len,show decide ((0:Int)<(l.length:Int))=true from dEt (by omega)];intros;refine LoopC.ctr us.length (λk fr st' ds=>(∃tg' ys,fr 6=.box [.raw (.bool false),.raw (.string n),.sl tg' ys]/\IsTms (yZg (yZ9 l) (us.take k)) ys/\own st' tg' k 3 st/\subSt st st') /\
     fr 1=.iv (.sl tg xs)/\fr 2=.box [.raw (.bool false),.raw (.string n),.sl t1 x1]/\fr 4=.box [.raw (.bool false),.raw (.string ⟨#[]⟩),.sl ⟨true,.nil,0⟩ []]/\fr 7=.iv (.raw (.int .i64 k))/\ds=[]) ?_ ?_ ?_
    ·simp only[go_sem,zE,f1,f2,f4];exact⟨⟨_,_,rfl,rfl,own.nil _ _ _ _ _,subSt.refl _⟩,rfl⟩
    ·rintro k fr st1 _ hlt ⟨⟨tg',ys,f6,hys,hown,hsub1⟩,f1,f2,f4,f7,rfl⟩;obtain⟨a,ha⟩:=yQ3 hlt;obtain⟨y,hky,hy⟩:=hx1.get ha;have hmem:=lMg ha;have hcall:=IH a hmem y hy tg xs htg hxs (by have:=yY0 hmem;omega) hll st1;have hlen2:ys.length=k:=by rw[hys.len,yZ5,List.length_take];omega
     have hnext:∀r,IsTm (yJq (yZ9 l) a) r->IsTms (yZg (yZ9 l) (us.take (k+1))) (ys++[r]):=λr hr=>by
      rw[yQ5 ha,yX3];exact hys.append (IsTms.one hr)
     obtain⟨v5,n5,t5,x5,rfl⟩:=hy.agg;simp only[go_sem,zE,zB,zA,f1,f2,f6,f7,hx1.len,lt_i hlt,yQ1 ht1,iNn,hky,fits];intros;refine hcall.mono ?_;rintro r _ ⟨hr,rfl⟩;have hn:=hnext r hr;obtain⟨v6,n6,t6,x6,rfl⟩:=hr.agg;simp only[go_sem,zE,zA,zM,zL,fits,yQ2];refine yX9 hown hlen2 hsub1 rfl (by simp[fits,IV.one]) (by simp only;omega) (by omega) λtg2 st2 hown2 hsub2 _=>?_;simp only[go_sem,zE,zA,zL,f1,f2,f4,f6,f7,yQ9 hlt (show us.length<=281474976710656 by omega)];exact⟨tg2,_,rfl,hn,hown2,hsub2⟩
    rintro fr st1 _ ⟨⟨ta,xa,f6,hxa,hown1,hsub1⟩,f1,f2,f4,f7,rfl⟩;rw[lTl] at hxa;simp only[go_sem,zE,zA,zL,f2,f4,f6,f7,hx1.len,yQj (nLi _)];intros;exact yQa hsub1 ⟨⟨ta,xa,rfl,hown1.es,hxa⟩,rfl⟩
   ·simp only[go_sem,zE,zA,zL,f1,f2,f5,hxs.len,show decide ((0:Int)<(l.length:Int))=false from dEf (by omega)];intros;refine LoopC.ctr us.length (λk fr st' ds=>(∃tg' ys,fr 6=.box [.raw (.bool false),.raw (.string n),.sl tg' ys]/\IsTms (yZg (yZ9 l) (us.take k)) ys/\own st' tg' k 3 st/\subSt st st') /\
     fr 1=.iv (.sl tg xs)/\fr 2=.box [.raw (.bool false),.raw (.string n),.sl t1 x1]/\fr 4=.box [.raw (.bool false),.raw (.string ⟨#[]⟩),.sl ⟨true,.nil,0⟩ []]/\fr 7=.iv (.raw (.int .i64 k))/\ds=[]) ?_ ?_ ?_
    ·simp only[go_sem,zE,f1,f2,f4];exact⟨⟨_,_,rfl,rfl,own.nil _ _ _ _ _,subSt.refl _⟩,rfl⟩
    ·rintro k fr st1 _ hlt ⟨⟨tg',ys,f6,hys,hown,hsub1⟩,f1,f2,f4,f7,rfl⟩;obtain⟨a,ha⟩:=yQ3 hlt;obtain⟨y,hky,hy⟩:=hx1.get ha;have hmem:=lMg ha;have hcall:=IH a hmem y hy tg xs htg hxs (by have:=yY0 hmem;omega) hll st1;have hlen2:ys.length=k:=by rw[hys.len,yZ5,List.length_take];omega
     have hnext:∀r,IsTm (yJq (yZ9 l) a) r->IsTms (yZg (yZ9 l) (us.take (k+1))) (ys++[r]):=λr hr=>by
      rw[yQ5 ha,yX3];exact hys.append (IsTms.one hr)
     obtain⟨v5,n5,t5,x5,rfl⟩:=hy.agg;simp only[go_sem,zE,zB,zA,f1,f2,f6,f7,hx1.len,lt_i hlt,yQ1 ht1,iNn,hky,fits];intros;refine hcall.mono ?_;rintro r _ ⟨hr,rfl⟩;have hn:=hnext r hr;obtain⟨v6,n6,t6,x6,rfl⟩:=hr.agg;simp only[go_sem,zE,zA,zM,zL,fits,yQ2];refine yX9 hown hlen2 hsub1 rfl (by simp[fits,IV.one]) (by simp only;omega) (by omega) λtg2 st2 hown2 hsub2 _=>?_;simp only[go_sem,zE,zA,zL,f1,f2,f4,f6,f7,yQ9 hlt (show us.length<=281474976710656 by omega)];exact⟨tg2,_,rfl,hn,hown2,hsub2⟩
    rintro fr st1 _ ⟨⟨ta,xa,f6,hxa,hown1,hsub1⟩,f1,f2,f4,f7,rfl⟩;rw[lTl] at hxa;simp only[go_sem,zE,zA,zL,f2,f4,f6,f7,hx1.len,yQj (nLi _)];intros;exact yQa hsub1 ⟨⟨ta,xa,rfl,hown1.es,hxa⟩,rfl⟩
 ·simp only[go_sem];refine LoopC.ctr l.length (λk fr st' ds=>yZ9 (l.take k) n=none/\fr 1=.iv (.sl tg xs)/\fr 2=.box [.raw (.bool true),.raw (.string n),.sl t1 x1]/\fr 4=.box [.raw (.bool false),.raw (.string ⟨#[]⟩),.sl ⟨true,.nil,0⟩ []]/\fr 5=.iv (.raw (.int .i64 k))/\st'=st/\ds=[]) ?_ ?_ ?_
  ·simp only[go_sem,zE];exact⟨rfl,rfl⟩
  ·rintro k fr st _ hlt ⟨hno,f1,f2,f4,f5,rfl,rfl⟩;obtain⟨o,ho⟩:=yQ3 hlt;obtain⟨y,hky,v3,n3,t3,x3,rfl,hy⟩:=hxs.get ho;by_cases hn:o.1=n
   ·have hl:=wKf ho hno hn;simp only[go_sem,zE,zB,zA,zL,f1,f2,f4,f5,hxs.len,lt_i hlt,yQ1 htg,iNn,hky,fits,dEt hn];intros;refine yQ0 ⟨?_,rfl⟩;simp only[yJq,hl];exact hy
   ·simp only[go_sem,zE,zA,f1,f2,f4,f5,hxs.len,lt_i hlt,yQ1 htg,iNn,hky,fits,dEf hn,yQ9 hlt (show l.length<=281474976710656 by omega)];intros;exact xYo ho hno hn
  ·rintro fr st _ ⟨hno,f1,f2,f4,f5,rfl,rfl⟩;rw[lTl] at hno;simp only[go_sem,zE,zA,zL,f1,f2,f5,hxs.len,yQj (nLi _),fits];intros;refine LoopC.ctr us.length (λk fr st' ds=>(∃tg' ys,fr 6=.box [.raw (.bool true),.raw (.string n),.sl tg' ys]/\IsTms (yZg (yZ9 l) (us.take k)) ys/\own st' tg' k 3 st/\subSt st st') /\
    fr 1=.iv (.sl tg xs)/\fr 2=.box [.raw (.bool true),.raw (.string n),.sl t1 x1]/\fr 4=.box [.raw (.bool false),.raw (.string ⟨#[]⟩),.sl ⟨true,.nil,0⟩ []]/\fr 7=.iv (.raw (.int .i64 k))/\ds=[]) ?_ ?_ ?_
   ·simp only[go_sem,zE,f1,f2,f4];exact⟨⟨_,_,rfl,rfl,own.nil _ _ _ _ _,subSt.refl _⟩,rfl⟩
   ·rintro k fr st1 _ hlt ⟨⟨tg',ys,f6,hys,hown,hsub1⟩,f1,f2,f4,f7,rfl⟩;obtain⟨a,ha⟩:=yQ3 hlt;obtain⟨y,hky,hy⟩:=hx1.get ha;have hmem:=lMg ha;have hcall:=IH a hmem y hy tg xs htg hxs (by have:=yY0 hmem;omega) hll st1;have hlen2:ys.length=k:=by rw[hys.len,yZ5,List.length_take];omega
    have hnext:∀r,IsTm (yJq (yZ9 l) a) r->IsTms (yZg (yZ9 l) (us.take (k+1))) (ys++[r]):=λr hr=>by
     rw[yQ5 ha,yX3];exact hys.append (IsTms.one hr)
    obtain⟨v5,n5,t5,x5,rfl⟩:=hy.agg;simp only[go_sem,zE,zB,zA,f1,f2,f6,f7,hx1.len,lt_i hlt,yQ1 ht1,iNn,hky,fits];intros;refine hcall.mono ?_;rintro r _ ⟨hr,rfl⟩;have hn:=hnext r hr;obtain⟨v6,n6,t6,x6,rfl⟩:=hr.agg;simp only[go_sem,zE,zA,zM,zL,fits,yQ2];refine yX9 hown hlen2 hsub1 rfl (by simp[fits,IV.one]) (by simp only;omega) (by omega) λtg2 st2 hown2 hsub2 _=>?_;simp only[go_sem,zE,zA,zL,f1,f2,f4,f6,f7,yQ9 hlt (show us.length<=281474976710656 by omega)];exact⟨tg2,_,rfl,hn,hown2,hsub2⟩
   rintro fr st1 _ ⟨⟨ta,xa,f6,hxa,hown1,hsub1⟩,f1,f2,f4,f7,rfl⟩;rw[lTl] at hxa;simp only[go_sem,zE,zA,zL,f2,f4,f6,f7,hx1.len,yQj (nLi _)];intros;refine yQa hsub1 ⟨?_,rfl⟩;simp only[yJq,hno];exact⟨ta,xa,rfl,hown1.es,hxa⟩
theorem zZs (l:Sb):∀(k:Nat) (t:Tm),SizeOf.sizeOf t<k->RPT gl l t
 | 0,f,h=>by omega
 | k+1,.mk v n us,h=>zYl gl l v n us (λa ha=>zZs l k a (by
   have:=lSm ha;simp at h;omega))
theorem xYc (l:Sb)(t:Tm):RPT gl l t:=zZs gl l _ t (Nat.lt_succ_self _)
