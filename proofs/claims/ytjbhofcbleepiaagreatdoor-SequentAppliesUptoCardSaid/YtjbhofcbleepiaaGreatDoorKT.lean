/- Walks of the second program: PutTerm. -/
import Derived.Test.YtjbhofcbleepiaaGreatDoorKS
import Derived.Test.YtjbhofcbleepiaaGreatDoorKM
import Derived.Test.YtjbhofcbleepiaaGreatDoorKB
set_option linter.all false
namespace Go.Proofs.Tryz
open Go Go.Iv
set_option maxRecDepth 4000
variable (gl:Nat→Option IV)
theorem wKw {l:Sb}{k:Nat}{p:ByteArray×Tm}{n:ByteArray}(h:l[k]?=some p)(hn:yZa (l.take k) n=none)(hp:p.1=n):yZa l n=some p.2:=by
 have h1:l=l.take k++p::l.drop (k+1):=by
  have hlt:=(lGs h).1
  conv=>lhs; rw[← List.take_append_drop k l,List.drop_eq_getElem_cons hlt,(lGs h).2]
 rw[h1,yVy,hn]
 simp[yZa,hp]
theorem xG9 {l:Sb}{k:Nat}{p:ByteArray×Tm}{n:ByteArray}(h:l[k]?=some p)(hn:yZa (l.take k) n=none)(hp:p.1≠n):yZa (l.take (k+1)) n=none:=by
 rw[yQ4 h,yVy,hn]
 simp[yZa,hp]
def RPT (l:Sb)(t:Tm):Prop:=∀ (x:IV) (_:IsTm t x) (tg:Tag) (xs:List IV) (_:okEs tg 4) (_:IsOnes l xs) (_:t.size≤1099511627776) (_:l.length≤1099511627776) (st:ISt),
 ICall prog gl 216 [x,.sl tg xs] st (fun r st'=>IsTm (yJl (yZa l) t) r∧st'=st)
theorem zGi (l:Sb)(v:Bool)(n:ByteArray)(us:List Tm)(IH:∀ a∈us,RPT gl l a):RPT gl l (.mk v n us):=by
 intro x hx tg xs htg hxs hsz hll st
 obtain⟨t1,x1,rfl,ht1,hx1⟩:=hx.mk
 simp only[Tm.size] at hsz
 have hlsz:=yZs us
 refine iI func216 rfl rfl (by kernel_rfl) ?_
 cases v
 ·simp(config:=zzC)only[go_sem,fits]
  refine LoopC.ctr 0 (fun k fr st' ds=>fr 1=.iv (.sl tg xs)∧fr 2=.box [.raw (.bool false),.raw (.string n),.sl t1 x1]∧fr 4=.box [.raw (.bool false),.raw (.string ⟨#[]⟩),.sl ⟨true,.nil,0⟩ []]∧fr 5=.iv (.raw (.int .i64 0))∧st'=st∧ds=[]) ?_ ?_ ?_
  ·simp(config:=zzC)only[go_sem]
  ·intro k _ _ _ h; omega
  ·rintro fr st _ ⟨f1,f2,f4,f5,rfl,rfl⟩
   by_cases hl0:0<l.length
   ·simp(config:=zzC)only[go_sem,f1,f2,f4,f5,hxs.len,show decide ((0:Int)<(l.length:Int))=true from dEt (by omega)]
    intros
    refine LoopC.ctr us.length (fun k fr st' ds=>(∃ tg' ys,fr 6=.box [.raw (.bool false),.raw (.string n),.sl tg' ys]∧IsTms (yZe (yZa l) (us.take k)) ys∧own st' tg' k 3 st∧subSt st st') ∧
     fr 1=.iv (.sl tg xs)∧fr 2=.box [.raw (.bool false),.raw (.string n),.sl t1 x1]∧fr 4=.box [.raw (.bool false),.raw (.string ⟨#[]⟩),.sl ⟨true,.nil,0⟩ []]∧fr 7=.iv (.raw (.int .i64 k))∧ds=[]) ?_ ?_ ?_
    ·simp(config:=zzC)only[go_sem,f1,f2,f4]
     exact⟨⟨_,_,rfl,rfl,own.nil _ _ _ _ _,subSt.refl _⟩,rfl⟩
    ·rintro k fr st1 _ hlt ⟨⟨tg',ys,f6,hys,hown,hsub1⟩,f1,f2,f4,f7,rfl⟩
     obtain⟨a,ha⟩:=yQ3 hlt
     obtain⟨y,hky,hy⟩:=hx1.get ha
     have hmem:=lMg ha
     have hcall:=IH a hmem y hy tg xs htg hxs (by have:=yWx hmem; omega) hll st1
     have hlen2:ys.length=k:=by rw[hys.len,yZ5,List.length_take]; omega
     have hnext:∀ r,IsTm (yJl (yZa l) a) r→IsTms (yZe (yZa l) (us.take (k+1))) (ys++[r]):=fun r hr=>by
      rw[yQ4 ha,yZw]
      exact hys.append (IsTms.one hr)
     obtain⟨v5,n5,t5,x5,rfl⟩:=hy.agg
     simp(config:=zzC)only[go_sem,f1,f2,f4,f6,f7,hx1.len,lt_i hlt,yQ2 ht1,iNn,hky,fits]
     intros
     refine hcall.mono ?_
     rintro r _ ⟨hr,rfl⟩
     have hn:=hnext r hr
     obtain⟨v6,n6,t6,x6,rfl⟩:=hr.agg
     simp(config:=zzC)only[go_sem,f1,f2,f4,f6,f7,fits,yQ1]
     refine yZo hown hlen2 hsub1 rfl (by simp[fits,IV.one]) (by simp only; omega) (by omega) fun tg2 st2 hown2 hsub2 _=>?_
     simp(config:=zzC)only[go_sem,f1,f2,f4,f6,f7,fits,yQa hlt (show us.length≤281474976710656 by omega)]
     exact⟨tg2,_,rfl,hn,hown2,hsub2⟩
    rintro fr st1 _ ⟨⟨ta,xa,f6,hxa,hown1,hsub1⟩,f1,f2,f4,f7,rfl⟩
    rw[lTl] at hxa
    simp(config:=zzC)only[go_sem,f2,f4,f6,f7,hx1.len,yQm (nLi _),fits]
    intros
    exact yQ9 hsub1 ⟨⟨ta,xa,rfl,hown1.es,hxa⟩,rfl⟩
   ·simp(config:=zzC)only[go_sem,f1,f2,f4,f5,hxs.len,show decide ((0:Int)<(l.length:Int))=false from dEf (by omega)]
    intros
    refine LoopC.ctr us.length (fun k fr st' ds=>(∃ tg' ys,fr 6=.box [.raw (.bool false),.raw (.string n),.sl tg' ys]∧IsTms (yZe (yZa l) (us.take k)) ys∧own st' tg' k 3 st∧subSt st st') ∧
     fr 1=.iv (.sl tg xs)∧fr 2=.box [.raw (.bool false),.raw (.string n),.sl t1 x1]∧fr 4=.box [.raw (.bool false),.raw (.string ⟨#[]⟩),.sl ⟨true,.nil,0⟩ []]∧fr 7=.iv (.raw (.int .i64 k))∧ds=[]) ?_ ?_ ?_
    ·simp(config:=zzC)only[go_sem,f1,f2,f4]
     exact⟨⟨_,_,rfl,rfl,own.nil _ _ _ _ _,subSt.refl _⟩,rfl⟩
    ·rintro k fr st1 _ hlt ⟨⟨tg',ys,f6,hys,hown,hsub1⟩,f1,f2,f4,f7,rfl⟩
     obtain⟨a,ha⟩:=yQ3 hlt
     obtain⟨y,hky,hy⟩:=hx1.get ha
     have hmem:=lMg ha
     have hcall:=IH a hmem y hy tg xs htg hxs (by have:=yWx hmem; omega) hll st1
     have hlen2:ys.length=k:=by rw[hys.len,yZ5,List.length_take]; omega
     have hnext:∀ r,IsTm (yJl (yZa l) a) r→IsTms (yZe (yZa l) (us.take (k+1))) (ys++[r]):=fun r hr=>by
      rw[yQ4 ha,yZw]
      exact hys.append (IsTms.one hr)
     obtain⟨v5,n5,t5,x5,rfl⟩:=hy.agg
     simp(config:=zzC)only[go_sem,f1,f2,f4,f6,f7,hx1.len,lt_i hlt,yQ2 ht1,iNn,hky,fits]
     intros
     refine hcall.mono ?_
     rintro r _ ⟨hr,rfl⟩
     have hn:=hnext r hr
     obtain⟨v6,n6,t6,x6,rfl⟩:=hr.agg
     simp(config:=zzC)only[go_sem,f1,f2,f4,f6,f7,fits,yQ1]
     refine yZo hown hlen2 hsub1 rfl (by simp[fits,IV.one]) (by simp only; omega) (by omega) fun tg2 st2 hown2 hsub2 _=>?_
     simp(config:=zzC)only[go_sem,f1,f2,f4,f6,f7,fits,yQa hlt (show us.length≤281474976710656 by omega)]
     exact⟨tg2,_,rfl,hn,hown2,hsub2⟩
    rintro fr st1 _ ⟨⟨ta,xa,f6,hxa,hown1,hsub1⟩,f1,f2,f4,f7,rfl⟩
    rw[lTl] at hxa
    simp(config:=zzC)only[go_sem,f2,f4,f6,f7,hx1.len,yQm (nLi _),fits]
    intros
    exact yQ9 hsub1 ⟨⟨ta,xa,rfl,hown1.es,hxa⟩,rfl⟩
 ·simp(config:=zzC)only[go_sem,fits]
  refine LoopC.ctr l.length (fun k fr st' ds=>yZa (l.take k) n=none∧fr 1=.iv (.sl tg xs)∧fr 2=.box [.raw (.bool true),.raw (.string n),.sl t1 x1]∧fr 4=.box [.raw (.bool false),.raw (.string ⟨#[]⟩),.sl ⟨true,.nil,0⟩ []]∧fr 5=.iv (.raw (.int .i64 k))∧st'=st∧ds=[]) ?_ ?_ ?_
  ·simp(config:=zzC)only[go_sem]
   exact⟨rfl,rfl⟩
  ·rintro k fr st _ hlt ⟨hno,f1,f2,f4,f5,rfl,rfl⟩
   obtain⟨o,ho⟩:=yQ3 hlt
   obtain⟨y,hky,v3,n3,t3,x3,rfl,hy⟩:=hxs.get ho
   by_cases hn:o.1=n
   ·have hl:=wKw ho hno hn
    simp(config:=zzC)only[go_sem,f1,f2,f4,f5,hxs.len,lt_i hlt,yQ2 htg,iNn,hky,fits,dEt hn]
    intros
    refine yQ0 ⟨?_,rfl⟩
    simp only[yJl,hl]
    exact hy
   ·simp(config:=zzC)only[go_sem,f1,f2,f4,f5,hxs.len,lt_i hlt,yQ2 htg,iNn,hky,fits,dEf hn,yQa hlt (show l.length≤281474976710656 by omega)]
    intros
    exact xG9 ho hno hn
  ·rintro fr st _ ⟨hno,f1,f2,f4,f5,rfl,rfl⟩
   rw[lTl] at hno
   simp(config:=zzC)only[go_sem,f1,f2,f4,f5,hxs.len,yQm (nLi _),fits]
   intros
   refine LoopC.ctr us.length (fun k fr st' ds=>(∃ tg' ys,fr 6=.box [.raw (.bool true),.raw (.string n),.sl tg' ys]∧IsTms (yZe (yZa l) (us.take k)) ys∧own st' tg' k 3 st∧subSt st st') ∧
    fr 1=.iv (.sl tg xs)∧fr 2=.box [.raw (.bool true),.raw (.string n),.sl t1 x1]∧fr 4=.box [.raw (.bool false),.raw (.string ⟨#[]⟩),.sl ⟨true,.nil,0⟩ []]∧fr 7=.iv (.raw (.int .i64 k))∧ds=[]) ?_ ?_ ?_
   ·simp(config:=zzC)only[go_sem,f1,f2,f4]
    exact⟨⟨_,_,rfl,rfl,own.nil _ _ _ _ _,subSt.refl _⟩,rfl⟩
   ·rintro k fr st1 _ hlt ⟨⟨tg',ys,f6,hys,hown,hsub1⟩,f1,f2,f4,f7,rfl⟩
    obtain⟨a,ha⟩:=yQ3 hlt
    obtain⟨y,hky,hy⟩:=hx1.get ha
    have hmem:=lMg ha
    have hcall:=IH a hmem y hy tg xs htg hxs (by have:=yWx hmem; omega) hll st1
    have hlen2:ys.length=k:=by rw[hys.len,yZ5,List.length_take]; omega
    have hnext:∀ r,IsTm (yJl (yZa l) a) r→IsTms (yZe (yZa l) (us.take (k+1))) (ys++[r]):=fun r hr=>by
     rw[yQ4 ha,yZw]
     exact hys.append (IsTms.one hr)
    obtain⟨v5,n5,t5,x5,rfl⟩:=hy.agg
    simp(config:=zzC)only[go_sem,f1,f2,f4,f6,f7,hx1.len,lt_i hlt,yQ2 ht1,iNn,hky,fits]
    intros
    refine hcall.mono ?_
    rintro r _ ⟨hr,rfl⟩
    have hn:=hnext r hr
    obtain⟨v6,n6,t6,x6,rfl⟩:=hr.agg
    simp(config:=zzC)only[go_sem,f1,f2,f4,f6,f7,fits,yQ1]
    refine yZo hown hlen2 hsub1 rfl (by simp[fits,IV.one]) (by simp only; omega) (by omega) fun tg2 st2 hown2 hsub2 _=>?_
    simp(config:=zzC)only[go_sem,f1,f2,f4,f6,f7,fits,yQa hlt (show us.length≤281474976710656 by omega)]
    exact⟨tg2,_,rfl,hn,hown2,hsub2⟩
   rintro fr st1 _ ⟨⟨ta,xa,f6,hxa,hown1,hsub1⟩,f1,f2,f4,f7,rfl⟩
   rw[lTl] at hxa
   simp(config:=zzC)only[go_sem,f2,f4,f6,f7,hx1.len,yQm (nLi _),fits]
   intros
   refine yQ9 hsub1 ⟨?_,rfl⟩
   simp only[yJl,hno]
   exact⟨ta,xa,rfl,hown1.es,hxa⟩
theorem zXc (l:Sb):∀ (k:Nat) (t:Tm),SizeOf.sizeOf t<k→RPT gl l t
 | 0,f,h=>by omega
 | k+1,.mk v n us,h=>zGi gl l v n us (fun a ha=>zXc l k a (by
   have:=lSm ha
   simp at h; omega))
theorem xYz (l:Sb)(t:Tm):RPT gl l t:=zXc gl l _ t (Nat.lt_succ_self _)
end Go.Proofs.Tryz
