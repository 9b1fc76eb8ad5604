/- Walks: formulas and sequents of a calcul -/
import Derived.Test.YtgiilhcddbhffaaGreatDoorQA
import Derived.Test.YtgiilhcddbhffaaGreatDoorJZ
import Derived.Test.YtgiilhcddbhffaaGreatDoorQC
import Derived.Test.YtgiilhcddbhffaaGreatDoorJY
import Derived.Test.YtgiilhcddbhffaaGreatDoorKD
set_option linter.all false
namespace Go.Proofs.Tryz
open Go Go.Iv
set_option maxRecDepth 4000
variable (gl:Nat→Option IV)
def fitL (l:List Fm):Prop:=∀ f∈l,f.size≤1000000
theorem xX2 (ca:Nat)(st:ISt):ICall prog gl 70 [.raw (.int .u8 ca)] st (fun r st'=>r=.raw (.bool (yKe ca))∧st'=st):=by
 refine iI func70 rfl rfl (by kernel_rfl) ?_
 by_cases h1:1≤ca
 ·have e1:decide (1≤(ca:Int))=true:=dEt (by omega)
  by_cases h2:ca≤3
  ·have e2:decide ((ca:Int)≤3)=true:=dEt (by omega)
   simp(config:=zzC)only[go_sem,e1,e2]
   exact yQ0 ⟨by simp[yKe,h1,h2],rfl⟩
  ·have e2:decide ((ca:Int)≤3)=false:=dEf (by omega)
   simp(config:=zzC)only[go_sem,e1,e2]
   exact yQ0 ⟨by simp[yKe,h2],rfl⟩
 ·have e1:decide (1≤(ca:Int))=false:=dEf (by omega)
  simp(config:=zzC)only[go_sem,e1]
  exact yQ0 ⟨by simp[yKe,h1],rfl⟩
def sOp (f:Fm):Prop:=∀ (ca:Nat) (x:IV) (_:IsFm f x) (st:ISt),ICall prog gl 136 [.raw (.int .u8 ca),x] st (fun r st'=>r=.raw (.bool (opsB ca f))∧st'=st)
theorem yVi (ca:Nat):∀ l m:List Fm,yK3 ca (l++m)=(yK3 ca l&&yK3 ca m)
 | [],m=>by simp[yK3]
 | a::l,m=>by simp only[List.cons_append,yK3,yVi ca l m,Bool.and_assoc]
theorem zGx {ca:Nat}{l:List Fm}{a:Fm}(ha:a∈l)(h:opsB ca a=false):yK3 ca l=false:=by
 obtain⟨p,q,rfl⟩:=List.append_of_mem ha
 rw[yVi]
 simp[yK3,h]
theorem wJb (o:Nat)(n:ByteArray)(us:List Tm)(sub:List Fm)(IH:∀ a∈sub,sOp gl a):sOp gl (.mk o n us sub):=by
 intro ca x hx st
 obtain⟨t1,x1,t2,x2,rfl,ho,ht1,hx1,ht2,hx2⟩:=hx.mk
 have loop:∀ (last:Nat) (hop:(decide (1≤o)&&decide (o≤if ca=3 then 9 else 7)&&(decide (ca=3) || us.isEmpty))=true),opsB ca (.mk o n us sub)=yK3 ca sub:=fun _ h=>by
  simp only[opsB,h,Bool.true_and]
 refine iI func136 rfl rfl (by kernel_rfl) ?_
 by_cases h1:1≤o
 ·have e1:decide ((o:Int)<1)=false:=dEf (by omega)
  by_cases hca:ca=3
  ·have e3:decide ((ca:Int)=3)=true:=dEt (by omega)
   by_cases h2:o≤9
   ·have e2:decide ((9:Int)<(o:Int))=false:=dEf (by omega)
    have hl:=loop 9 (by simp[h1,h2,hca])
    simp(config:=zzC)only[go_sem,e1,e2,e3,hx2.len]
    intro _
    refine LoopC.ctr sub.length (fun k fr st' ds=>yK3 ca (sub.take k)=true∧fr 0=.iv (.raw (.int .u8 ca))∧fr 30=.iv (.sl t2 x2)∧fr 31=.iv (.raw (.int .i64 sub.length))∧fr 32=.iv (.raw (.int .i64 k))∧st'=st∧ds=[]) ?_ ?_ ?_
    ·simp(config:=zzC)only[go_sem]
     simp[yK3]
    ·rintro k fr st1 _ hlt ⟨hn,f0,f30,f31,f32,rfl,rfl⟩
     obtain⟨a,ha⟩:=yQ5 hlt
     obtain⟨y,hky,hy⟩:=hx2.get ha
     have hcall:=IH a (lMg ha) ca y hy st1
     obtain⟨o5,n5,t5,x5,t6,x6,rfl⟩:=hy.agg
     simp(config:=zzC)only[go_sem,f0,f30,f31,f32,lt_i hlt,yQ1 ht2,iNn,hky,fits]
     refine hcall.mono ?_
     rintro _ _ ⟨rfl,rfl⟩
     cases hr:opsB ca a
     ·simp(config:=zzC)only[go_sem]
      exact yQ0 ⟨by rw[hl,zGx (lMg ha) hr],rfl⟩
     ·simp(config:=zzC)only[go_sem,f0,f30,f31,f32,yQf hlt (show sub.length≤281474976710656 by omega)]
      rw[yQ6 ha,yVi,hn]
      simp[yK3,hr]
    ·rintro fr st1 _ ⟨hn,f0,f30,f31,f32,rfl,rfl⟩
     rw[lTl] at hn
     simp(config:=zzC)only[go_sem,f31,f32,yQt (nLi _)]
     exact yQ0 ⟨by rw[hl,hn],rfl⟩
   ·have e2:decide ((9:Int)<(o:Int))=true:=dEt (by omega)
    simp(config:=zzC)only[go_sem,e1,e2,e3,hx2.len]
    exact yQ0 ⟨by simp[opsB,h2,hca],rfl⟩
  ·have e3:decide ((ca:Int)=3)=false:=dEf (by omega)
   by_cases h2:o≤7
   ·have e2:decide ((7:Int)<(o:Int))=false:=dEf (by omega)
    by_cases hu:us=[]
    ·subst hu
     have e4:decide ((0:Int)<((0:Nat):Int))=false:=rfl
     have hl:=loop 7 (by simp[h1,h2,hca])
     simp(config:=zzC)only[go_sem,e1,e2,e3,e4,hx1.len,hx2.len]
     intro _
     refine LoopC.ctr sub.length (fun k fr st' ds=>yK3 ca (sub.take k)=true∧fr 0=.iv (.raw (.int .u8 ca))∧fr 30=.iv (.sl t2 x2)∧fr 31=.iv (.raw (.int .i64 sub.length))∧fr 32=.iv (.raw (.int .i64 k))∧st'=st∧ds=[]) ?_ ?_ ?_
     ·simp(config:=zzC)only[go_sem]
      simp[yK3]
     ·rintro k fr st1 _ hlt ⟨hn,f0,f30,f31,f32,rfl,rfl⟩
      obtain⟨a,ha⟩:=yQ5 hlt
      obtain⟨y,hky,hy⟩:=hx2.get ha
      have hcall:=IH a (lMg ha) ca y hy st1
      obtain⟨o5,n5,t5,x5,t6,x6,rfl⟩:=hy.agg
      simp(config:=zzC)only[go_sem,f0,f30,f31,f32,lt_i hlt,yQ1 ht2,iNn,hky,fits]
      refine hcall.mono ?_
      rintro _ _ ⟨rfl,rfl⟩
      cases hr:opsB ca a
      ·simp(config:=zzC)only[go_sem]
       exact yQ0 ⟨by rw[hl,zGx (lMg ha) hr],rfl⟩
      ·simp(config:=zzC)only[go_sem,f0,f30,f31,f32,yQf hlt (show sub.length≤281474976710656 by omega)]
       rw[yQ6 ha,yVi,hn]
       simp[yK3,hr]
     ·rintro fr st1 _ ⟨hn,f0,f30,f31,f32,rfl,rfl⟩
      rw[lTl] at hn
      simp(config:=zzC)only[go_sem,f31,f32,yQt (nLi _)]
      exact yQ0 ⟨by rw[hl,hn],rfl⟩
    ·have hpos:0<us.length:=List.length_pos_iff.2 hu
     have e4:decide ((0:Int)<(us.length:Int))=true:=dEt (by omega)
     simp(config:=zzC)only[go_sem,e1,e2,e3,e4,hx1.len,hx2.len]
     intro _
     exact yQ0 ⟨by simp[opsB,hca,hu],rfl⟩
   ·have e2:decide ((7:Int)<(o:Int))=true:=dEt (by omega)
    simp(config:=zzC)only[go_sem,e1,e2,e3,hx1.len,hx2.len]
    exact yQ0 ⟨by simp[opsB,hca,h2],rfl⟩
 ·have e1:decide ((o:Int)<1)=true:=dEt (by omega)
  by_cases hca:ca=3
  ·have e3:decide ((ca:Int)=3)=true:=dEt (by omega)
   simp(config:=zzC)only[go_sem,e1,e3]
   exact yQ0 ⟨by simp[opsB,h1],rfl⟩
  ·have e3:decide ((ca:Int)=3)=false:=dEf (by omega)
   simp(config:=zzC)only[go_sem,e1,e3]
   exact yQ0 ⟨by simp[opsB,h1],rfl⟩
theorem xGv:∀ (k:Nat)(f:Fm),SizeOf.sizeOf f<k→sOp gl f
 | 0,f,h=>by omega
 | k+1,.mk o n us sub,h=>wJb gl o n us sub (fun a ha=>xGv k a (by
   have:=lSm ha
   simp only[Fm.mk.sizeOf_spec] at h
   omega))
theorem xZh (f:Fm):sOp gl f:=xGv gl _ f (Nat.lt_succ_self _)
theorem zJd (G:Gl gl)(ca:Nat)(f:Fm)(x:IV)(hx:IsFm f x)(hs:f.size≤1000000)(st:ISt) :
  ICall prog gl 82 [.raw (.int .u8 ca),x] st (fun r st'=>r=.raw (.bool (fmB ca f))∧st'=st):=by
 have h1:=fun st=>zK5 gl G f x hx st hs
 have h2:=fun st=>xZh gl f ca x hx st
 obtain⟨o5,n5,t5,x5,t6,x6,rfl⟩:=hx.agg
 refine iI func82 rfl rfl (by kernel_rfl) ?_
 simp(config:=zzC)only[go_sem]
 refine (h1 _).mono ?_
 rintro _ _ ⟨rfl,rfl⟩
 cases hr:f.right
 ·simp(config:=zzC)only[go_sem]
  exact yQ0 ⟨by simp[fmB,hr],rfl⟩
 ·simp(config:=zzC)only[go_sem]
  refine (h2 _).mono ?_
  rintro _ _ ⟨rfl,rfl⟩
  simp(config:=zzC)only[go_sem]
  exact yQ0 ⟨by simp[fmB,hr],rfl⟩
theorem wZh (G:Gl gl)(f g:Fm)(x y:IV)(hx:IsFm f x)(hy:IsFm g y)(hs:f.size≤1000000)(hs':g.size≤1000000)(st:ISt) :
  ICall prog gl 83 [x,y] st (fun r st'=>r=.raw (.bool (eqF f g))∧st'=st):=by
 have h1:=fun st=>wUk gl G f g x y hx hy hs hs' st
 obtain⟨o,n,us,sub⟩:=f
 obtain⟨o',n',us',sub'⟩:=g
 obtain⟨t1,x1,t2,x2,rfl,_⟩:=hx.mk
 obtain⟨t3,x3,t4,x4,rfl,_⟩:=hy.mk
 refine iI func83 rfl rfl (by kernel_rfl) ?_
 by_cases ho:o=o'
 ·subst ho
  simp(config:=zzC)only[go_sem,decide_true]
  refine (h1 _).mono ?_
  rintro _ _ ⟨rfl,rfl⟩
  simp(config:=zzC)only[go_sem]
  exact yQ0 ⟨by simp[eqF,Fm.op],rfl⟩
 ·have e:decide ((o:Int)=(o':Int))=false:=dEf (by omega)
  simp(config:=zzC)only[go_sem,e]
  exact yQ0 ⟨by simp[eqF,Fm.op,ho],rfl⟩
theorem xXz (g:FuncId)(caps:List IV)(he:entI prog g=true)(us:List Fm)(p:Fm→Bool)(hp:∀ a∈us,∀ x,IsFm a x→∀ st,ICall prog gl g (x::caps) st (fun r st'=>r=.raw (.bool (p a))∧st'=st))
  (tg:Tag) (xs:List IV) (htg:okEs tg 4) (hxs:IsFms us xs) (st:ISt) :
  ICall prog gl 139 [.sl tg xs,.fn (.func g) [] caps] st (fun r st'=>(∃ n:Int,r=.raw (.int .i64 n)∧decide (0≤n)=us.any p)∧st'=st):=by
 refine iI func139 rfl rfl (by kernel_rfl) ?_
 simp(config:=zzC)only[go_sem,hxs.len]
 intro _
 refine LoopC.ctr us.length (fun k fr st' ds=>(us.take k).any p=false∧fr 0=.iv (.sl tg xs)∧fr 1=.iv (.fn (.func g) [] caps)∧fr 7=.iv (.raw (.int .i64 us.length))∧fr 8=.iv (.raw (.int .i64 k))∧st'=st∧ds=[]) ?_ ?_ ?_
 ·simp(config:=zzC)only[go_sem]
  exact⟨rfl,rfl⟩
 ·rintro k fr st1 _ hlt ⟨hn,f0,f1,f7,f8,rfl,rfl⟩
  obtain⟨a,ha⟩:=yQ5 hlt
  obtain⟨y,hky,hy⟩:=hxs.get ha
  have hcall:=hp a (lMg ha) y hy st1
  obtain⟨o5,n5,t5,x5,t6,x6,rfl⟩:=hy.agg
  simp(config:=zzC)only[go_sem,f0,f1,f7,f8,lt_i hlt,yQ1 htg,iNn,hky,fits,he]
  refine hcall.mono ?_
  rintro _ _ ⟨rfl,rfl⟩
  cases hr:p a
  ·simp(config:=zzC)only[go_sem,f0,f1,f7,f8,yQf hlt (show us.length≤281474976710656 by omega)]
   rw[yQ6 ha,List.any_append,hn]
   simp[hr]
  ·simp(config:=zzC)only[go_sem]
   refine yQ0 ⟨⟨_,rfl,?_⟩,rfl⟩
   rw[dEt (iNn k)]
   exact (List.any_eq_true.2 ⟨a,lMg ha,hr⟩).symm
 ·rintro fr st1 _ ⟨hn,f0,f1,f7,f8,rfl,rfl⟩
  rw[lTl] at hn
  simp(config:=zzC)only[go_sem,f7,f8,yQt (nLi _)]
  exact yQ0 ⟨⟨_,rfl,by rw[hn]; rfl⟩,rfl⟩
theorem yVu (g:FuncId)(caps:List IV)(he:entI prog g=true)(us:List Fm)(p:Fm→Bool)(hp:∀ a∈us,∀ x,IsFm a x→∀ st,ICall prog gl g (x::caps) st (fun r st'=>r=.raw (.bool (p a))∧st'=st))
  (tg:Tag) (xs:List IV) (htg:okEs tg 4) (hxs:IsFms us xs) (st:ISt) :
  ICall prog gl 85 [.sl tg xs,.fn (.func g) [] caps] st (fun r st'=>r=.raw (.bool (us.any p))∧st'=st):=by
 refine iI func85 rfl rfl (by kernel_rfl) ?_
 simp(config:=zzC)only[go_sem]
 refine (xXz gl g caps he us p hp tg xs htg hxs _).mono ?_
 rintro _ _ ⟨⟨n,rfl,hn⟩,rfl⟩
 simp(config:=zzC)only[go_sem,hn]
 exact yQ0 ⟨rfl,rfl⟩
theorem vKm (G:Gl gl)(f g:Fm)(x y:IV)(hx:IsFm f x)(hy:IsFm g y)(hs:f.size≤1000000)(hs':g.size≤1000000)(st:ISt) :
  ICall prog gl 86 [y,.cptr x] st (fun r st'=>r=.raw (.bool (eqF f g))∧st'=st):=by
 have h1:=fun st=>wZh gl G f g x y hx hy hs hs' st
 obtain⟨o5,n5,t5,x5,t6,x6,rfl⟩:=hx.agg
 obtain⟨o7,n7,t7,x7,t8,x8,rfl⟩:=hy.agg
 refine iI func86 rfl rfl (by kernel_rfl) ?_
 simp(config:=zzC)only[go_sem,fits]
 refine (h1 _).mono ?_
 rintro _ _ ⟨rfl,rfl⟩
 simp(config:=zzC)only[go_sem]
 exact yQ0 ⟨rfl,rfl⟩
theorem wXj (G:Gl gl)(l:List Fm)(f:Fm)(tg:Tag)(xs:List IV)(x:IV)(htg:okEs tg 4)(hxs:IsFms l xs)(hx:IsFm f x)(hl:fitL l)(hs:f.size≤1000000)(st:ISt) :
  ICall prog gl 33 [.sl tg xs,x] st (fun r st'=>r=.raw (.bool (hasF l f))∧st'=st):=by
 have h1:=fun st=>yVu gl 86 [.cptr x] (by simp only[go_sem]) l (eqF f) (fun a ha y hy st=>vKm gl G f a x y hx hy hs (hl a ha) st) tg xs htg hxs st
 obtain⟨o5,n5,t5,x5,t6,x6,rfl⟩:=hx.agg
 refine ICall.intro (c:=cf prog gl [] [] [3]) func33 rfl (by show _≤8; simp) (by kernel_rfl) ?_
 simp(config:=zzC)only[go_sem,fits]
 refine (h1 _).mono ?_
 rintro _ _ ⟨rfl,rfl⟩
 simp(config:=zzC)only[go_sem]
 exact yQ0 ⟨rfl,rfl⟩
theorem vKd (G:Gl gl)(l m:List Fm)(t t':Tag)(xs ys:List IV)(ht:okEs t 4)(ht':okEs t' 4)(hxs:IsFms l xs)(hys:IsFms m ys)(hl:fitL l)(hm:fitL m)(st:ISt) :
  ICall prog gl 87 [.sl t xs,.sl t' ys] st (fun r st'=>r=.raw (.bool (allF l m))∧st'=st):=by
 refine iI func87 rfl rfl (by kernel_rfl) ?_
 simp(config:=zzC)only[go_sem,hxs.len]
 intro _
 refine LoopC.ctr l.length (fun k fr st' ds=>(l.take k).all (hasF m)=true∧fr 1=.iv (.sl t' ys)∧fr 7=.iv (.sl t xs)∧fr 8=.iv (.raw (.int .i64 l.length))∧fr 9=.iv (.raw (.int .i64 k))∧st'=st∧ds=[]) ?_ ?_ ?_
 ·simp(config:=zzC)only[go_sem]
  rfl
 ·rintro k fr st1 _ hlt ⟨hn,f1,f7,f8,f9,rfl,rfl⟩
  obtain⟨a,ha⟩:=yQ5 hlt
  obtain⟨y,hky,hy⟩:=hxs.get ha
  have hcall:=wXj gl G m a t' ys y ht' hys hy hm (hl a (lMg ha)) st1
  obtain⟨o5,n5,t5,x5,t6,x6,rfl⟩:=hy.agg
  simp(config:=zzC)only[go_sem,f1,f7,f8,f9,lt_i hlt,yQ1 ht,iNn,hky,fits]
  refine hcall.mono ?_
  rintro _ _ ⟨rfl,rfl⟩
  cases hr:hasF m a
  ·simp(config:=zzC)only[go_sem]
   refine yQ0 ⟨?_,rfl⟩
   have:allF l m=false:=by
    unfold allF
    rw[List.all_eq_false]
    exact⟨a,lMg ha,by simp[hr]⟩
   rw[this]
  ·simp(config:=zzC)only[go_sem,f1,f7,f8,f9,yQf hlt (show l.length≤281474976710656 by omega)]
   rw[yQ6 ha,List.all_append,hn]
   simp[hr]
 ·rintro fr st1 _ ⟨hn,f1,f7,f8,f9,rfl,rfl⟩
  rw[lTl] at hn
  simp(config:=zzC)only[go_sem,f8,f9,yQt (nLi _)]
  exact yQ0 ⟨by rw[show allF l m=true from hn],rfl⟩
def yYj (s:Sq):Prop:=fitL s.l∧fitL s.r
theorem wV2 (G:Gl gl)(a b:Sq)(x y:IV)(hx:IsSq a x)(hy:IsSq b y)(ha:yYj a)(hb:yYj b)(st:ISt):ICall prog gl 35 [x,y] st (fun r st'=>r=.raw (.bool (yKk a b))∧st'=st):=by
 obtain⟨t1,x1,t2,x2,rfl,e1,i1,e2,i2⟩:=hx
 obtain⟨t3,x3,t4,x4,rfl,e3,i3,e4,i4⟩:=hy
 refine iI func35 rfl rfl (by kernel_rfl) ?_
 simp(config:=zzC)only[go_sem]
 refine (vKd gl G a.l b.l t1 t3 x1 x3 e1 e3 i1 i3 ha.1 hb.1 _).mono ?_
 rintro _ _ ⟨rfl,rfl⟩
 cases hr:allF a.l b.l
 ·simp(config:=zzC)only[go_sem]
  exact yQ0 ⟨by simp[yKk,hr],rfl⟩
 ·simp(config:=zzC)only[go_sem]
  refine (vKd gl G a.r b.r t2 t4 x2 x4 e2 e4 i2 i4 ha.2 hb.2 _).mono ?_
  rintro _ _ ⟨rfl,rfl⟩
  simp(config:=zzC)only[go_sem]
  exact yQ0 ⟨by simp[yKk,hr],rfl⟩
theorem yG1 (a b:Int)(v:IV):∀ es:List (Value×IV),yKi (.int .u8 a) (updI (.int .u8 b) v es)=if a=b then some v else yKi (.int .u8 a) es
 | []=>by
  simp only[updI,yKi,yW1]
  by_cases h:a=b<;>simp[h]
 | (x,u)::es=>by
  simp only[updI]
  by_cases hk:yW1 (.int .u8 b) x=true
  ·rw[if_pos hk]
   have hx:∀ c,yW1 (.int .u8 c) x=decide (c=b):=fun c=>by
    cases x<;>simp[yW1] at hk ⊢
    rw[hk]
   have e:yW1 (.int .u8 a) (.int .u8 b)=decide (a=b):=rfl
   simp only[yKi,e,hx]
   by_cases h:a=b<;>simp[h]
  ·rw[if_neg hk]
   simp only[yKi]
   rw[yG1 a b v es]
   by_cases h:a=b
   ·subst h; simp[hk]
   ·simp[h]
def zKp (ca rule:Nat):Nat :=
 if ca=2∧rule=18 then 148 else if ca=2∧rule=8 then 146
 else if rule=13∨rule=15 then 149 else if rule=14∨rule=16 then 151
 else if rule=1 then 196 else if rule=2 then 197 else if rule=3 then 198 else if rule=4 then 199
 else if rule=5 then 200 else if rule=6 then 201 else if rule=7 then 202 else if rule=8 then 203
 else if rule=9 then 204 else if rule=10 then 205 else if rule=11 then 206 else if rule=12 then 208
 else 209
def rwI (ca rule:Nat)(r:Rw):IV:=.agg [.raw (.bool r.left),.raw (.bool r.right),.raw (.int .u8 r.op),.raw (.int .u8 r.asks),.fn (.func (zKp ca rule)) [] []]
def rwL (a b:Bool)(op asks id:Nat):IV:=.agg [.raw (.bool a),.raw (.bool b),.raw (.int .u8 op),.raw (.int .u8 asks),.fn (.func id) [] []]
def zV5:List (Value×IV) :=
 updI (.int .u8 17) (rwL false false 0 0 209) <| updI (.int .u8 12) (rwL false true 7 0 208) <| updI (.int .u8 11) (rwL true false 7 0 206) <|
 updI (.int .u8 10) (rwL false true 6 0 205) <| updI (.int .u8 9) (rwL true false 6 0 204) <| updI (.int .u8 8) (rwL false true 5 0 203) <|
 updI (.int .u8 7) (rwL true false 5 0 202) <| updI (.int .u8 6) (rwL false true 4 0 201) <| updI (.int .u8 5) (rwL true false 4 0 200) <|
 updI (.int .u8 4) (rwL false true 3 0 199) <| updI (.int .u8 3) (rwL true false 3 0 198) <| updI (.int .u8 2) (rwL true false 2 0 197) <|
 updI (.int .u8 1) (rwL true true 0 0 196) []
def yUd (ca:Nat):List (Value×IV) :=
 if ca=2 then updI (.int .u8 18) (rwL false true 5 0 148) <| updI (.int .u8 8) (rwL false true 5 0 146) zV5
 else if ca=3 then updI (.int .u8 16) (rwL false true 9 1 151) <| updI (.int .u8 15) (rwL true false 9 2 149) <| updI (.int .u8 14) (rwL false true 8 2 151) <|
  updI (.int .u8 13) (rwL true false 8 1 149) zV5
 else zV5
theorem wYy (st:ISt):ICall prog gl 145 [] st (fun r st'=>∃ b,st b=none∧r=.raw (.map (some b))∧st'=st.put b (some (.map (.int .u8) zV5))):=by
 refine iI func145 rfl rfl (by kernel_rfl) ?_
 simp(config:=zzC)only[go_sem,fits]
 refine fun b=>yQa fun hb=>?_
 simp(config:=zzC)only[go_sem,fits,yQ8]
 exact yQ0 ⟨b,hb,rfl,rfl⟩
theorem wYr (ca:Nat)(st:ISt):ICall prog gl 102 [.raw (.int .u8 ca)] st (fun r st'=>∃ b,st b=none∧r=.raw (.map (some b))∧st'=st.put b (some (.map (.int .u8) (yUd ca)))):=by
 refine iI func102 rfl rfl (by kernel_rfl) ?_
 simp(config:=zzC)only[go_sem]
 refine (wYy gl _).mono ?_
 rintro _ _ ⟨b,hb,rfl,rfl⟩
 by_cases h2:ca=2
 ·have e2:decide ((ca:Int)=2)=true:=dEt (by omega)
  simp(config:=zzC)only[go_sem,e2,fits,ISt.put_same,yQ8]
  exact yQ0 ⟨b,hb,rfl,by rw[yUd,if_pos h2]; rfl⟩
 ·have e2:decide ((ca:Int)=2)=false:=dEf (by omega)
  by_cases h3:ca=3
  ·have e3:decide ((ca:Int)=3)=true:=dEt (by omega)
   simp(config:=zzC)only[go_sem,e2,e3,fits,ISt.put_same,yQ8]
   exact yQ0 ⟨b,hb,rfl,by rw[yUd,if_neg h2,if_pos h3]; rfl⟩
  ·have e3:decide ((ca:Int)=3)=false:=dEf (by omega)
   simp(config:=zzC)only[go_sem,e2,e3]
   exact yQ0 ⟨b,hb,rfl,by rw[yUd,if_neg h2,if_neg h3]⟩
theorem xZf (rule:Nat):yKi (.int .u8 rule) zV5=(rowK rule).map fun r=>.agg [.raw (.bool r.left),.raw (.bool r.right),.raw (.int .u8 r.op),.raw (.int .u8 r.asks),.fn (.func (zKp 1 rule)) [] []]:=by
 unfold zV5
 simp only[yG1]
 by_cases h:rule≤18
 ·rcases (show rule=0∨rule=1∨rule=2∨rule=3∨rule=4∨rule=5∨rule=6∨rule=7∨rule=8∨rule=9∨rule=10∨rule=11∨rule=12∨rule=13∨rule=14∨rule=15∨rule=16∨rule=17∨rule=18 by omega) with
   rfl | rfl | rfl | rfl | rfl | rfl | rfl | rfl | rfl | rfl | rfl | rfl | rfl | rfl | rfl | rfl | rfl | rfl | rfl<;>rfl
 ·have hn:rowK rule=none:=by unfold rowK; repeat (rw[if_neg (by omega)])
  rw[hn]
  repeat (rw[if_neg (by omega)])
  rfl
theorem zXk (ca rule:Nat):yKi (.int .u8 rule) (yUd ca)=(rowS ca rule).map (rwI ca rule):=by
 have hp:=xZf rule
 by_cases h:rule≤18
 ·have hr:rule=0∨rule=1∨rule=2∨rule=3∨rule=4∨rule=5∨rule=6∨rule=7∨rule=8∨rule=9∨rule=10∨rule=11∨rule=12∨rule=13∨rule=14∨rule=15∨rule=16∨rule=17∨rule=18:=by omega
  by_cases h2:ca=2
  ·subst h2
   simp only[yUd,if_true,yG1,hp]
   rcases hr with rfl | rfl | rfl | rfl | rfl | rfl | rfl | rfl | rfl | rfl | rfl | rfl | rfl | rfl | rfl | rfl | rfl | rfl | rfl<;>rfl
  ·by_cases h3:ca=3
   ·subst h3
    simp only[yUd,if_true,if_neg h2,yG1,hp]
    rcases hr with rfl | rfl | rfl | rfl | rfl | rfl | rfl | rfl | rfl | rfl | rfl | rfl | rfl | rfl | rfl | rfl | rfl | rfl | rfl<;>rfl
   ·have hk:rowS ca rule=rowK rule:=by
     unfold rowS; rw[if_neg (by omega),if_neg (by omega),if_neg (by omega),if_neg (by omega),if_neg (by omega)]
    have hi:∀ r,rowK rule=some r→zKp 1 rule=zKp ca rule:=fun _ _=>by
     unfold zKp
     rw[if_neg (by omega),if_neg (by omega)]
     conv=>rhs; rw[if_neg (by omega),if_neg (by omega)]
    simp only[yUd,if_neg h2,if_neg h3,hp,hk]
    cases hq:rowK rule with
    | none=>rfl
    | some r=>simp only[Option.map_some,rwI,hi r hq]
 ·have hn:rowS ca rule=none:=by
   unfold rowS
   rw[if_neg (by omega),if_neg (by omega),if_neg (by omega),if_neg (by omega),if_neg (by omega)]
   unfold rowK; repeat (rw[if_neg (by omega)])
  have hk:rowK rule=none:=by unfold rowK; repeat (rw[if_neg (by omega)])
  rw[hk] at hp
  rw[hn]
  unfold yUd
  split
  ·simp only[yG1,hp]; repeat (rw[if_neg (by omega)])
   rfl
  ·split
   ·simp only[yG1,hp]; repeat (rw[if_neg (by omega)])
    rfl
   ·rw[hp]; rfl
theorem wV1 {ca rule:Nat}{r:Rw}(h:rowS ca rule=some r):yWr gl (zKp ca rule) (addS ca rule)∧entI prog (zKp ca rule)=true:=by
 have hr:rule≤18:=by
  refine Classical.byContradiction fun hc=>?_
  have hn:rowS ca rule=none:=by
   unfold rowS
   rw[if_neg (by omega),if_neg (by omega),if_neg (by omega),if_neg (by omega),if_neg (by omega)]
   unfold rowK; repeat (rw[if_neg (by omega)])
  rw[hn] at h; cases h
 have hcas:rule=0∨rule=1∨rule=2∨rule=3∨rule=4∨rule=5∨rule=6∨rule=7∨rule=8∨rule=9∨rule=10∨rule=11∨rule=12∨rule=13∨rule=14∨rule=15∨rule=16∨rule=17∨rule=18:=by omega
 by_cases h2:ca=2
 ·subst h2
  rcases hcas with rfl | rfl | rfl | rfl | rfl | rfl | rfl | rfl | rfl | rfl | rfl | rfl | rfl | rfl | rfl | rfl | rfl | rfl | rfl
  all_goals first | (cases h; done) | exact⟨wXe gl,by kernel_rfl⟩ | exact⟨wXd gl,by kernel_rfl⟩ | exact⟨wXc gl,by kernel_rfl⟩ | exact⟨wXb gl,by kernel_rfl⟩ | exact⟨wXa gl,by kernel_rfl⟩ | exact⟨wX9 gl,by kernel_rfl⟩ | exact⟨wX8 gl,by kernel_rfl⟩ | exact⟨wX7 gl,by kernel_rfl⟩ | exact⟨xXr gl,by kernel_rfl⟩ | exact⟨wX6 gl,by kernel_rfl⟩ | exact⟨xXw gl,by kernel_rfl⟩ | exact⟨xXv gl,by kernel_rfl⟩ | exact⟨xXu gl,by kernel_rfl⟩ | exact⟨xXt gl,by kernel_rfl⟩ | exact⟨xXs gl,by kernel_rfl⟩ | exact⟨wX5 gl,by kernel_rfl⟩ | exact⟨wX4 gl,by kernel_rfl⟩
 ·by_cases h3:ca=3
  ·subst h3
   rcases hcas with rfl | rfl | rfl | rfl | rfl | rfl | rfl | rfl | rfl | rfl | rfl | rfl | rfl | rfl | rfl | rfl | rfl | rfl | rfl
   all_goals first | (cases h; done) | exact⟨wXe gl,by kernel_rfl⟩ | exact⟨wXd gl,by kernel_rfl⟩ | exact⟨wXc gl,by kernel_rfl⟩ | exact⟨wXb gl,by kernel_rfl⟩ | exact⟨wXa gl,by kernel_rfl⟩ | exact⟨wX9 gl,by kernel_rfl⟩ | exact⟨wX8 gl,by kernel_rfl⟩ | exact⟨wX7 gl,by kernel_rfl⟩ | exact⟨xXr gl,by kernel_rfl⟩ | exact⟨wX6 gl,by kernel_rfl⟩ | exact⟨xXw gl,by kernel_rfl⟩ | exact⟨xXv gl,by kernel_rfl⟩ | exact⟨xXu gl,by kernel_rfl⟩ | exact⟨xXt gl,by kernel_rfl⟩ | exact⟨xXs gl,by kernel_rfl⟩ | exact⟨wX5 gl,by kernel_rfl⟩ | exact⟨wX4 gl,by kernel_rfl⟩
  ·have hk:rowS ca rule=rowS 1 rule:=by
    unfold rowS
    rw[if_neg (by omega),if_neg (by omega),if_neg (by omega),if_neg (by omega),if_neg (by omega)]
    conv=>rhs; rw[if_neg (by omega),if_neg (by omega),if_neg (by omega),if_neg (by omega),if_neg (by omega)]
   have hi:zKp ca rule=zKp 1 rule:=by
    unfold zKp
    rw[if_neg (by omega),if_neg (by omega)]
    conv=>rhs; rw[if_neg (by omega),if_neg (by omega)]
   have hs:addS ca rule=addS 1 rule:=by
    funext m a b
    unfold addS
    rw[if_neg h2,if_neg (show ¬ (1:Nat)=2 by decide)]
   rw[hk] at h
   rw[hi,hs]
   rcases hcas with rfl | rfl | rfl | rfl | rfl | rfl | rfl | rfl | rfl | rfl | rfl | rfl | rfl | rfl | rfl | rfl | rfl | rfl | rfl
   all_goals first | (cases h; done) | exact⟨wXe gl,by kernel_rfl⟩ | exact⟨wXd gl,by kernel_rfl⟩ | exact⟨wXc gl,by kernel_rfl⟩ | exact⟨wXb gl,by kernel_rfl⟩ | exact⟨wXa gl,by kernel_rfl⟩ | exact⟨wX9 gl,by kernel_rfl⟩ | exact⟨wX8 gl,by kernel_rfl⟩ | exact⟨wX7 gl,by kernel_rfl⟩ | exact⟨xXr gl,by kernel_rfl⟩ | exact⟨wX6 gl,by kernel_rfl⟩ | exact⟨xXw gl,by kernel_rfl⟩ | exact⟨xXv gl,by kernel_rfl⟩ | exact⟨xXu gl,by kernel_rfl⟩ | exact⟨xXt gl,by kernel_rfl⟩ | exact⟨xXs gl,by kernel_rfl⟩ | exact⟨wX5 gl,by kernel_rfl⟩ | exact⟨wX4 gl,by kernel_rfl⟩
noncomputable def rB (ca:Nat)(a0 f:Fm):Bool:=fmB ca f&&(decide (ca≠2) || eqF f a0)
theorem wVy (ca:Nat)(a0:Fm):∀ l:List Fm,l.all (rB ca a0)=(l.all (fmB ca)&&(decide (ca≠2) || l.all fun f=>eqF f a0))
 | []=>by simp
 | f::l=>by
  simp only[List.all_cons,wVy ca a0 l,rB]
  cases fmB ca f<;>cases l.all (fmB ca)<;>cases decide (ca≠2)<;>simp
theorem xG1 (ca:Nat)(s:Sq):yXe ca s=(yKe ca&&decide (s.l.length≤64)&&decide (s.r.length≤64)&&s.l.all (fmB ca)&&s.r.all (rB ca (s.r.headD fm0))):=by
 rw[wVy]
 unfold yXe yWk
 cases s.r with
 | nil=>simp
 | cons a l=>simp only[List.headD_cons,Bool.and_assoc]
theorem wUc (G:Gl gl)(ca:Nat)(s:Sq)(x:IV)(hx:IsSq s x)(hs:yYj s)(st:ISt):ICall prog gl 31 [.raw (.int .u8 ca),x] st (fun r st'=>r=.raw (.bool (yXe ca s))∧st'=st):=by
 obtain⟨l,r⟩:=s
 obtain⟨t1,x1,t2,x2,rfl,e1,i1,e2,i2⟩:=hx
 obtain⟨hl,hr⟩:=hs
 simp only at i1 i2 hl hr
 rw[xG1]
 simp only
 refine iI func31 rfl rfl (by kernel_rfl) ?_
 simp(config:=zzC)only[go_sem]
 refine (xX2 gl ca _).mono ?_
 rintro _ st ⟨rfl,rfl⟩
 cases hk:yKe ca
 ·simp(config:=zzC)only[go_sem]
  exact yQ0 ⟨by simp,rfl⟩
 by_cases h1:l.length≤64
 case neg =>
  have e:decide ((64:Int)<(l.length:Int))=true:=dEt (by omega)
  simp(config:=zzC)only[go_sem,i1.len,e]
  intro _
  exact yQ0 ⟨by simp[h1],rfl⟩
 by_cases h2:r.length≤64
 case neg =>
  have e:decide ((64:Int)<(l.length:Int))=false:=dEf (by omega)
  have e':decide ((64:Int)<(r.length:Int))=true:=dEt (by omega)
  simp(config:=zzC)only[go_sem,i1.len,i2.len,e,e']
  intro _ _
  exact yQ0 ⟨by simp[h2],rfl⟩
 have e:decide ((64:Int)<(l.length:Int))=false:=dEf (by omega)
 have e':decide ((64:Int)<(r.length:Int))=false:=dEf (by omega)
 simp(config:=zzC)only[go_sem,i1.len,i2.len,e,e']
 intros
 refine LoopC.ctr l.length (fun k fr st' ds=>(l.take k).all (fmB ca)=true∧fr 0=.iv (.raw (.int .u8 ca))∧fr 3=.box [.sl t1 x1,.sl t2 x2]∧fr 25=.iv (.sl t1 x1)∧fr 26=.iv (.raw (.int .i64 l.length))∧fr 27=.iv (.raw (.int .i64 k))∧st'=st∧ds=[]) ?_ ?_ ?_
 ·simp(config:=zzC)only[go_sem]
  first | rfl | exact⟨rfl,rfl⟩
 ·rintro k fr st1 _ hlt ⟨hn,f0,f3,f25,f26,f27,rfl,rfl⟩
  obtain⟨a,ha⟩:=yQ5 hlt
  obtain⟨y,hky,hy⟩:=i1.get ha
  have hcall:=zJd gl G ca a y hy (hl a (lMg ha)) st1
  obtain⟨o5,n5,t5,x5,t6,x6,rfl⟩:=hy.agg
  simp(config:=zzC)only[go_sem,f0,f3,f25,f26,f27,lt_i hlt,yQ1 e1,iNn,hky,fits]
  refine hcall.mono ?_
  rintro _ _ ⟨rfl,rfl⟩
  cases hr:fmB ca a
  ·simp(config:=zzC)only[go_sem]
   refine yQ0 ⟨?_,rfl⟩
   have:l.all (fmB ca)=false:=List.all_eq_false.2 ⟨a,lMg ha,by simp[hr]⟩
   simp[this]
  ·simp(config:=zzC)only[go_sem,f0,f3,f25,f26,f27,yQf hlt (show l.length≤281474976710656 by omega)]
   rw[yQ6 ha,List.all_append,hn]
   simp[hr]
 ·rintro fr st1 _ ⟨hn,f0,f3,f25,f26,f27,rfl,rfl⟩
  rw[lTl] at hn
  simp(config:=zzC)only[go_sem,f0,f3,f25,f26,f27,i2.len,yQt (nLi _)]
  intro _
  refine LoopC.ctr r.length (fun k fr st' ds=>(r.take k).all (rB ca (r.headD fm0))=true∧fr 0=.iv (.raw (.int .u8 ca))∧fr 3=.box [.sl t1 x1,.sl t2 x2]∧fr 37=.iv (.sl t2 x2)∧fr 38=.iv (.raw (.int .i64 r.length))∧fr 39=.iv (.raw (.int .i64 k))∧st'=st1∧ds=[]) ?_ ?_ ?_
  ·simp(config:=zzC)only[go_sem,f0,f3]
   first | rfl | exact⟨rfl,rfl⟩
  ·rintro k fr st2 _ hlt ⟨hm,f0,f3,f37,f38,f39,rfl,rfl⟩
   obtain⟨a,ha⟩:=yQ5 hlt
   obtain⟨y,hky,hy⟩:=i2.get ha
   obtain⟨a0,ha0⟩:=yQ5 (show 0<r.length by omega)
   obtain⟨y0,hky0,hy0⟩:=i2.get ha0
   have hd0:r.headD fm0=a0:=by cases r with | nil=>cases ha0 | cons b r=>simpa using ha0
   have hcall:=zJd gl G ca a y hy (hr a (lMg ha)) st2
   have heq:=fun st=>wZh gl G a a0 y y0 hy hy0 (hr a (lMg ha)) (hr a0 (lMg ha0)) st
   rw[hd0] at hm ⊢
   have hout:rB ca a0 a=false→r.all (rB ca a0)=false:=fun hb=>List.all_eq_false.2 ⟨a,lMg ha,by simp[hb]⟩
   have hin:rB ca a0 a=true→(r.take (k+1)).all (rB ca a0)=true:=fun hb=>by
    rw[yQ6 ha,List.all_append,hm]
    simp[hb]
   obtain⟨o5,n5,t5,x5,t6,x6,rfl⟩:=hy.agg
   obtain⟨o7,n7,t7,x7,t8,x8,rfl⟩:=hy0.agg
   simp(config:=zzC)only[go_sem,f0,f3,f37,f38,f39,lt_i hlt,yQ1 e2,iNn,hky,fits]
   refine hcall.mono ?_
   rintro _ _ ⟨rfl,rfl⟩
   cases hr:fmB ca a
   ·simp(config:=zzC)only[go_sem]
    exact yQ0 ⟨by rw[hout (by simp[rB,hr])]; simp,rfl⟩
   by_cases hj:ca=2
   ·have ej:decide ((ca:Int)=2)=true:=dEt (by omega)
    simp(config:=zzC)only[go_sem,ej,f0,f3,yQ1 e2,hky0,fits,Int.le_refl,Int.toNat_zero]
    refine (heq _).mono ?_
    rintro _ _ ⟨rfl,rfl⟩
    cases hq:eqF a a0
    ·simp(config:=zzC)only[go_sem]
     exact yQ0 ⟨by rw[hout (by simp[rB,hj,hq])]; simp,rfl⟩
    ·simp(config:=zzC)only[go_sem,f0,f3,f37,f38,f39,yQf hlt (show r.length≤281474976710656 by omega)]
     exact hin (by simp[rB,hr,hq])
   ·have ej:decide ((ca:Int)=2)=false:=dEf (by omega)
    simp(config:=zzC)only[go_sem,ej,f0,f3,f37,f38,f39,yQf hlt (show r.length≤281474976710656 by omega)]
    exact hin (by simp[rB,hr,hj])
  ·rintro fr st2 _ ⟨hm,f0,f3,f37,f38,f39,rfl,rfl⟩
   rw[lTl] at hm
   simp(config:=zzC)only[go_sem,f38,f39,yQt (nLi _)]
   exact yQ0 ⟨by rw[hn,hm]; simp[h1,h2],rfl⟩
theorem xYp (tg:Tag)(htg:okEs tg 1)(l:List ByteArray)(s:ByteArray)(st:ISt):ICall prog gl 192 [.sl tg (strI l),.raw (.string s)] st (fun r st'=>r=.raw (.bool (memB l s))∧st'=st):=by
 have hidx:ICall prog gl 256 [.sl tg (strI l),.raw (.string s)] st (fun r st'=>(∃ n:Int,r=.raw (.int .i64 n)∧decide (0≤n)=memB l s)∧st'=st):=by
  refine iI func256 rfl rfl (by kernel_rfl) ?_
  simp(config:=zzC)only[go_sem,xQu]
  intro _
  refine LoopC.ctr l.length (fun k fr st' ds=>memB (l.take k) s=false∧fr 0=.iv (.sl tg (strI l))∧fr 1=.iv (.raw (.string s))∧fr 7=.iv (.raw (.int .i64 l.length))∧fr 8=.iv (.raw (.int .i64 k))∧st'=st∧ds=[]) ?_ ?_ ?_
  ·simp(config:=zzC)only[go_sem]
   exact⟨rfl,rfl⟩
  ·rintro k fr st1 _ hlt ⟨hn,f0,f1,f7,f8,rfl,rfl⟩
   obtain⟨a,ha⟩:=yQ5 hlt
   by_cases hr:s=a
   ·subst hr
    simp(config:=zzC)only[go_sem,f0,f1,f7,f8,lt_i hlt,yQ1 htg,iNn,xJm ha,fits,decide_true]
    refine yQ0 ⟨⟨_,rfl,?_⟩,rfl⟩
    rw[dEt (iNn k)]
    exact (yZo.2 (lMg ha)).symm
   ·simp(config:=zzC)only[go_sem,f0,f1,f7,f8,lt_i hlt,yQ1 htg,iNn,xJm ha,fits,dEf hr,yQf hlt (show l.length≤281474976710656 by omega)]
    rw[zZk] at hn ⊢
    rw[yQ6 ha,List.mem_append,List.mem_singleton]
    rintro (h | h)
    ·exact hn h
    ·exact hr h
  ·rintro fr st1 _ ⟨hn,f0,f1,f7,f8,rfl,rfl⟩
   rw[lTl] at hn
   simp(config:=zzC)only[go_sem,f7,f8,yQt (nLi _)]
   exact yQ0 ⟨⟨_,rfl,by rw[hn]; rfl⟩,rfl⟩
 refine iI func192 rfl rfl (by kernel_rfl) ?_
 simp(config:=zzC)only[go_sem]
 refine hidx.mono ?_
 rintro _ _ ⟨⟨n,rfl,hn⟩,rfl⟩
 simp(config:=zzC)only[go_sem,hn]
 exact yQ0 ⟨rfl,rfl⟩
theorem wQx (T:Gt gl)(f:Fm)(y:IV)(hy:IsFm f y)(hs:f.size≤1000000)(hf:f.right=true)(s:ByteArray)(st:ISt) :
  ICall prog gl 191 [y,.cptr (.raw (.string s))] st (fun r st'=>r=.raw (.bool (memB (frF f) s))∧st'=st):=by
 have h1:=fun st=>wWt gl T f y hy (by omega) (fun q hq=>by have:=wG2 (wQy f (yJn hf).1 q hq); omega) st
 obtain⟨o5,n5,t5,x5,t6,x6,rfl⟩:=hy.agg
 refine ICall.intro (c:=cf prog gl [] [(1,[0,2,1,3,4])]) func191 rfl (by show _≤8; simp) (by kernel_rfl) ?_
 simp(config:=zzC)only[go_sem,fits]
 refine (h1 _).mono ?_
 rintro _ _ ⟨tg,l,rfl,htg,hl,rfl⟩
 simp(config:=zzC)only[go_sem,fits]
 refine (xYp gl tg htg l s _).mono ?_
 rintro _ _ ⟨rfl,rfl⟩
 simp(config:=zzC)only[go_sem]
 refine yQ0 ⟨?_,rfl⟩
 have:memB l s=memB (frF f) s:=by
  rw[Bool.eq_iff_iff,yZo,yZo]; exact hl.2 s
 rw[this]
theorem vXx (T:Gt gl)(s:Sq)(x:IV)(hx:IsSq s x)(hs:yYj s)(hr:(∀ f∈s.l,f.right=true)∧∀ f∈s.r,f.right=true)(n:ByteArray)(st:ISt) :
  ICall prog gl 141 [x,.raw (.string n)] st (fun r st'=>r=.raw (.bool (yJt s n))∧st'=st):=by
 obtain⟨t1,x1,t2,x2,rfl,e1,i1,e2,i2⟩:=hx
 have h1:=fun st=>yVu gl 191 [.cptr (.raw (.string n))] (by simp only[go_sem]) s.l (fun f=>memB (frF f) n) (fun a ha y hy st=>wQx gl T a y hy (hs.1 a ha) (hr.1 a ha) n st) t1 x1 e1 i1 st
 have h2:=fun st=>yVu gl 191 [.cptr (.raw (.string n))] (by simp only[go_sem]) s.r (fun f=>memB (frF f) n) (fun a ha y hy st=>wQx gl T a y hy (hs.2 a ha) (hr.2 a ha) n st) t2 x2 e2 i2 st
 refine ICall.intro (c:=cf prog gl [] [] [3]) func141 rfl (by show _≤17; simp) (by kernel_rfl) ?_
 simp(config:=zzC)only[go_sem,fits]
 refine (h1 _).mono ?_
 rintro _ _ ⟨rfl,rfl⟩
 cases hq:s.l.any fun f=>memB (frF f) n
 ·simp(config:=zzC)only[go_sem]
  refine (h2 _).mono ?_
  rintro _ _ ⟨rfl,rfl⟩
  simp(config:=zzC)only[go_sem]
  exact yQ0 ⟨by simp[yJt,hq],rfl⟩
 ·simp(config:=zzC)only[go_sem]
  exact yQ0 ⟨by simp[yJt,hq],rfl⟩
theorem yZq (f:Fm)(l:Sb):(yZg f l).1.size≤400:=by
 unfold yZg
 split
 ·split
  ·rename_i h
   simp only[bAt,dTe] at h
   exact h.1
  ·show fm0.size≤400
   decide
 ·show fm0.size≤400
  decide
theorem uXv:IsFm fm0 (.agg [.raw (.int .u8 0),.raw (.string ⟨#[]⟩),.sl ⟨true,.nil,0⟩ [],.sl ⟨true,.nil,0⟩ []]):=vJ3 _ _ (.inl rfl) (.inl rfl)
theorem xJl {sub:List Fm}{xs:List IV}(h:IsFms sub xs)(k:Nat):∃ y,IsFm ((sub[k]?).getD fm0) y∧(sub.length≤k→y=.agg [.raw (.int .u8 0),.raw (.string ⟨#[]⟩),.sl ⟨true,.nil,0⟩ [],.sl ⟨true,.nil,0⟩ []])∧(k<sub.length→xs[k]?=some y):=by
 by_cases hk:k<sub.length
 ·obtain⟨a,ha⟩:=yQ5 hk
  obtain⟨y,hy,hf⟩:=h.get ha
  exact⟨y,by rw[ha]; exact hf,fun hc=>by omega,fun _=>hy⟩
 ·exact⟨_,by rw[List.getElem?_eq_none (by omega)]; exact uXv,fun _=>rfl,fun hc=>absurd hc hk⟩
def AdR (st:ISt)(q:List Sq×Nat)(r:IV)(st':ISt):Prop:=∃ tg xs,r=.tup [.sl tg xs,.raw (.int .i64 q.2)]∧okEs tg 2∧IsSqs q.1 xs∧st'=st
def AdRD (st:ISt)(q:List Sq×Nat)(r:IV)(st':ISt):Prop:=∃ tg xs,r=.tup [.sl tg xs,.raw (.int .i64 q.2)]∧okEs tg 2∧appT q.1.length tg∧IsSqsD q.1 xs∧st'=st
theorem AdRD.w {st:ISt}{q:List Sq×Nat}(r:IV)(st':ISt):AdRD st q r st'→AdR st q r st':=fun⟨tg,xs,h1,h2,_,h4,h5⟩=>⟨tg,xs,h1,h2,h4.w,h5⟩
theorem yQu {o:Nat}{n:ByteArray}{us:List Tm}{sub:List Fm}(h:(Fm.mk o n us sub).size≤1000000)(k:Nat):((sub[k]?).getD fm0).size≤1000000:=by
 cases ha:sub[k]? with
 | none=>show fm0.size≤1000000; decide
 | some a =>
  have:=(yQw ha).2
  simp only[Fm.size] at h
  show a.size≤1000000
  omega
theorem yQo {ca rule:Nat}{r:Rw}{main:Fm}{term:Tm}{name:ByteArray}(h:fmB ca main=true)(h':r.op=0∨main.op=r.op):yXw ca rule r main term name =
  if r.asks=0 then (addS ca rule main ((main.subs[0]?).getD fm0) ((main.subs[1]?).getD fm0),0)
  else if !(if r.asks=2 then Tm.mk true name [] else term).ok then ([],193)
  else if (yZg ((main.subs[0]?).getD fm0) [(main.nm,if r.asks=2 then Tm.mk true name [] else term)]).2≠0 then ([],193)
  else (addS ca rule main (yZg ((main.subs[0]?).getD fm0) [(main.nm,if r.asks=2 then Tm.mk true name [] else term)]).1 ((main.subs[1]?).getD fm0),0):=by
 have e:(!fmB ca main || (decide (r.op≠0)&&decide (main.op≠r.op)))=false:=by
  rw[h]
  rcases h' with h' | h'<;>simp[h']
 simp only[yXw,e,bFt,if_false]
theorem vKf (G:Gl gl)(T:Gt gl)(ca rule:Nat)(r:Rw)(hr:rowS ca rule=some r)(main:Fm)(y:IV)(hy:IsFm main y)(hm:main.size≤1000000)(term:Tm)(z:IV)(hz:IsTm term z)(ht:term.size≤1000000)(name:ByteArray)(st:ISt) :
  ICall prog gl 103 [rwI ca rule r,.raw (.int .u8 ca),y,z,.raw (.string name)] st (AdRD st (yXw ca rule r main term name)):=by
 obtain⟨hadd,hent⟩:=wV1 gl hr
 have hf:=fun st=>zJd gl G ca main y hy hm st
 obtain⟨rl,rr,op,asks⟩:=r
 obtain⟨o,n,us,sub⟩:=main
 have hy0:=hy
 obtain⟨t1,x1,t2,x2,rfl,ho,e1,i1,e2,i2⟩:=hy.mk
 obtain⟨v,un,tz,xz,rfl⟩:∃ v un tz xz,z=.agg [.raw (.bool v),.raw (.string un),.sl tz xz]:=by
  obtain⟨v,un,us⟩:=term
  obtain⟨tz,xz,rfl,_⟩:=hz.mk
  exact⟨_,_,_,_,rfl⟩
 obtain⟨z1,hz1,hz1n,hz1s⟩:=xJl i2 0
 obtain⟨z2,hz2,hz2n,hz2s⟩:=xJl i2 1
 have hE:fmB ca (.mk o n us sub)=false→yXw ca rule ⟨rl,rr,op,asks⟩ (.mk o n us sub) term name=([],192):=fun h=>by simp only[yXw,h]; rfl
 refine iI func103 rfl rfl (by kernel_rfl) ?_
 simp(config:=zzC)only[go_sem,rwI,fits]
 refine (hf _).mono ?_
 rintro _ _ ⟨rfl,rfl⟩
 cases hfm:fmB ca (.mk o n us sub)
 ·simp(config:=zzC)only[go_sem]
  exact yQ0 (by rw[hE hfm]; exact⟨_,_,rfl,.inl rfl,.inl rfl,rfl,rfl⟩)
 by_cases hop:op=0∨o=op
 case neg =>
  have hq:yXw ca rule ⟨rl,rr,op,asks⟩ (.mk o n us sub) term name=([],192):=by
   have e:(!fmB ca (.mk o n us sub) || (decide (op≠0)&&decide ((Fm.mk o n us sub).op≠op)))=true:=by
    simp only[Fm.op,hfm]
    simp only[not_or] at hop
    simp[hop]
   simp only[yXw,e,if_true]
  simp only[not_or] at hop
  have d1:decide ((op:Int)=0)=false:=dEf (by omega)
  have d2:decide ((o:Int)=(op:Int))=false:=dEf (by omega)
  simp(config:=zzC)only[go_sem,d1,d2,fits]
  exact yQ0 (by rw[hq]; exact⟨_,_,rfl,.inl rfl,.inl rfl,rfl,rfl⟩)
 obtain⟨dop,hdop⟩:∃ b,decide ((op:Int)=0)=b:=⟨_,rfl⟩
 have hdo:dop=false→decide ((o:Int)=(op:Int))=true:=fun h=>by
  subst hdop
  have:=of_decide_eq_false h
  exact dEt (by omega)
 have hop0:=hop
 replace hop:(⟨rl,rr,op,asks⟩:Rw).op=0∨(Fm.mk o n us sub).op=(⟨rl,rr,op,asks⟩:Rw).op:=hop0
 by_cases hl0:0<sub.length
 ·have l0:decide ((0:Int)<(sub.length:Int))=true:=dEt (by omega)
  have g0:=hz1s hl0
  obtain⟨o3,n3,t3,x3,t4,x4,rfl⟩:=hz1.agg
  by_cases hl1:1<sub.length
  ·have l1:decide ((1:Int)<(sub.length:Int))=true:=dEt (by omega)
   have g1:=hz2s hl1
   obtain⟨o5,n5,t5,x5,t6,x6,rfl⟩:=hz2.agg
   cases dop
   ·have hd2:=hdo rfl
    by_cases ha0:asks=0
    ·have d0:decide ((asks:Int)=0)=true:=dEt (by omega)
     have hq:=yQo (rule:=rule) (r:=⟨rl,rr,op,asks⟩) (term:=term) (name:=name) hfm hop
     simp only[if_pos ha0,Fm.subs] at hq
     simp(config:=zzC)only[go_sem,hdop,hd2,l0,l1,i2.len,g0,g1,yQ1 e2,Int.le_refl,Int.toNat_zero,(show (0:Int)≤1 by decide),(show Int.toNat 1=1 from rfl),d0,fits,hent]
     intros
     refine (hadd _ _ _ _ _ _ hy0 hz1 hz2 hm (yQu hm 0) (yQu hm 1) _).mono ?_
     rintro _ _ ⟨tg,xs,rfl,he,hap,hxs,rfl⟩
     simp(config:=zzC)only[go_sem]
     exact yQ0 (by rw[hq]; exact⟨_,_,rfl,he,hap,hxs,rfl⟩)
    ·have d0:decide ((asks:Int)=0)=false:=dEf (by omega)
     by_cases ha2:asks=2
     ·have d2:decide ((asks:Int)=2)=true:=dEt (by omega)
      simp(config:=zzC)only[go_sem,hdop,hd2,l0,l1,i2.len,g0,g1,yQ1 e2,Int.le_refl,Int.toNat_zero,(show (0:Int)≤1 by decide),(show Int.toNat 1=1 from rfl),d0,d2,fits,hent]
      intros
      refine (yW5 gl (Tm.mk true name []) _ (show IsTm (Tm.mk true name []) _ from⟨_,_,rfl,.inl rfl,rfl⟩) (by show 1≤_; decide) _).mono ?_
      rintro _ _ ⟨rfl,rfl⟩
      cases hk:Tm.ok (Tm.mk true name [])
      ·simp(config:=zzC)only[go_sem]
       have hq:=yQo (rule:=rule) (r:=⟨rl,rr,op,asks⟩) (term:=term) (name:=name) hfm hop
       simp only[if_neg ha0,if_pos ha2,hk,Bool.not_false,if_true] at hq
       exact yQ0 (by rw[hq]; exact⟨_,_,rfl,.inl rfl,.inl rfl,rfl,rfl⟩)
      simp(config:=zzC)only[go_sem,fits]
      refine (zZe gl G T _ _ hz1 (yQu hm 0) n (Tm.mk true name []) _ (show IsTm (Tm.mk true name []) _ from⟨_,_,rfl,.inl rfl,rfl⟩) (by show 1≤_; decide) _).mono ?_
      rintro _ _ ⟨y3,rfl,hy3,rfl⟩
      have hy4:=hy3
      obtain⟨o8,n8,t8,x8,t9,x9,rfl⟩:=hy3.agg
      by_cases he:(yZg ((sub[0]?).getD fm0) [(n,(Tm.mk true name []))]).2=0
      ·have hq:=yQo (rule:=rule) (r:=⟨rl,rr,op,asks⟩) (term:=term) (name:=name) hfm hop
       simp only[if_neg ha0,if_pos ha2,hk,Bool.not_true,bFt,if_false,Fm.subs,Fm.nm,he,ne_eq,nTf] at hq
       simp(config:=zzC)only[go_sem,fits,he,hent,show decide (((0:Nat):Int)=0)=true from rfl]
       refine (hadd _ _ _ _ _ _ hy0 hy4 hz2 hm (Nat.le_trans (yZq _ _) (by decide)) (yQu hm 1) _).mono ?_
       rintro _ _ ⟨tg,xs,rfl,he,hap,hxs,rfl⟩
       simp(config:=zzC)only[go_sem]
       exact yQ0 (by rw[hq]; exact⟨_,_,rfl,he,hap,hxs,rfl⟩)
      ·have hq:=yQo (rule:=rule) (r:=⟨rl,rr,op,asks⟩) (term:=term) (name:=name) hfm hop
       simp only[if_neg ha0,if_pos ha2,hk,Bool.not_true,bFt,if_false,Fm.subs,Fm.nm,ne_eq,he,nFt,if_true] at hq
       have hd:decide (((yZg ((sub[0]?).getD fm0) [(n,(Tm.mk true name []))]).2:Int)=0)=false:=dEf (by omega)
       simp(config:=zzC)only[go_sem,fits,hd]
       exact yQ0 (by rw[hq]; exact⟨_,_,rfl,.inl rfl,.inl rfl,rfl,rfl⟩)
     ·have d2:decide ((asks:Int)=2)=false:=dEf (by omega)
      simp(config:=zzC)only[go_sem,hdop,hd2,l0,l1,i2.len,g0,g1,yQ1 e2,Int.le_refl,Int.toNat_zero,(show (0:Int)≤1 by decide),(show Int.toNat 1=1 from rfl),d0,d2,fits,hent]
      intros
      refine (yW5 gl term _ hz ht _).mono ?_
      rintro _ _ ⟨rfl,rfl⟩
      cases hk:Tm.ok term
      ·simp(config:=zzC)only[go_sem]
       have hq:=yQo (rule:=rule) (r:=⟨rl,rr,op,asks⟩) (term:=term) (name:=name) hfm hop
       simp only[if_neg ha0,if_neg ha2,hk,Bool.not_false,if_true] at hq
       exact yQ0 (by rw[hq]; exact⟨_,_,rfl,.inl rfl,.inl rfl,rfl,rfl⟩)
      simp(config:=zzC)only[go_sem,fits]
      refine (zZe gl G T _ _ hz1 (yQu hm 0) n term _ hz ht _).mono ?_
      rintro _ _ ⟨y3,rfl,hy3,rfl⟩
      have hy4:=hy3
      obtain⟨o8,n8,t8,x8,t9,x9,rfl⟩:=hy3.agg
      by_cases he:(yZg ((sub[0]?).getD fm0) [(n,term)]).2=0
      ·have hq:=yQo (rule:=rule) (r:=⟨rl,rr,op,asks⟩) (term:=term) (name:=name) hfm hop
       simp only[if_neg ha0,if_neg ha2,hk,Bool.not_true,bFt,if_false,Fm.subs,Fm.nm,he,ne_eq,nTf] at hq
       simp(config:=zzC)only[go_sem,fits,he,hent,show decide (((0:Nat):Int)=0)=true from rfl]
       refine (hadd _ _ _ _ _ _ hy0 hy4 hz2 hm (Nat.le_trans (yZq _ _) (by decide)) (yQu hm 1) _).mono ?_
       rintro _ _ ⟨tg,xs,rfl,he,hap,hxs,rfl⟩
       simp(config:=zzC)only[go_sem]
       exact yQ0 (by rw[hq]; exact⟨_,_,rfl,he,hap,hxs,rfl⟩)
      ·have hq:=yQo (rule:=rule) (r:=⟨rl,rr,op,asks⟩) (term:=term) (name:=name) hfm hop
       simp only[if_neg ha0,if_neg ha2,hk,Bool.not_true,bFt,if_false,Fm.subs,Fm.nm,ne_eq,he,nFt,if_true] at hq
       have hd:decide (((yZg ((sub[0]?).getD fm0) [(n,term)]).2:Int)=0)=false:=dEf (by omega)
       simp(config:=zzC)only[go_sem,fits,hd]
       exact yQ0 (by rw[hq]; exact⟨_,_,rfl,.inl rfl,.inl rfl,rfl,rfl⟩)
   ·by_cases ha0:asks=0
    ·have d0:decide ((asks:Int)=0)=true:=dEt (by omega)
     have hq:=yQo (rule:=rule) (r:=⟨rl,rr,op,asks⟩) (term:=term) (name:=name) hfm hop
     simp only[if_pos ha0,Fm.subs] at hq
     simp(config:=zzC)only[go_sem,hdop,l0,l1,i2.len,g0,g1,yQ1 e2,Int.le_refl,Int.toNat_zero,(show (0:Int)≤1 by decide),(show Int.toNat 1=1 from rfl),d0,fits,hent]
     intros
     refine (hadd _ _ _ _ _ _ hy0 hz1 hz2 hm (yQu hm 0) (yQu hm 1) _).mono ?_
     rintro _ _ ⟨tg,xs,rfl,he,hap,hxs,rfl⟩
     simp(config:=zzC)only[go_sem]
     exact yQ0 (by rw[hq]; exact⟨_,_,rfl,he,hap,hxs,rfl⟩)
    ·have d0:decide ((asks:Int)=0)=false:=dEf (by omega)
     by_cases ha2:asks=2
     ·have d2:decide ((asks:Int)=2)=true:=dEt (by omega)
      simp(config:=zzC)only[go_sem,hdop,l0,l1,i2.len,g0,g1,yQ1 e2,Int.le_refl,Int.toNat_zero,(show (0:Int)≤1 by decide),(show Int.toNat 1=1 from rfl),d0,d2,fits,hent]
      intros
      refine (yW5 gl (Tm.mk true name []) _ (show IsTm (Tm.mk true name []) _ from⟨_,_,rfl,.inl rfl,rfl⟩) (by show 1≤_; decide) _).mono ?_
      rintro _ _ ⟨rfl,rfl⟩
      cases hk:Tm.ok (Tm.mk true name [])
      ·simp(config:=zzC)only[go_sem]
       have hq:=yQo (rule:=rule) (r:=⟨rl,rr,op,asks⟩) (term:=term) (name:=name) hfm hop
       simp only[if_neg ha0,if_pos ha2,hk,Bool.not_false,if_true] at hq
       exact yQ0 (by rw[hq]; exact⟨_,_,rfl,.inl rfl,.inl rfl,rfl,rfl⟩)
      simp(config:=zzC)only[go_sem,fits]
      refine (zZe gl G T _ _ hz1 (yQu hm 0) n (Tm.mk true name []) _ (show IsTm (Tm.mk true name []) _ from⟨_,_,rfl,.inl rfl,rfl⟩) (by show 1≤_; decide) _).mono ?_
      rintro _ _ ⟨y3,rfl,hy3,rfl⟩
      have hy4:=hy3
      obtain⟨o8,n8,t8,x8,t9,x9,rfl⟩:=hy3.agg
      by_cases he:(yZg ((sub[0]?).getD fm0) [(n,(Tm.mk true name []))]).2=0
      ·have hq:=yQo (rule:=rule) (r:=⟨rl,rr,op,asks⟩) (term:=term) (name:=name) hfm hop
       simp only[if_neg ha0,if_pos ha2,hk,Bool.not_true,bFt,if_false,Fm.subs,Fm.nm,he,ne_eq,nTf] at hq
       simp(config:=zzC)only[go_sem,fits,he,hent,show decide (((0:Nat):Int)=0)=true from rfl]
       refine (hadd _ _ _ _ _ _ hy0 hy4 hz2 hm (Nat.le_trans (yZq _ _) (by decide)) (yQu hm 1) _).mono ?_
       rintro _ _ ⟨tg,xs,rfl,he,hap,hxs,rfl⟩
       simp(config:=zzC)only[go_sem]
       exact yQ0 (by rw[hq]; exact⟨_,_,rfl,he,hap,hxs,rfl⟩)
      ·have hq:=yQo (rule:=rule) (r:=⟨rl,rr,op,asks⟩) (term:=term) (name:=name) hfm hop
       simp only[if_neg ha0,if_pos ha2,hk,Bool.not_true,bFt,if_false,Fm.subs,Fm.nm,ne_eq,he,nFt,if_true] at hq
       have hd:decide (((yZg ((sub[0]?).getD fm0) [(n,(Tm.mk true name []))]).2:Int)=0)=false:=dEf (by omega)
       simp(config:=zzC)only[go_sem,fits,hd]
       exact yQ0 (by rw[hq]; exact⟨_,_,rfl,.inl rfl,.inl rfl,rfl,rfl⟩)
     ·have d2:decide ((asks:Int)=2)=false:=dEf (by omega)
      simp(config:=zzC)only[go_sem,hdop,l0,l1,i2.len,g0,g1,yQ1 e2,Int.le_refl,Int.toNat_zero,(show (0:Int)≤1 by decide),(show Int.toNat 1=1 from rfl),d0,d2,fits,hent]
      intros
      refine (yW5 gl term _ hz ht _).mono ?_
      rintro _ _ ⟨rfl,rfl⟩
      cases hk:Tm.ok term
      ·simp(config:=zzC)only[go_sem]
       have hq:=yQo (rule:=rule) (r:=⟨rl,rr,op,asks⟩) (term:=term) (name:=name) hfm hop
       simp only[if_neg ha0,if_neg ha2,hk,Bool.not_false,if_true] at hq
       exact yQ0 (by rw[hq]; exact⟨_,_,rfl,.inl rfl,.inl rfl,rfl,rfl⟩)
      simp(config:=zzC)only[go_sem,fits]
      refine (zZe gl G T _ _ hz1 (yQu hm 0) n term _ hz ht _).mono ?_
      rintro _ _ ⟨y3,rfl,hy3,rfl⟩
      have hy4:=hy3
      obtain⟨o8,n8,t8,x8,t9,x9,rfl⟩:=hy3.agg
      by_cases he:(yZg ((sub[0]?).getD fm0) [(n,term)]).2=0
      ·have hq:=yQo (rule:=rule) (r:=⟨rl,rr,op,asks⟩) (term:=term) (name:=name) hfm hop
       simp only[if_neg ha0,if_neg ha2,hk,Bool.not_true,bFt,if_false,Fm.subs,Fm.nm,he,ne_eq,nTf] at hq
       simp(config:=zzC)only[go_sem,fits,he,hent,show decide (((0:Nat):Int)=0)=true from rfl]
       refine (hadd _ _ _ _ _ _ hy0 hy4 hz2 hm (Nat.le_trans (yZq _ _) (by decide)) (yQu hm 1) _).mono ?_
       rintro _ _ ⟨tg,xs,rfl,he,hap,hxs,rfl⟩
       simp(config:=zzC)only[go_sem]
       exact yQ0 (by rw[hq]; exact⟨_,_,rfl,he,hap,hxs,rfl⟩)
      ·have hq:=yQo (rule:=rule) (r:=⟨rl,rr,op,asks⟩) (term:=term) (name:=name) hfm hop
       simp only[if_neg ha0,if_neg ha2,hk,Bool.not_true,bFt,if_false,Fm.subs,Fm.nm,ne_eq,he,nFt,if_true] at hq
       have hd:decide (((yZg ((sub[0]?).getD fm0) [(n,term)]).2:Int)=0)=false:=dEf (by omega)
       simp(config:=zzC)only[go_sem,fits,hd]
       exact yQ0 (by rw[hq]; exact⟨_,_,rfl,.inl rfl,.inl rfl,rfl,rfl⟩)
  ·have l1:decide ((1:Int)<(sub.length:Int))=false:=dEf (by omega)
   obtain rfl:=hz2n (by omega)
   cases dop
   ·have hd2:=hdo rfl
    by_cases ha0:asks=0
    ·have d0:decide ((asks:Int)=0)=true:=dEt (by omega)
     have hq:=yQo (rule:=rule) (r:=⟨rl,rr,op,asks⟩) (term:=term) (name:=name) hfm hop
     simp only[if_pos ha0,Fm.subs] at hq
     simp(config:=zzC)only[go_sem,hdop,hd2,l0,l1,i2.len,g0,yQ1 e2,Int.le_refl,Int.toNat_zero,d0,fits,hent]
     intros
     refine (hadd _ _ _ _ _ _ hy0 hz1 hz2 hm (yQu hm 0) (yQu hm 1) _).mono ?_
     rintro _ _ ⟨tg,xs,rfl,he,hap,hxs,rfl⟩
     simp(config:=zzC)only[go_sem]
     exact yQ0 (by rw[hq]; exact⟨_,_,rfl,he,hap,hxs,rfl⟩)
    ·have d0:decide ((asks:Int)=0)=false:=dEf (by omega)
     by_cases ha2:asks=2
     ·have d2:decide ((asks:Int)=2)=true:=dEt (by omega)
      simp(config:=zzC)only[go_sem,hdop,hd2,l0,l1,i2.len,g0,yQ1 e2,Int.le_refl,Int.toNat_zero,d0,d2,fits,hent]
      intros
      refine (yW5 gl (Tm.mk true name []) _ (show IsTm (Tm.mk true name []) _ from⟨_,_,rfl,.inl rfl,rfl⟩) (by show 1≤_; decide) _).mono ?_
      rintro _ _ ⟨rfl,rfl⟩
      cases hk:Tm.ok (Tm.mk true name [])
      ·simp(config:=zzC)only[go_sem]
       have hq:=yQo (rule:=rule) (r:=⟨rl,rr,op,asks⟩) (term:=term) (name:=name) hfm hop
       simp only[if_neg ha0,if_pos ha2,hk,Bool.not_false,if_true] at hq
       exact yQ0 (by rw[hq]; exact⟨_,_,rfl,.inl rfl,.inl rfl,rfl,rfl⟩)
      simp(config:=zzC)only[go_sem,fits]
      refine (zZe gl G T _ _ hz1 (yQu hm 0) n (Tm.mk true name []) _ (show IsTm (Tm.mk true name []) _ from⟨_,_,rfl,.inl rfl,rfl⟩) (by show 1≤_; decide) _).mono ?_
      rintro _ _ ⟨y3,rfl,hy3,rfl⟩
      have hy4:=hy3
      obtain⟨o8,n8,t8,x8,t9,x9,rfl⟩:=hy3.agg
      by_cases he:(yZg ((sub[0]?).getD fm0) [(n,(Tm.mk true name []))]).2=0
      ·have hq:=yQo (rule:=rule) (r:=⟨rl,rr,op,asks⟩) (term:=term) (name:=name) hfm hop
       simp only[if_neg ha0,if_pos ha2,hk,Bool.not_true,bFt,if_false,Fm.subs,Fm.nm,he,ne_eq,nTf] at hq
       simp(config:=zzC)only[go_sem,fits,he,hent,show decide (((0:Nat):Int)=0)=true from rfl]
       refine (hadd _ _ _ _ _ _ hy0 hy4 hz2 hm (Nat.le_trans (yZq _ _) (by decide)) (yQu hm 1) _).mono ?_
       rintro _ _ ⟨tg,xs,rfl,he,hap,hxs,rfl⟩
       simp(config:=zzC)only[go_sem]
       exact yQ0 (by rw[hq]; exact⟨_,_,rfl,he,hap,hxs,rfl⟩)
      ·have hq:=yQo (rule:=rule) (r:=⟨rl,rr,op,asks⟩) (term:=term) (name:=name) hfm hop
       simp only[if_neg ha0,if_pos ha2,hk,Bool.not_true,bFt,if_false,Fm.subs,Fm.nm,ne_eq,he,nFt,if_true] at hq
       have hd:decide (((yZg ((sub[0]?).getD fm0) [(n,(Tm.mk true name []))]).2:Int)=0)=false:=dEf (by omega)
       simp(config:=zzC)only[go_sem,fits,hd]
       exact yQ0 (by rw[hq]; exact⟨_,_,rfl,.inl rfl,.inl rfl,rfl,rfl⟩)
     ·have d2:decide ((asks:Int)=2)=false:=dEf (by omega)
      simp(config:=zzC)only[go_sem,hdop,hd2,l0,l1,i2.len,g0,yQ1 e2,Int.le_refl,Int.toNat_zero,d0,d2,fits,hent]
      intros
      refine (yW5 gl term _ hz ht _).mono ?_
      rintro _ _ ⟨rfl,rfl⟩
      cases hk:Tm.ok term
      ·simp(config:=zzC)only[go_sem]
       have hq:=yQo (rule:=rule) (r:=⟨rl,rr,op,asks⟩) (term:=term) (name:=name) hfm hop
       simp only[if_neg ha0,if_neg ha2,hk,Bool.not_false,if_true] at hq
       exact yQ0 (by rw[hq]; exact⟨_,_,rfl,.inl rfl,.inl rfl,rfl,rfl⟩)
      simp(config:=zzC)only[go_sem,fits]
      refine (zZe gl G T _ _ hz1 (yQu hm 0) n term _ hz ht _).mono ?_
      rintro _ _ ⟨y3,rfl,hy3,rfl⟩
      have hy4:=hy3
      obtain⟨o8,n8,t8,x8,t9,x9,rfl⟩:=hy3.agg
      by_cases he:(yZg ((sub[0]?).getD fm0) [(n,term)]).2=0
      ·have hq:=yQo (rule:=rule) (r:=⟨rl,rr,op,asks⟩) (term:=term) (name:=name) hfm hop
       simp only[if_neg ha0,if_neg ha2,hk,Bool.not_true,bFt,if_false,Fm.subs,Fm.nm,he,ne_eq,nTf] at hq
       simp(config:=zzC)only[go_sem,fits,he,hent,show decide (((0:Nat):Int)=0)=true from rfl]
       refine (hadd _ _ _ _ _ _ hy0 hy4 hz2 hm (Nat.le_trans (yZq _ _) (by decide)) (yQu hm 1) _).mono ?_
       rintro _ _ ⟨tg,xs,rfl,he,hap,hxs,rfl⟩
       simp(config:=zzC)only[go_sem]
       exact yQ0 (by rw[hq]; exact⟨_,_,rfl,he,hap,hxs,rfl⟩)
      ·have hq:=yQo (rule:=rule) (r:=⟨rl,rr,op,asks⟩) (term:=term) (name:=name) hfm hop
       simp only[if_neg ha0,if_neg ha2,hk,Bool.not_true,bFt,if_false,Fm.subs,Fm.nm,ne_eq,he,nFt,if_true] at hq
       have hd:decide (((yZg ((sub[0]?).getD fm0) [(n,term)]).2:Int)=0)=false:=dEf (by omega)
       simp(config:=zzC)only[go_sem,fits,hd]
       exact yQ0 (by rw[hq]; exact⟨_,_,rfl,.inl rfl,.inl rfl,rfl,rfl⟩)
   ·by_cases ha0:asks=0
    ·have d0:decide ((asks:Int)=0)=true:=dEt (by omega)
     have hq:=yQo (rule:=rule) (r:=⟨rl,rr,op,asks⟩) (term:=term) (name:=name) hfm hop
     simp only[if_pos ha0,Fm.subs] at hq
     simp(config:=zzC)only[go_sem,hdop,l0,l1,i2.len,g0,yQ1 e2,Int.le_refl,Int.toNat_zero,d0,fits,hent]
     intros
     refine (hadd _ _ _ _ _ _ hy0 hz1 hz2 hm (yQu hm 0) (yQu hm 1) _).mono ?_
     rintro _ _ ⟨tg,xs,rfl,he,hap,hxs,rfl⟩
     simp(config:=zzC)only[go_sem]
     exact yQ0 (by rw[hq]; exact⟨_,_,rfl,he,hap,hxs,rfl⟩)
    ·have d0:decide ((asks:Int)=0)=false:=dEf (by omega)
     by_cases ha2:asks=2
     ·have d2:decide ((asks:Int)=2)=true:=dEt (by omega)
      simp(config:=zzC)only[go_sem,hdop,l0,l1,i2.len,g0,yQ1 e2,Int.le_refl,Int.toNat_zero,d0,d2,fits,hent]
      intros
      refine (yW5 gl (Tm.mk true name []) _ (show IsTm (Tm.mk true name []) _ from⟨_,_,rfl,.inl rfl,rfl⟩) (by show 1≤_; decide) _).mono ?_
      rintro _ _ ⟨rfl,rfl⟩
      cases hk:Tm.ok (Tm.mk true name [])
      ·simp(config:=zzC)only[go_sem]
       have hq:=yQo (rule:=rule) (r:=⟨rl,rr,op,asks⟩) (term:=term) (name:=name) hfm hop
       simp only[if_neg ha0,if_pos ha2,hk,Bool.not_false,if_true] at hq
       exact yQ0 (by rw[hq]; exact⟨_,_,rfl,.inl rfl,.inl rfl,rfl,rfl⟩)
      simp(config:=zzC)only[go_sem,fits]
      refine (zZe gl G T _ _ hz1 (yQu hm 0) n (Tm.mk true name []) _ (show IsTm (Tm.mk true name []) _ from⟨_,_,rfl,.inl rfl,rfl⟩) (by show 1≤_; decide) _).mono ?_
      rintro _ _ ⟨y3,rfl,hy3,rfl⟩
      have hy4:=hy3
      obtain⟨o8,n8,t8,x8,t9,x9,rfl⟩:=hy3.agg
      by_cases he:(yZg ((sub[0]?).getD fm0) [(n,(Tm.mk true name []))]).2=0
      ·have hq:=yQo (rule:=rule) (r:=⟨rl,rr,op,asks⟩) (term:=term) (name:=name) hfm hop
       simp only[if_neg ha0,if_pos ha2,hk,Bool.not_true,bFt,if_false,Fm.subs,Fm.nm,he,ne_eq,nTf] at hq
       simp(config:=zzC)only[go_sem,fits,he,hent,show decide (((0:Nat):Int)=0)=true from rfl]
       refine (hadd _ _ _ _ _ _ hy0 hy4 hz2 hm (Nat.le_trans (yZq _ _) (by decide)) (yQu hm 1) _).mono ?_
       rintro _ _ ⟨tg,xs,rfl,he,hap,hxs,rfl⟩
       simp(config:=zzC)only[go_sem]
       exact yQ0 (by rw[hq]; exact⟨_,_,rfl,he,hap,hxs,rfl⟩)
      ·have hq:=yQo (rule:=rule) (r:=⟨rl,rr,op,asks⟩) (term:=term) (name:=name) hfm hop
       simp only[if_neg ha0,if_pos ha2,hk,Bool.not_true,bFt,if_false,Fm.subs,Fm.nm,ne_eq,he,nFt,if_true] at hq
       have hd:decide (((yZg ((sub[0]?).getD fm0) [(n,(Tm.mk true name []))]).2:Int)=0)=false:=dEf (by omega)
       simp(config:=zzC)only[go_sem,fits,hd]
       exact yQ0 (by rw[hq]; exact⟨_,_,rfl,.inl rfl,.inl rfl,rfl,rfl⟩)
     ·have d2:decide ((asks:Int)=2)=false:=dEf (by omega)
      simp(config:=zzC)only[go_sem,hdop,l0,l1,i2.len,g0,yQ1 e2,Int.le_refl,Int.toNat_zero,d0,d2,fits,hent]
      intros
      refine (yW5 gl term _ hz ht _).mono ?_
      rintro _ _ ⟨rfl,rfl⟩
      cases hk:Tm.ok term
      ·simp(config:=zzC)only[go_sem]
       have hq:=yQo (rule:=rule) (r:=⟨rl,rr,op,asks⟩) (term:=term) (name:=name) hfm hop
       simp only[if_neg ha0,if_neg ha2,hk,Bool.not_false,if_true] at hq
       exact yQ0 (by rw[hq]; exact⟨_,_,rfl,.inl rfl,.inl rfl,rfl,rfl⟩)
      simp(config:=zzC)only[go_sem,fits]
      refine (zZe gl G T _ _ hz1 (yQu hm 0) n term _ hz ht _).mono ?_
      rintro _ _ ⟨y3,rfl,hy3,rfl⟩
      have hy4:=hy3
      obtain⟨o8,n8,t8,x8,t9,x9,rfl⟩:=hy3.agg
      by_cases he:(yZg ((sub[0]?).getD fm0) [(n,term)]).2=0
      ·have hq:=yQo (rule:=rule) (r:=⟨rl,rr,op,asks⟩) (term:=term) (name:=name) hfm hop
       simp only[if_neg ha0,if_neg ha2,hk,Bool.not_true,bFt,if_false,Fm.subs,Fm.nm,he,ne_eq,nTf] at hq
       simp(config:=zzC)only[go_sem,fits,he,hent,show decide (((0:Nat):Int)=0)=true from rfl]
       refine (hadd _ _ _ _ _ _ hy0 hy4 hz2 hm (Nat.le_trans (yZq _ _) (by decide)) (yQu hm 1) _).mono ?_
       rintro _ _ ⟨tg,xs,rfl,he,hap,hxs,rfl⟩
       simp(config:=zzC)only[go_sem]
       exact yQ0 (by rw[hq]; exact⟨_,_,rfl,he,hap,hxs,rfl⟩)
      ·have hq:=yQo (rule:=rule) (r:=⟨rl,rr,op,asks⟩) (term:=term) (name:=name) hfm hop
       simp only[if_neg ha0,if_neg ha2,hk,Bool.not_true,bFt,if_false,Fm.subs,Fm.nm,ne_eq,he,nFt,if_true] at hq
       have hd:decide (((yZg ((sub[0]?).getD fm0) [(n,term)]).2:Int)=0)=false:=dEf (by omega)
       simp(config:=zzC)only[go_sem,fits,hd]
       exact yQ0 (by rw[hq]; exact⟨_,_,rfl,.inl rfl,.inl rfl,rfl,rfl⟩)
 ·have l0:decide ((0:Int)<(sub.length:Int))=false:=dEf (by omega)
  have l1:decide ((1:Int)<(sub.length:Int))=false:=dEf (by omega)
  obtain rfl:=hz1n (by omega)
  obtain rfl:=hz2n (by omega)
  cases dop
  ·have hd2:=hdo rfl
   by_cases ha0:asks=0
   ·have d0:decide ((asks:Int)=0)=true:=dEt (by omega)
    have hq:=yQo (rule:=rule) (r:=⟨rl,rr,op,asks⟩) (term:=term) (name:=name) hfm hop
    simp only[if_pos ha0,Fm.subs] at hq
    simp(config:=zzC)only[go_sem,hdop,hd2,l0,l1,i2.len,d0,fits,hent]
    intros
    refine (hadd _ _ _ _ _ _ hy0 hz1 hz2 hm (yQu hm 0) (yQu hm 1) _).mono ?_
    rintro _ _ ⟨tg,xs,rfl,he,hap,hxs,rfl⟩
    simp(config:=zzC)only[go_sem]
    exact yQ0 (by rw[hq]; exact⟨_,_,rfl,he,hap,hxs,rfl⟩)
   ·have d0:decide ((asks:Int)=0)=false:=dEf (by omega)
    by_cases ha2:asks=2
    ·have d2:decide ((asks:Int)=2)=true:=dEt (by omega)
     simp(config:=zzC)only[go_sem,hdop,hd2,l0,l1,i2.len,d0,d2,fits,hent]
     intros
     refine (yW5 gl (Tm.mk true name []) _ (show IsTm (Tm.mk true name []) _ from⟨_,_,rfl,.inl rfl,rfl⟩) (by show 1≤_; decide) _).mono ?_
     rintro _ _ ⟨rfl,rfl⟩
     cases hk:Tm.ok (Tm.mk true name [])
     ·simp(config:=zzC)only[go_sem]
      have hq:=yQo (rule:=rule) (r:=⟨rl,rr,op,asks⟩) (term:=term) (name:=name) hfm hop
      simp only[if_neg ha0,if_pos ha2,hk,Bool.not_false,if_true] at hq
      exact yQ0 (by rw[hq]; exact⟨_,_,rfl,.inl rfl,.inl rfl,rfl,rfl⟩)
     simp(config:=zzC)only[go_sem,fits]
     refine (zZe gl G T _ _ hz1 (yQu hm 0) n (Tm.mk true name []) _ (show IsTm (Tm.mk true name []) _ from⟨_,_,rfl,.inl rfl,rfl⟩) (by show 1≤_; decide) _).mono ?_
     rintro _ _ ⟨y3,rfl,hy3,rfl⟩
     have hy4:=hy3
     obtain⟨o8,n8,t8,x8,t9,x9,rfl⟩:=hy3.agg
     by_cases he:(yZg ((sub[0]?).getD fm0) [(n,(Tm.mk true name []))]).2=0
     ·have hq:=yQo (rule:=rule) (r:=⟨rl,rr,op,asks⟩) (term:=term) (name:=name) hfm hop
      simp only[if_neg ha0,if_pos ha2,hk,Bool.not_true,bFt,if_false,Fm.subs,Fm.nm,he,ne_eq,nTf] at hq
      simp(config:=zzC)only[go_sem,fits,he,hent,show decide (((0:Nat):Int)=0)=true from rfl]
      refine (hadd _ _ _ _ _ _ hy0 hy4 hz2 hm (Nat.le_trans (yZq _ _) (by decide)) (yQu hm 1) _).mono ?_
      rintro _ _ ⟨tg,xs,rfl,he,hap,hxs,rfl⟩
      simp(config:=zzC)only[go_sem]
      exact yQ0 (by rw[hq]; exact⟨_,_,rfl,he,hap,hxs,rfl⟩)
     ·have hq:=yQo (rule:=rule) (r:=⟨rl,rr,op,asks⟩) (term:=term) (name:=name) hfm hop
      simp only[if_neg ha0,if_pos ha2,hk,Bool.not_true,bFt,if_false,Fm.subs,Fm.nm,ne_eq,he,nFt,if_true] at hq
      have hd:decide (((yZg ((sub[0]?).getD fm0) [(n,(Tm.mk true name []))]).2:Int)=0)=false:=dEf (by omega)
      simp(config:=zzC)only[go_sem,fits,hd]
      exact yQ0 (by rw[hq]; exact⟨_,_,rfl,.inl rfl,.inl rfl,rfl,rfl⟩)
    ·have d2:decide ((asks:Int)=2)=false:=dEf (by omega)
     simp(config:=zzC)only[go_sem,hdop,hd2,l0,l1,i2.len,d0,d2,fits,hent]
     intros
     refine (yW5 gl term _ hz ht _).mono ?_
     rintro _ _ ⟨rfl,rfl⟩
     cases hk:Tm.ok term
     ·simp(config:=zzC)only[go_sem]
      have hq:=yQo (rule:=rule) (r:=⟨rl,rr,op,asks⟩) (term:=term) (name:=name) hfm hop
      simp only[if_neg ha0,if_neg ha2,hk,Bool.not_false,if_true] at hq
      exact yQ0 (by rw[hq]; exact⟨_,_,rfl,.inl rfl,.inl rfl,rfl,rfl⟩)
     simp(config:=zzC)only[go_sem,fits]
     refine (zZe gl G T _ _ hz1 (yQu hm 0) n term _ hz ht _).mono ?_
     rintro _ _ ⟨y3,rfl,hy3,rfl⟩
     have hy4:=hy3
     obtain⟨o8,n8,t8,x8,t9,x9,rfl⟩:=hy3.agg
     by_cases he:(yZg ((sub[0]?).getD fm0) [(n,term)]).2=0
     ·have hq:=yQo (rule:=rule) (r:=⟨rl,rr,op,asks⟩) (term:=term) (name:=name) hfm hop
      simp only[if_neg ha0,if_neg ha2,hk,Bool.not_true,bFt,if_false,Fm.subs,Fm.nm,he,ne_eq,nTf] at hq
      simp(config:=zzC)only[go_sem,fits,he,hent,show decide (((0:Nat):Int)=0)=true from rfl]
      refine (hadd _ _ _ _ _ _ hy0 hy4 hz2 hm (Nat.le_trans (yZq _ _) (by decide)) (yQu hm 1) _).mono ?_
      rintro _ _ ⟨tg,xs,rfl,he,hap,hxs,rfl⟩
      simp(config:=zzC)only[go_sem]
      exact yQ0 (by rw[hq]; exact⟨_,_,rfl,he,hap,hxs,rfl⟩)
     ·have hq:=yQo (rule:=rule) (r:=⟨rl,rr,op,asks⟩) (term:=term) (name:=name) hfm hop
      simp only[if_neg ha0,if_neg ha2,hk,Bool.not_true,bFt,if_false,Fm.subs,Fm.nm,ne_eq,he,nFt,if_true] at hq
      have hd:decide (((yZg ((sub[0]?).getD fm0) [(n,term)]).2:Int)=0)=false:=dEf (by omega)
      simp(config:=zzC)only[go_sem,fits,hd]
      exact yQ0 (by rw[hq]; exact⟨_,_,rfl,.inl rfl,.inl rfl,rfl,rfl⟩)
  ·by_cases ha0:asks=0
   ·have d0:decide ((asks:Int)=0)=true:=dEt (by omega)
    have hq:=yQo (rule:=rule) (r:=⟨rl,rr,op,asks⟩) (term:=term) (name:=name) hfm hop
    simp only[if_pos ha0,Fm.subs] at hq
    simp(config:=zzC)only[go_sem,hdop,l0,l1,i2.len,d0,fits,hent]
    intros
    refine (hadd _ _ _ _ _ _ hy0 hz1 hz2 hm (yQu hm 0) (yQu hm 1) _).mono ?_
    rintro _ _ ⟨tg,xs,rfl,he,hap,hxs,rfl⟩
    simp(config:=zzC)only[go_sem]
    exact yQ0 (by rw[hq]; exact⟨_,_,rfl,he,hap,hxs,rfl⟩)
   ·have d0:decide ((asks:Int)=0)=false:=dEf (by omega)
    by_cases ha2:asks=2
    ·have d2:decide ((asks:Int)=2)=true:=dEt (by omega)
     simp(config:=zzC)only[go_sem,hdop,l0,l1,i2.len,d0,d2,fits,hent]
     intros
     refine (yW5 gl (Tm.mk true name []) _ (show IsTm (Tm.mk true name []) _ from⟨_,_,rfl,.inl rfl,rfl⟩) (by show 1≤_; decide) _).mono ?_
     rintro _ _ ⟨rfl,rfl⟩
     cases hk:Tm.ok (Tm.mk true name [])
     ·simp(config:=zzC)only[go_sem]
      have hq:=yQo (rule:=rule) (r:=⟨rl,rr,op,asks⟩) (term:=term) (name:=name) hfm hop
      simp only[if_neg ha0,if_pos ha2,hk,Bool.not_false,if_true] at hq
      exact yQ0 (by rw[hq]; exact⟨_,_,rfl,.inl rfl,.inl rfl,rfl,rfl⟩)
     simp(config:=zzC)only[go_sem,fits]
     refine (zZe gl G T _ _ hz1 (yQu hm 0) n (Tm.mk true name []) _ (show IsTm (Tm.mk true name []) _ from⟨_,_,rfl,.inl rfl,rfl⟩) (by show 1≤_; decide) _).mono ?_
     rintro _ _ ⟨y3,rfl,hy3,rfl⟩
     have hy4:=hy3
     obtain⟨o8,n8,t8,x8,t9,x9,rfl⟩:=hy3.agg
     by_cases he:(yZg ((sub[0]?).getD fm0) [(n,(Tm.mk true name []))]).2=0
     ·have hq:=yQo (rule:=rule) (r:=⟨rl,rr,op,asks⟩) (term:=term) (name:=name) hfm hop
      simp only[if_neg ha0,if_pos ha2,hk,Bool.not_true,bFt,if_false,Fm.subs,Fm.nm,he,ne_eq,nTf] at hq
      simp(config:=zzC)only[go_sem,fits,he,hent,show decide (((0:Nat):Int)=0)=true from rfl]
      refine (hadd _ _ _ _ _ _ hy0 hy4 hz2 hm (Nat.le_trans (yZq _ _) (by decide)) (yQu hm 1) _).mono ?_
      rintro _ _ ⟨tg,xs,rfl,he,hap,hxs,rfl⟩
      simp(config:=zzC)only[go_sem]
      exact yQ0 (by rw[hq]; exact⟨_,_,rfl,he,hap,hxs,rfl⟩)
     ·have hq:=yQo (rule:=rule) (r:=⟨rl,rr,op,asks⟩) (term:=term) (name:=name) hfm hop
      simp only[if_neg ha0,if_pos ha2,hk,Bool.not_true,bFt,if_false,Fm.subs,Fm.nm,ne_eq,he,nFt,if_true] at hq
      have hd:decide (((yZg ((sub[0]?).getD fm0) [(n,(Tm.mk true name []))]).2:Int)=0)=false:=dEf (by omega)
      simp(config:=zzC)only[go_sem,fits,hd]
      exact yQ0 (by rw[hq]; exact⟨_,_,rfl,.inl rfl,.inl rfl,rfl,rfl⟩)
    ·have d2:decide ((asks:Int)=2)=false:=dEf (by omega)
     simp(config:=zzC)only[go_sem,hdop,l0,l1,i2.len,d0,d2,fits,hent]
     intros
     refine (yW5 gl term _ hz ht _).mono ?_
     rintro _ _ ⟨rfl,rfl⟩
     cases hk:Tm.ok term
     ·simp(config:=zzC)only[go_sem]
      have hq:=yQo (rule:=rule) (r:=⟨rl,rr,op,asks⟩) (term:=term) (name:=name) hfm hop
      simp only[if_neg ha0,if_neg ha2,hk,Bool.not_false,if_true] at hq
      exact yQ0 (by rw[hq]; exact⟨_,_,rfl,.inl rfl,.inl rfl,rfl,rfl⟩)
     simp(config:=zzC)only[go_sem,fits]
     refine (zZe gl G T _ _ hz1 (yQu hm 0) n term _ hz ht _).mono ?_
     rintro _ _ ⟨y3,rfl,hy3,rfl⟩
     have hy4:=hy3
     obtain⟨o8,n8,t8,x8,t9,x9,rfl⟩:=hy3.agg
     by_cases he:(yZg ((sub[0]?).getD fm0) [(n,term)]).2=0
     ·have hq:=yQo (rule:=rule) (r:=⟨rl,rr,op,asks⟩) (term:=term) (name:=name) hfm hop
      simp only[if_neg ha0,if_neg ha2,hk,Bool.not_true,bFt,if_false,Fm.subs,Fm.nm,he,ne_eq,nTf] at hq
      simp(config:=zzC)only[go_sem,fits,he,hent,show decide (((0:Nat):Int)=0)=true from rfl]
      refine (hadd _ _ _ _ _ _ hy0 hy4 hz2 hm (Nat.le_trans (yZq _ _) (by decide)) (yQu hm 1) _).mono ?_
      rintro _ _ ⟨tg,xs,rfl,he,hap,hxs,rfl⟩
      simp(config:=zzC)only[go_sem]
      exact yQ0 (by rw[hq]; exact⟨_,_,rfl,he,hap,hxs,rfl⟩)
     ·have hq:=yQo (rule:=rule) (r:=⟨rl,rr,op,asks⟩) (term:=term) (name:=name) hfm hop
      simp only[if_neg ha0,if_neg ha2,hk,Bool.not_true,bFt,if_false,Fm.subs,Fm.nm,ne_eq,he,nFt,if_true] at hq
      have hd:decide (((yZg ((sub[0]?).getD fm0) [(n,term)]).2:Int)=0)=false:=dEf (by omega)
      simp(config:=zzC)only[go_sem,fits,hd]
      exact yQ0 (by rw[hq]; exact⟨_,_,rfl,.inl rfl,.inl rfl,rfl,rfl⟩)
theorem zG6 {ca:Nat}{s:Sq}(h:yXe ca s=true):(∀ f∈s.l,f.right=true)∧∀ f∈s.r,f.right=true:=by
 unfold yXe at h
 simp only[bAt,List.all_eq_true] at h
 obtain⟨⟨⟨_,h4⟩,h5⟩,_⟩:=h
 have key:∀ f,fmB ca f=true→f.right=true:=fun f hf=>by
  unfold fmB at hf
  simp only[bAt] at hf
  exact hf.1
 exact⟨fun f hf=>key f (h4 f hf),fun f hf=>key f (h5 f hf)⟩
theorem wVq (G:Gl gl)(T:Gt gl)(ca:Nat)(s:Sq)(x:IV)(hx:IsSq s x)(hs:yYj s)(rule:Nat)(main:Fm)(y:IV)(hy:IsFm main y)(hm:main.size≤1000000)(term:Tm)(z:IV)(hz:IsTm term z)(ht:term.size≤1000000)(name:ByteArray)(st:ISt) :
  ICall prog gl 97 [.raw (.int .u8 ca),x,.raw (.int .u8 rule),y,z,.raw (.string name)] st (AdRD st (yZv ca s rule main term name)):=by
 have hV:=fun st=>wUc gl G ca s x hx hs st
 have hF:=fun hr st=>vXx gl T s x hx hs hr name st
 obtain⟨t1,x1,t2,x2,rfl,e1,i1,e2,i2⟩:=hx
 have hH1:=fun st=>wXj gl G s.l main t1 x1 y e1 i1 hy hs.1 hm st
 have hH2:=fun st=>wXj gl G s.r main t2 x2 y e2 i2 hy hs.2 hm st
 have hA:=fun r hr st=>vKf gl G T ca rule r hr main y hy hm term z hz ht name st
 obtain⟨o3,n3,t3,x3,t4,x4,rfl⟩:=hy.agg
 obtain⟨v,un,tz,xz,rfl⟩:∃ v un tz xz,z=.agg [.raw (.bool v),.raw (.string un),.sl tz xz]:=by
  obtain⟨v,un,us⟩:=term
  obtain⟨tz,xz,rfl,_⟩:=hz.mk
  exact⟨_,_,_,_,rfl⟩
 refine iI func97 rfl rfl (by kernel_rfl) ?_
 simp(config:=zzC)only[go_sem,fits]
 refine (hV _).mono ?_
 rintro _ st ⟨rfl,rfl⟩
 cases hv:yXe ca s
 ·simp(config:=zzC)only[go_sem]
  exact yQ0 (by unfold yZv; rw[hv]; exact⟨_,_,rfl,.inl rfl,.inl rfl,rfl,rfl⟩)
 have hright:=zG6 hv
 simp(config:=zzC)only[go_sem]
 refine (wYr gl ca _).mono ?_
 rintro _ _ ⟨b,hb,rfl,rfl⟩
 cases hr:rowS ca rule with
 | none =>
  have hq:yZv ca s rule main term name=([],191):=by unfold yZv; rw[hv,hr]; rfl
  simp(config:=zzC)only[go_sem,ISt.put_same,zXk,hr,Option.map_none,xWq,fits]
  exact yQb (yQc hb) (by rw[hq]; exact⟨_,_,rfl,.inl rfl,.inl rfl,rfl,rfl⟩)
 | some r =>
  have hcall:=hA r hr
  obtain⟨rl,rr,op,asks⟩:=r
  have hq:yZv ca s rule main term name=if decide ((yXw ca rule ⟨rl,rr,op,asks⟩ main term name).2=192) || (rl&&!hasF s.l main) || (rr&&!hasF s.r main) then ([],192)
    else if (yXw ca rule ⟨rl,rr,op,asks⟩ main term name).2≠0 then ([],(yXw ca rule ⟨rl,rr,op,asks⟩ main term name).2)
    else if decide (asks=2)&&yJt s name then ([],193) else ((yXw ca rule ⟨rl,rr,op,asks⟩ main term name).1,0):=by unfold yZv; rw[hv,hr]; rfl
  generalize yXw ca rule ⟨rl,rr,op,asks⟩ main term name=q at hq hcall
  obtain⟨qs,qe⟩:=q
  simp only at hq
  simp(config:=zzC)only[go_sem,ISt.put_same,zXk,hr,Option.map_some,xWp,rwI,fits]
  refine (hcall _).mono ?_
  rintro _ _ ⟨tg,xs,rfl,he,hap,hxs,rfl⟩
  by_cases h192:qe=192
  ·have d:decide ((qe:Int)=192)=true:=dEt (by omega)
   have hq':yZv ca s rule main term name=([],192):=by rw[hq,h192]; rfl
   simp(config:=zzC)only[go_sem,d,fits]
   exact yQb (yQc hb) (by rw[hq']; exact⟨_,_,rfl,.inl rfl,.inl rfl,rfl,rfl⟩)
  have d:decide ((qe:Int)=192)=false:=dEf (by omega)
  have h192':decide (qe=192)=false:=dEf h192
  rw[h192',Bool.false_or] at hq
  cases rl
  ·cases rr
   ·simp only[Bool.false_and,Bool.false_and,Bool.and_false,Bool.not_true,Bool.or_false,bFt,if_false] at hq
    by_cases h0:qe=0
    ·subst h0
     simp only[ne_eq,nTf,if_false] at hq
     by_cases ha:asks=2
     ·have da:decide ((asks:Int)=2)=true:=dEt (by omega)
      simp(config:=zzC)only[go_sem,d,da,fits,show decide (((0:Nat):Int)=0)=true from rfl]
      refine (hF hright _).mono ?_
      rintro _ _ ⟨rfl,rfl⟩
      rw[dEt ha,Bool.true_and] at hq
      cases hf:yJt s name
      ·simp(config:=zzC)only[go_sem,fits]
       rw[hf] at hq
       exact yQb (yQc hb) (by rw[hq]; exact⟨_,_,rfl,he,hap,hxs,rfl⟩)
      ·simp(config:=zzC)only[go_sem,fits]
       rw[hf] at hq
       exact yQb (yQc hb) (by rw[hq]; exact⟨_,_,rfl,.inl rfl,.inl rfl,rfl,rfl⟩)
     ·have da:decide ((asks:Int)=2)=false:=dEf (by omega)
      rw[dEf ha,Bool.false_and] at hq
      simp(config:=zzC)only[go_sem,d,da,fits,show decide (((0:Nat):Int)=0)=true from rfl]
      exact yQb (yQc hb) (by rw[hq]; exact⟨_,_,rfl,he,hap,hxs,rfl⟩)
    ·have d0:decide ((qe:Int)=0)=false:=dEf (by omega)
     rw[if_pos h0] at hq
     simp(config:=zzC)only[go_sem,d,d0,fits]
     exact yQb (yQc hb) (by rw[hq]; exact⟨_,_,rfl,.inl rfl,.inl rfl,rfl,rfl⟩)
   ·simp(config:=zzC)only[go_sem,d,fits]
    refine (hH2 _).mono ?_
    rintro _ _ ⟨rfl,rfl⟩
    cases h5:hasF s.r main
    ·simp(config:=zzC)only[go_sem,fits]
     rw[h5] at hq
     exact yQb (yQc hb) (by rw[hq]; exact⟨_,_,rfl,.inl rfl,.inl rfl,rfl,rfl⟩)
    ·simp only[h5,Bool.false_and,Bool.and_false,Bool.not_true,Bool.or_false,bFt,if_false] at hq
     by_cases h0:qe=0
     ·subst h0
      simp only[ne_eq,nTf,if_false] at hq
      by_cases ha:asks=2
      ·have da:decide ((asks:Int)=2)=true:=dEt (by omega)
       simp(config:=zzC)only[go_sem,d,da,fits,show decide (((0:Nat):Int)=0)=true from rfl]
       refine (hF hright _).mono ?_
       rintro _ _ ⟨rfl,rfl⟩
       rw[dEt ha,Bool.true_and] at hq
       cases hf:yJt s name
       ·simp(config:=zzC)only[go_sem,fits]
        rw[hf] at hq
        exact yQb (yQc hb) (by rw[hq]; exact⟨_,_,rfl,he,hap,hxs,rfl⟩)
       ·simp(config:=zzC)only[go_sem,fits]
        rw[hf] at hq
        exact yQb (yQc hb) (by rw[hq]; exact⟨_,_,rfl,.inl rfl,.inl rfl,rfl,rfl⟩)
      ·have da:decide ((asks:Int)=2)=false:=dEf (by omega)
       rw[dEf ha,Bool.false_and] at hq
       simp(config:=zzC)only[go_sem,d,da,fits,show decide (((0:Nat):Int)=0)=true from rfl]
       exact yQb (yQc hb) (by rw[hq]; exact⟨_,_,rfl,he,hap,hxs,rfl⟩)
     ·have d0:decide ((qe:Int)=0)=false:=dEf (by omega)
      rw[if_pos h0] at hq
      simp(config:=zzC)only[go_sem,d,d0,fits]
      exact yQb (yQc hb) (by rw[hq]; exact⟨_,_,rfl,.inl rfl,.inl rfl,rfl,rfl⟩)
  ·simp(config:=zzC)only[go_sem,d,fits]
   refine (hH1 _).mono ?_
   rintro _ _ ⟨rfl,rfl⟩
   cases h4:hasF s.l main
   ·simp(config:=zzC)only[go_sem,fits]
    rw[h4] at hq
    exact yQb (yQc hb) (by rw[hq]; exact⟨_,_,rfl,.inl rfl,.inl rfl,rfl,rfl⟩)
   cases rr
   ·simp only[h4,Bool.false_and,Bool.and_false,Bool.not_true,Bool.or_false,bFt,if_false] at hq
    by_cases h0:qe=0
    ·subst h0
     simp only[ne_eq,nTf,if_false] at hq
     by_cases ha:asks=2
     ·have da:decide ((asks:Int)=2)=true:=dEt (by omega)
      simp(config:=zzC)only[go_sem,d,da,fits,show decide (((0:Nat):Int)=0)=true from rfl]
      refine (hF hright _).mono ?_
      rintro _ _ ⟨rfl,rfl⟩
      rw[dEt ha,Bool.true_and] at hq
      cases hf:yJt s name
      ·simp(config:=zzC)only[go_sem,fits]
       rw[hf] at hq
       exact yQb (yQc hb) (by rw[hq]; exact⟨_,_,rfl,he,hap,hxs,rfl⟩)
      ·simp(config:=zzC)only[go_sem,fits]
       rw[hf] at hq
       exact yQb (yQc hb) (by rw[hq]; exact⟨_,_,rfl,.inl rfl,.inl rfl,rfl,rfl⟩)
     ·have da:decide ((asks:Int)=2)=false:=dEf (by omega)
      rw[dEf ha,Bool.false_and] at hq
      simp(config:=zzC)only[go_sem,d,da,fits,show decide (((0:Nat):Int)=0)=true from rfl]
      exact yQb (yQc hb) (by rw[hq]; exact⟨_,_,rfl,he,hap,hxs,rfl⟩)
    ·have d0:decide ((qe:Int)=0)=false:=dEf (by omega)
     rw[if_pos h0] at hq
     simp(config:=zzC)only[go_sem,d,d0,fits]
     exact yQb (yQc hb) (by rw[hq]; exact⟨_,_,rfl,.inl rfl,.inl rfl,rfl,rfl⟩)
   ·simp(config:=zzC)only[go_sem,d,fits]
    refine (hH2 _).mono ?_
    rintro _ _ ⟨rfl,rfl⟩
    cases h5:hasF s.r main
    ·simp(config:=zzC)only[go_sem,fits]
     rw[h4,h5] at hq
     exact yQb (yQc hb) (by rw[hq]; exact⟨_,_,rfl,.inl rfl,.inl rfl,rfl,rfl⟩)
    ·simp only[h4,h5,Bool.false_and,Bool.and_false,Bool.not_true,Bool.or_false,bFt,if_false] at hq
     by_cases h0:qe=0
     ·subst h0
      simp only[ne_eq,nTf,if_false] at hq
      by_cases ha:asks=2
      ·have da:decide ((asks:Int)=2)=true:=dEt (by omega)
       simp(config:=zzC)only[go_sem,d,da,fits,show decide (((0:Nat):Int)=0)=true from rfl]
       refine (hF hright _).mono ?_
       rintro _ _ ⟨rfl,rfl⟩
       rw[dEt ha,Bool.true_and] at hq
       cases hf:yJt s name
       ·simp(config:=zzC)only[go_sem,fits]
        rw[hf] at hq
        exact yQb (yQc hb) (by rw[hq]; exact⟨_,_,rfl,he,hap,hxs,rfl⟩)
       ·simp(config:=zzC)only[go_sem,fits]
        rw[hf] at hq
        exact yQb (yQc hb) (by rw[hq]; exact⟨_,_,rfl,.inl rfl,.inl rfl,rfl,rfl⟩)
      ·have da:decide ((asks:Int)=2)=false:=dEf (by omega)
       rw[dEf ha,Bool.false_and] at hq
       simp(config:=zzC)only[go_sem,d,da,fits,show decide (((0:Nat):Int)=0)=true from rfl]
       exact yQb (yQc hb) (by rw[hq]; exact⟨_,_,rfl,he,hap,hxs,rfl⟩)
     ·have d0:decide ((qe:Int)=0)=false:=dEf (by omega)
      rw[if_pos h0] at hq
      simp(config:=zzC)only[go_sem,d,d0,fits]
      exact yQb (yQc hb) (by rw[hq]; exact⟨_,_,rfl,.inl rfl,.inl rfl,rfl,rfl⟩)
theorem vZe (G:Gl gl)(T:Gt gl)(ca:Nat)(s:Sq)(x:IV)(hx:IsSq s x)(hs:yYj s)(rule:Nat)(main:Fm)(y:IV)(hy:IsFm main y)(hm:main.size≤1000000)(term:Tm)(z:IV)(hz:IsTm term z)(ht:term.size≤1000000)(name:ByteArray)(st:ISt) :
  ICall prog gl 97 [.raw (.int .u8 ca),x,.raw (.int .u8 rule),y,z,.raw (.string name)] st (AdR st (yZv ca s rule main term name)) :=
 (wVq gl G T ca s x hx hs rule main y hy hm term z hz ht name st).mono AdRD.w
theorem wJx:lenI prog 3=none:=by kernel_rfl
theorem zKz (n:Nat):yJ5 none (some 0) n=some (0,0):=by simp[yJ5]
theorem xZa (n:Nat):yJ5 none (some ((0:Nat):Int)) n=some (0,0):=zKz n
theorem vKn (n:Nat)(hn:n≤1099511627776)(st:ISt):ICall prog gl 163 [.sl ⟨true,.nil,0⟩ [],.raw (.int .i64 n)] st (fun r st' =>
  (n=0∧r=.sl ⟨true,.nil,0⟩ []∧st'=st)∨(∃ g cap,st g=none∧n≤cap∧r=.raw (.slice (some ⟨g,0,none⟩) 0 cap)∧st'=st.put g (some (.box (List.replicate (cap*4) .junk))))):=by
 have h1:decide ((n:Int)<0)=false:=dEf (by omega)
 have h2:IntKind.i64.wrap ((0:Int) - ((0:Nat):Int))=0:=rfl
 have h3:IntKind.i64.wrap ((n:Int) - 0)=n:=w64 (by omega) (by omega)
 refine iI func163 rfl rfl (by kernel_rfl) ?_
 by_cases hz:n=0
 ·subst hz
  simp(config:=zzC)only[go_sem,h1,h2,h3,show decide ((0:Int)<((0:Nat):Int))=false from rfl]
  refine yQ0 (.inl ?_)
  simp
 ·have h4:decide ((0:Int)<(n:Int))=true:=dEt (by omega)
  simp(config:=zzC)only[go_sem,h1,h2,h3,h4,zKz,wJx]
  refine yQr ⟨rfl,by omega,by show (n:Int)*72≤_; omega,by omega⟩ fun g cap=>yQa fun hg=>?_
  obtain⟨hg,hc⟩:=hg
  rw[Int.toNat_natCast] at hc
  simp(config:=zzC)only[go_sem,Int.toNat_natCast,xZa,ite_self,Nat.zero_mul,hc]
  exact yQ0 (.inr ⟨g,cap,hg,hc,rfl,rfl⟩)
def catL (l:List (Tag×List IV)):List IV:=l.flatMap (·.2)
def catI (l:List (Tag×List IV)):List IV:=l.map fun p=>.sl p.1 p.2
theorem zYv {l:List (Tag×List IV)}{k:Nat}{p:Tag×List IV}(h:l[k]?=some p):(catI l)[k]?=some (.sl p.1 p.2):=by simp[catI,List.getElem?_map,h]
theorem yVc {l:List (Tag×List IV)}{k:Nat}{p:Tag×List IV}(h:l[k]?=some p):catL (l.take (k+1))=catL (l.take k)++p.2:=by
 rw[yQ6 h]; simp[catL]
theorem zYu (l:List (Tag×List IV))(k:Nat):(catL (l.take k)).length≤(catL l).length:=by
 conv=>rhs; rw[← List.take_append_drop k l]
 unfold catL
 rw[List.flatMap_append,lLa]; omega
theorem yJu:∀ {l:List Fm}{xs:List IV},IsFms l xs→∀ y∈xs,fits true 4 y=true
 | [],_,rfl,y,h=>by cases h
 | a::l,_,⟨x,xs,rfl,hx,hl⟩,y,h=>by
  rcases List.mem_cons.1 h with rfl | h
  ·obtain⟨o,n,t,x,t',x',rfl⟩:=hx.agg
   simp[fits,IV.one]
  ·exact yJu hl y h
theorem wZb {y:IV}(h:fits true 4 y=true):y.cells.length=4:=(yX0 h).2.1
theorem uJ0 {l:List IV}(h:∀ y∈l,fits true 4 y=true):(l.flatMap IV.cells).length=l.length*4:=yQq l fun x hx=>wZb (h x hx)
theorem wVb (l:List (Tag×List IV))(tt:Tag)(htt:okEs tt 1)(hfit:∀ p∈l,∀ y∈p.2,fits true 4 y=true)(hlen:(catL l).length≤1099511627776)(st:ISt) :
  ICall prog gl 118 [.sl tt (catI l)] st (fun r st'=>(∃ t,r=.sl t []∧okEs t 4∧catL l=[]∧st'=st) ∨
   ∃ g cap cs,st g=none∧(catL l).length≤cap∧cap*4≤cs.length∧cs.take ((catL l).length*4)=(catL l).flatMap IV.cells∧r=.raw (.slice (some ⟨g,0,none⟩) (catL l).length cap)∧st'=st.put g (some (.box cs))):=by
 have hli:(catI l).length=l.length:=by simp[catI]
 have hfc:∀ y∈catL l,fits true 4 y=true:=fun y hy=>by
  obtain⟨p,hp,hy⟩:=List.mem_flatMap.1 hy
  exact hfit p hp y hy
 refine iI func118 rfl rfl (by kernel_rfl) ?_
 simp(config:=zzC)only[go_sem,hli]
 intro hl
 refine LoopC.ctr l.length (fun k fr st' ds=>fr 0=.iv (.sl tt (catI l))∧fr 3=.iv (.raw (.int .i64 (catL (l.take k)).length))∧fr 9=.iv (.sl tt (catI l))∧fr 10=.iv (.raw (.int .i64 l.length))∧fr 11=.iv (.raw (.int .i64 k))∧st'=st∧ds=[]) ?_ ?_ ?_
 ·simp(config:=zzC)only[go_sem]
  simp[catL]
 ·rintro k fr st1 _ hlt ⟨f0,f3,f9,f10,f11,rfl,rfl⟩
  obtain⟨p,hp⟩:=yQ5 hlt
  have h1:=zYu l k
  have h2:=zYu l (k+1)
  rw[yVc hp,lLa] at h2
  have h3:IntKind.i64.wrap ((((catL (l.take k)).length:Nat):Int)+((p.2.length:Nat):Int))=((catL (l.take (k+1))).length:Nat):=by
   rw[w64 (by omega) (by omega),yVc hp,lLa]; omega
  have h4:decide ((((catL (l.take (k+1))).length:Nat):Int)<0)=false:=dEf (by omega)
  simp(config:=zzC)only[go_sem,f0,f3,f9,f10,f11,lt_i hlt,yQ1 htt,iNn,zYv hp,fits,h3]
  intro hpl
  simp(config:=zzC)only[go_sem,h3,h4,f0,f3,f9,f10,f11,yQf hlt (show l.length≤281474976710656 by omega)]
 ·rintro fr st1 _ ⟨f0,f3,f9,f10,f11,rfl,rfl⟩
  rw[lTl] at f3
  simp(config:=zzC)only[go_sem,f0,f3,f9,f10,f11,yQt (nLi _)]
  refine (vKn gl (catL l).length hlen _).mono ?_
  have loop:∀ (I:Nat→IV→ISt→Prop),True:=fun _=>trivial
  rintro r st2 (⟨hz,rfl,rfl⟩ | ⟨g,cap,hg,hcap,rfl,rfl⟩)
  ·have hnil:catL l=[]:=List.eq_nil_of_length_eq_zero hz
   simp(config:=zzC)only[go_sem,f0,hli]
   intro _
   refine LoopC.ctr l.length (fun k fr st' ds=>(∃ t,fr 6=.iv (.sl t [])∧t.cap=.nil)∧fr 25=.iv (.sl tt (catI l))∧fr 26=.iv (.raw (.int .i64 l.length))∧fr 27=.iv (.raw (.int .i64 k))∧st'=st2∧ds=[]) ?_ ?_ ?_
   ·simp(config:=zzC)only[go_sem]
    exact⟨⟨_,rfl,rfl⟩,rfl⟩
   ·rintro k fr st1 _ hlt ⟨⟨t,f6,ht⟩,f25,f26,f27,rfl,rfl⟩
    obtain⟨p,hp⟩:=yQ5 hlt
    have hp0:p.2=[]:=by
     have:=yVc hp
     have h2:=zYu l (k+1)
     rw[this,lLa,hnil,List.length_nil] at h2
     exact List.eq_nil_of_length_eq_zero (by omega)
    obtain⟨fs,c,es⟩:=t
    obtain rfl:c=.nil:=ht
    simp(config:=zzC)only[go_sem,f6,f25,f26,f27,lt_i hlt,yQ1 htt,iNn,zYv hp,fits,hp0,yQf hlt (show l.length≤281474976710656 by omega)]
    exact⟨_,rfl,rfl⟩
   ·rintro fr st1 _ ⟨⟨t,f6,ht⟩,f25,f26,f27,rfl,rfl⟩
    simp(config:=zzC)only[go_sem,f6,f25,f26,f27,yQt (nLi _)]
    exact yQ0 (.inl ⟨_,rfl,.inl ht,hnil,rfl⟩)
  ·simp(config:=zzC)only[go_sem,f0,hli]
   intro _
   refine LoopC.ctr l.length (fun k fr st' ds=>(∃ g cap cs,st1 g=none∧(catL (l.take k)).length≤cap∧cap*4≤cs.length∧cs.take ((catL (l.take k)).length*4)=(catL (l.take k)).flatMap IV.cells∧fr 6=.iv (.raw (.slice (some ⟨g,0,none⟩) (catL (l.take k)).length cap))∧st'=st1.put g (some (.box cs)))∧fr 25=.iv (.sl tt (catI l))∧fr 26=.iv (.raw (.int .i64 l.length))∧fr 27=.iv (.raw (.int .i64 k))∧ds=[]) ?_ ?_ ?_
   ·simp(config:=zzC)only[go_sem]
    exact⟨⟨g,cap,_,hg,by simp[catL],by simp,by simp[catL],by simp[catL],rfl⟩,rfl⟩
   ·rintro k fr st' _ hlt ⟨⟨g,cap,cs,hg,hc1,hc2,hc3,f6,rfl⟩,f25,f26,f27,rfl⟩
    obtain⟨p,hp⟩:=yQ5 hlt
    have h2:=zYu l (k+1)
    rw[yVc hp,lLa] at h2
    have hpf:=hfit p (lMg hp)
    simp(config:=zzC)only[go_sem,f6,f25,f26,f27,lt_i hlt,yQ1 htt,iNn,zYv hp,fits]
    refine yG8 _ _ _ (ISt.put_same ..) (List.all_eq_true.2 hpf) ⟨by show _*72≤_; omega,by omega⟩ ⟨hc1,hc2⟩ (uJ0 hpf) ?_
    intro g' cap' cs' hg' k1 k2 k3
    simp(config:=zzC)only[go_sem,f6,f25,f26,f27,yQf hlt (show l.length≤281474976710656 by omega)]
    have hst':((st1.put g (some (.box cs))).put g none).put g' (some (.box cs'))=st1.put g' (some (.box cs')):=by
     funext c
     simp only[ISt.put_apply]
     split
     ·rfl
     ·split
      ·subst_vars; exact hg.symm
      ·rfl
    have hg1:st1 g'=none:=by
     rcases hg' with rfl | h
     ·exact hg
     ·rw[ISt.put_apply] at h
      split at h
      ·cases h
      ·exact h
    refine⟨g',cap',cs',hg1,?_,k2,?_,?_,hst'⟩
    ·rw[yVc hp,lLa]; exact k1
    ·rw[yVc hp,lLa,List.flatMap_append,← hc3]; exact k3
    ·rw[yVc hp,lLa]
   ·rintro fr st' _ ⟨⟨g,cap,cs,hg,hc1,hc2,hc3,f6,rfl⟩,f25,f26,f27,rfl⟩
    rw[lTl] at *
    simp(config:=zzC)only[go_sem,f6,f25,f26,f27,yQt (nLi _)]
    exact yQ0 (.inr ⟨g,cap,cs,hg,hc1,hc2,hc3,rfl,rfl⟩)
theorem xVq (l1 l2:List Fm)(t1 t2 tt:Tag)(x1 x2:List IV)(htt:okEs tt 1)(h1:IsFms l1 x1)(h2:IsFms l2 x2)(hlen:l1.length+l2.length≤1099511627776)(st:ISt) :
  ICall prog gl 118 [.sl tt [.sl t1 x1,.sl t2 x2]] st (fun r st'=>∃ t ys,r=.sl t ys∧okEs t 4∧IsFms (l1++l2) ys∧st'=st):=by
 have hc:catL [(t1,x1),(t2,x2)]=x1++x2:=by simp[catL]
 have hf:=h1.append h2
 have hlx:(x1++x2).length≤1099511627776:=by rw[hf.len,lLa]; exact hlen
 have key:=wVb gl [(t1,x1),(t2,x2)] tt htt (fun p hp y hy=>by
  rcases List.mem_cons.1 hp with rfl | hp
  ·exact yJu h1 y hy
  ·obtain rfl:=List.mem_singleton.1 hp
   exact yJu h2 y hy) (by rw[hc]; exact hlx) st
 rw[hc] at key
 refine ICall.fix (key.mono fun r st' h=>?_)
 rcases h with⟨t,rfl,ht,hn,rfl⟩ | ⟨g,cap,cs,hg,hc1,hc2,hc3,rfl,rfl⟩
 ·exact⟨.sl t [],(fun _=>none),st',LendOk.mk (fun b o h=>by cases h) (subSt.refl _) (fun b cs h=>by cases h),.refl _,⟨false,t.cap,t.es⟩,[],by simp only[age,ages],ht,hn▸hf,rfl⟩
 ·have hcell:∀ y∈x1++x2,y.cells.length=4:=fun y hy=>wZb (yJu hf y hy)
  refine⟨.sl ⟨true,.app g,4⟩ (x1++x2),ISt.put (fun _=>none) g (some (.box cs)),st,⟨fun b o h=>?_,yQc hg,fun b cs' h=>?_⟩,.sl g cap ⟨true,.app g,4⟩ (x1++x2) cs rfl (by omega) hc1 hcell (ISt.put_same ..) hc2 fun i r c hr hx=>?_,⟨false,.app g,4⟩,ages (x1++x2),by simp only[age],.inr rfl,hf.aged,rfl⟩
  ·rw[ISt.put_apply] at h ⊢
   split at h
   ·rename_i hb; rw[if_pos hb]; exact h
   ·cases h
  ·rw[ISt.put_apply] at h
   split at h
   ·rename_i hb; rw[hb]; exact hg
   ·cases h
  ·have hi:i<(x1++x2).length*4:=by
    have:=(lGs hx).1
    rwa [yQq _ hcell] at this
   have:(cs.take ((x1++x2).length*4))[i]?=cs[i]?:=by rw[List.getElem?_take,if_pos hi]
   rw[hc3,hx,hr] at this
   cases this
   exact .refl _
theorem xGg {ca:Nat}{s:Sq}{rule:Nat}{main:Fm}{term:Tm}{name:ByteArray}{ad:List Sq}(h:yZv ca s rule main term name=(ad,0)) :
  yXe ca s=true∧∃ r,(yXw ca rule r main term name)=(ad,0):=by
 unfold yZv at h
 split at h
 ·simp at h
 ·rename_i hv
  split at h
  ·simp at h
  ·rename_i r _
   split at h
   ·simp at h
   ·split at h
    ·rename_i h1 h2
     injection h with h3 h4
     exact absurd h4 h2
    ·rename_i h1 h2
     split at h
     ·simp at h
     ·injection h with h3 h4
      refine⟨by simpa using hv,r,?_⟩
      rw[← h3]
      exact Prod.ext rfl (by simpa using h2)
theorem yZp:fitL []:=fun f h=>by cases h
theorem zYo {f:Fm}(h:f.size≤1000):fitL [f]:=fun g hg=>by obtain rfl:=List.mem_singleton.1 hg; omega
theorem xV4 {f g:Fm}(h:f.size≤1000)(h':g.size≤1000):fitL [f,g]:=fun k hk=>by
 rcases List.mem_cons.1 hk with rfl | hk
 ·omega
 ·obtain rfl:=List.mem_singleton.1 hk; omega
theorem yXu {c:Prop} [Decidable c]{A B:List Sq}{P:Sq→Prop}(h1:∀ s∈A,P s)(h2:∀ s∈B,P s):∀ s∈(if c then A else B),P s:=by split<;>assumption
def yWz (s:Sq):Prop:=yYj s∧s.l.length≤64∧s.r.length≤64
theorem xVm {ca rule:Nat}{main a b:Fm}(hm:main.size≤400)(ha:a.size≤400)(hb:b.size≤400):∀ s∈addS ca rule main a b,yWz s:=by
 have hi:(impF a b).size≤1000:=by simp only[impF,Fm.size,yQe,yQ7]; omega
 have hi':(impF b a).size≤1000:=by simp only[impF,Fm.size,yQe,yQ7]; omega
 have l1:=zYo (show main.size≤1000 by omega)
 have l2:=zYo (show a.size≤1000 by omega)
 have l3:=zYo (show b.size≤1000 by omega)
 have l4:=xV4 (show a.size≤1000 by omega) (show b.size≤1000 by omega)
 have l5:=xV4 hi hi'
 have q0:∀ s∈([]:List Sq),yWz s:=fun s hs=>by cases hs
 have q1:∀ {x:Sq},yWz x→∀ s∈[x],yWz s:=fun hx s hs=>by obtain rfl:=List.mem_singleton.1 hs; exact hx
 have q2:∀ {x y:Sq},yWz x→yWz y→∀ s∈[x,y],yWz s:=fun hx hy s hs=>by
  rcases List.mem_cons.1 hs with rfl | hs
  ·exact hx
  ·obtain rfl:=List.mem_singleton.1 hs; exact hy
 have c0:([]:List Fm).length≤64:=Nat.zero_le _
 have c1:∀ f:Fm,[f].length≤64:=fun _=>by simp
 have c2:∀ f g:Fm,[f,g].length≤64:=fun _ _=>by simp
 unfold addS
 refine yXu (q1 ⟨⟨yZp,l2⟩,c0,c1 _⟩) (yXu (q1 ⟨⟨l2,yZp⟩,c1 _,c0⟩) (yXu (q1 ⟨⟨l4,yZp⟩,c2 _ _,c0⟩) (yXu (q2 ⟨⟨yZp,l2⟩,c0,c1 _⟩ ⟨⟨yZp,l3⟩,c0,c1 _⟩) (yXu (q2 ⟨⟨l2,yZp⟩,c1 _,c0⟩ ⟨⟨l3,yZp⟩,c1 _,c0⟩)
  (yXu (yXu (q1 ⟨⟨yZp,l2⟩,c0,c1 _⟩) (q1 ⟨⟨yZp,l4⟩,c0,c2 _ _⟩)) (yXu (q2 ⟨⟨yZp,l2⟩,c0,c1 _⟩ ⟨⟨l3,yZp⟩,c1 _,c0⟩) (yXu (q1 ⟨⟨l2,l3⟩,c1 _,c1 _⟩) (yXu (q1 ⟨⟨l5,yZp⟩,c2 _ _,c0⟩) (yXu (q2 ⟨⟨l2,l3⟩,c1 _,c1 _⟩ ⟨⟨l3,l2⟩,c1 _,c1 _⟩)
  (yXu (q1 ⟨⟨l2,yZp⟩,c1 _,c0⟩) (yXu (q1 ⟨⟨yZp,l2⟩,c0,c1 _⟩) (yXu (q1 ⟨⟨l2,yZp⟩,c1 _,c0⟩) (yXu (q1 ⟨⟨yZp,l2⟩,c0,c1 _⟩) (yXu (q2 ⟨⟨yZp,l1⟩,c0,c1 _⟩ ⟨⟨l1,yZp⟩,c1 _,c0⟩) (yXu (q1 ⟨⟨yZp,l3⟩,c0,c1 _⟩) q0)))))))))))))))
theorem yYu:∀ {l:List Fm}{g:Fm},g∈l→g.size≤yQ7 l
 | a::l,g,h=>by
  simp only[yQ7]
  rcases List.mem_cons.1 h with rfl | h
  ·omega
  ·have:=yYu h; omega
theorem wK5 {l:List Fm}{n:Nat}(h:yQ7 l≤n)(hn:1≤n)(k:Nat):((l[k]?).getD fm0).size≤n:=by
 cases hk:l[k]? with
 | none=>exact hn
 | some a=>exact Nat.le_trans (yYu (lMg hk)) h
theorem xQd {ca rule:Nat}{r:Rw}{main:Fm}{term:Tm}{name:ByteArray}{ad:List Sq}(h:yXw ca rule r main term name=(ad,0)):∀ s∈ad,yWz s:=by
 unfold yXw at h
 by_cases hc:(!fmB ca main || (decide (r.op≠0)&&decide (main.op≠r.op)))=true
 ·rw[if_pos hc] at h
  cases (Prod.mk.inj h).2
 ·rw[if_neg hc] at h
  have hf:fmB ca main=true:=by
   cases hq:fmB ca main
   ·simp[hq] at hc
   ·rfl
  have hm:main.size≤400:=by
   unfold fmB at hf
   simp only[bAt] at hf
   exact (yJn hf.1).2.1
  have hs:∀ k,((main.subs[k]?).getD fm0).size≤400:=fun k=>wK5 (by
   obtain⟨o,n,us,sub⟩:=main
   simp only[Fm.size] at hm
   show yQ7 sub≤400
   omega) (by omega) k
  by_cases h0:r.asks=0
  ·simp only[if_pos h0] at h
   rw[← (Prod.mk.inj h).1]
   exact xVm hm (hs 0) (hs 1)
  ·simp only[if_neg h0] at h
   generalize (if r.asks=2 then Tm.mk true name [] else term)=t at h
   by_cases h1:(!t.ok)=true
   ·simp only[if_pos h1] at h
    cases (Prod.mk.inj h).2
   ·simp only[if_neg h1] at h
    by_cases h2:(yZg ((main.subs[0]?).getD fm0) [(main.nm,t)]).2≠0
    ·simp only[if_pos h2] at h
     cases (Prod.mk.inj h).2
    ·simp only[if_neg h2] at h
     rw[← (Prod.mk.inj h).1]
     exact xVm hm (yZq _ _) (hs 1)
theorem yWa (s:Sq):∀ (l l':List Sq) (ts ts':List Tr),l.length=ts.length→yJ6 s (l++l') (ts++ts')=(yJ6 s l ts&&yJ6 s l' ts')
 | [],l',[],ts',_=>by simp[yJ6]
 | a::l,l',t::ts,ts',h=>by
  simp only[List.cons_append,yJ6,yWa s l l' ts ts' (by simpa using h),Bool.and_assoc]
 | [],_,_::_,_,h=>by simp at h
 | _::_,_,[],_,h=>by simp at h
theorem zJg {l l':List Fm}(h:fitL l)(h':fitL l'):fitL (l++l'):=fun f hf=>(List.mem_append.1 hf).elim (h f) (h' f)
theorem wU4 (G:Gl gl)(T:Gt gl)(ca rule:Nat)(s:Sq)(main:Fm)(term:Tm)(name:ByteArray)(sub:List Tr)(x:IV)(hx:IsTr (.mk rule s main term name sub) x)(hs:yYj s)(hm:main.size≤1000000)(ht:term.size≤1000000)
  (hsub:∀ a∈sub,yYj a.sq) (st:ISt):ICall prog gl 72 [.raw (.int .u8 ca),.cptr x] st (fun r st'=>r=.raw (.int .i64 (yZn ca (.mk rule s main term name sub)))∧st'=st):=by
 obtain⟨tl,xl,tr,xr,op,fn,ta,xa,tb,xb,v,un,tu,xu,ts,xs,rfl,hru,e1,i1,e2,i2,hy,hz,e3,i3⟩:=hx.mk
 have hstep:=fun st=>vZe gl G T ca s _ ⟨tl,xl,tr,xr,rfl,e1,i1,e2,i2⟩ hs rule main _ hy hm term _ hz ht name st
 unfold yZn
 refine ICall.intro (c:=cf prog gl [] [(9,[0,1,2,3,4,5,6,7,9,10,11,12,13,14,15,16,19,8,17,18,20])]) func72 rfl (by show _≤84; simp) (by kernel_rfl) ?_
 simp(config:=zzC)only[go_sem,fits]
 refine (hstep _).mono ?_
 rintro _ st ⟨tg,ys,rfl,he,hys,rfl⟩
 generalize hq:yZv ca s rule main term name=q at hys ⊢
 obtain⟨ad,er⟩:=q
 simp only at hys ⊢
 by_cases h0:er=0
 ·subst h0
  obtain⟨hv,r,hr⟩:=xGg hq
  have hfit:=xQd hr
  simp(config:=zzC)only[go_sem,show decide (((0:Nat):Int)=0)=true from rfl,i3.len,hys.len,fits]
  intro _ _
  by_cases hl:sub.length=ad.length
  ·have dl:decide ((sub.length:Int)=(ad.length:Int))=true:=dEt (by omega)
   simp(config:=zzC)only[go_sem,dl,hys.len]
   intro _
   refine LoopC.ctr ad.length (fun k fr st' ds=>yJ6 s (ad.take k) (sub.take k)=true∧fr 0=.iv (.raw (.int .u8 ca))∧fr 1=.iv (.cptr (.agg [.raw (.int .u8 rule),.sl tl xl,.sl tr xr,.raw (.int .u8 op),.raw (.string fn),.sl ta xa,.sl tb xb,.raw (.bool v),.raw (.string un),.sl tu xu,.raw (.string name),.sl ts xs]))∧fr 46=.iv (.sl tg ys)∧fr 47=.iv (.raw (.int .i64 ad.length))∧fr 48=.iv (.raw (.int .i64 k))∧st'=st∧ds=[]) ?_ ?_ ?_
   ·simp(config:=zzC)only[go_sem]
    simp[yJ6]
   ·rintro k fr st1 _ hlt ⟨hn,f0,f1,f46,f47,f48,rfl,rfl⟩
    obtain⟨a,ha⟩:=yQ5 hlt
    obtain⟨w,hkw,hw⟩:=hys.get ha
    obtain⟨b,hb⟩:=yQ5 (l:=sub) (k:=k) (by omega)
    obtain⟨z,hkz,hz⟩:=i3.get hb
    have hza:=hfit a (lMg ha)
    have hvl:s.l.length≤64∧s.r.length≤64:=by
     unfold yXe at hv
     simp only[bAt,dTe] at hv
     exact⟨hv.1.1.1.1.2,hv.1.1.1.2⟩
    obtain⟨t1,x1,t2,x2,rfl,k1,j1,k2,j2⟩:=hw
    have hC1:=fun st=>xVq gl s.l a.l tl t1 ⟨true,.full,1⟩ xl x1 (.inr rfl) i1 j1 (by have:=hza.2.1; omega) st
    have hC2:=fun st=>xVq gl s.r a.r tr t2 ⟨true,.full,1⟩ xr x2 (.inr rfl) i2 j2 (by have:=hza.2.2; omega) st
    have hsb:=hsub b (lMg hb)
    obtain⟨br,bs,bm,bt,bn,bsub⟩:=b
    obtain⟨tl',xl',tr',xr',op',fn',ta',xa',tb',xb',v',un',tu',xu',ts',xs',rfl,_,g1,m1,g2,m2,_⟩:=hz.mk
    have hlen1:(ad.take k).length=(sub.take k).length:=by rw[List.length_take,List.length_take]; omega
    have hpl:yYj (s.plus a):=⟨zJg hs.1 hza.1.1,zJg hs.2 hza.1.2⟩
    simp(config:=zzC)only[go_sem,f0,f1,f46,f47,f48,lt_i hlt,yQ1 he,yQ1 e3,iNn,hkw,hkz,fits,yQ9]
    refine (hC1 _).mono ?_
    rintro _ st2 ⟨t3,y1,rfl,g3,m3,rfl⟩
    simp(config:=zzC)only[go_sem,f0,f1,f46,f47,f48,lt_i hlt,yQ1 he,yQ1 e3,iNn,hkw,hkz,fits,yQ9]
    refine (hC2 _).mono ?_
    rintro _ st2 ⟨t4,y2,rfl,g4,m4,rfl⟩
    simp(config:=zzC)only[go_sem,f0,f1,f46,f47,f48,lt_i hlt,yQ1 he,yQ1 e3,iNn,hkw,hkz,fits,yQ9]
    refine (wV2 gl G bs (s.plus a) _ _ ⟨_,_,_,_,rfl,g1,m1,g2,m2⟩ ⟨_,_,_,_,rfl,g3,m3,g4,m4⟩ hsb hpl _).mono ?_
    rintro _ st2 ⟨rfl,rfl⟩
    cases hw:yKk bs (s.plus a)
    ·simp(config:=zzC)only[go_sem]
     refine yQ0 ⟨?_,rfl⟩
     have hp:yJ6 s ad sub=false:=by
      conv=>lhs; rw[← List.take_append_drop k ad,← List.take_append_drop k sub]
      rw[List.drop_eq_getElem_cons hlt,List.drop_eq_getElem_cons (show k<sub.length by omega),yWa s _ _ _ _ hlen1,(lGs ha).2,(lGs hb).2]
      simp only[yJ6,Tr.sq,hw,Bool.false_and,Bool.and_false]
     rw[if_neg (by omega),if_neg (by omega),hp]; rfl
    ·simp(config:=zzC)only[go_sem,f0,f1,f46,f47,f48,yQf hlt (show ad.length≤281474976710656 by omega)]
     rw[yQ6 ha,yQ6 hb,yWa s _ _ _ _ hlen1,hn]
     simp only[yJ6,Tr.sq,hw,Bool.true_and]
   ·rintro fr st1 _ ⟨hn,f0,f1,f46,f47,f48,rfl,rfl⟩
    rw[lTl,show sub.take ad.length=sub by rw[← hl,lTl]] at hn
    simp(config:=zzC)only[go_sem,f47,f48,yQt (nLi _)]
    refine yQ0 ⟨?_,rfl⟩
    rw[if_neg (by omega),if_neg (by omega),hn]; rfl
  ·have dl:decide ((sub.length:Int)=(ad.length:Int))=false:=dEf (by omega)
   simp(config:=zzC)only[go_sem,dl]
   refine yQ0 ⟨?_,rfl⟩
   rw[if_neg (by omega),if_pos hl]; rfl
 ·have d0:decide ((er:Int)=0)=false:=dEf (by omega)
  simp(config:=zzC)only[go_sem,d0]
  refine yQ0 ⟨?_,rfl⟩
  rw[if_pos h0]
end Go.Proofs.Tryz
