/- Walks: applies, SequentApplies. -/
import Derived.Test.YtjbhofcbleepiaaGreatDoorQF
import Derived.Test.YtjbhofcbleepiaaGreatDoorQE
import Derived.Test.YtjbhofcbleepiaaGreatDoorKE
import Derived.Test.YtjbhofcbleepiaaGreatDoorJM
import Derived.Test.YtjbhofcbleepiaaGreatDoorJW
import Derived.OpenShut
import Derived.WalkKit
import Derived.ProofKit
import Derived.Deep.DeepHandedRow
import Derived.Lib.LaidTab
import Derived.Carry
import Derived.RowKit
import Derived.RowKitTokens
import Derived.FnData
set_option linter.all false
namespace Go.Proofs.Tryz
open Go Go.Iv
set_option maxRecDepth 4000
variable (gl:Nat→Option IV)
theorem wKj {N:ISt}(hraw:wKb N){l:List Sq}{y:IV}{t:Tag}{xs:List IV}(hy:rawY y)(ho:OI N y (.sl t xs))(hes:okEs t 2)(hap:appT l.length t)(hxs:IsSqsD l xs):y.one=true∧∃ d,OK (fun b=>N b≠none) d 2 N y:=by
 have hlen:=hxs.w.len
 cases ho with
 | refl=>exact hy.elim
 | nil _ h=>exact⟨rfl,0,.inr rfl⟩
 | sl g cap _ _ cs hcap hlen' hcl hs hst hroom h =>
  have h3:=zGs hes hcap
  rw[h3] at hroom
  have hs3:∀ x∈xs,x.cells.length=2:=yZh hxs
  have hpos:0<xs.length:=by
   rcases hap with hn | hp
   ·rw[hcap] at hn; cases hn
   ·rw[hlen]; exact hp.1
  have hcc:=Nat.mul_le_mul_right 2 hcl
  have part:∀ i,i<xs.length→∃ (r0 r1:IV) (v0 v1:Option Addr×Nat×Nat),cs[2*i]?=some r0∧cs[2*i+1]?=some r1∧r0=.raw (.slice v0.1 v0.2.1 v0.2.2)∧r1=.raw (.slice v1.1 v1.2.1 v1.2.2) ∧
    (∃ d,OK (fun b=>N b≠none) d 4 N r0)∧∃ d,OK (fun b=>N b≠none) d 4 N r1:=fun i hi=>by
   obtain⟨x,hx⟩:=yQ3 hi
   obtain⟨s,ha,hax⟩:=hxs.mem hx
   obtain⟨t1,x1,t2,x2,rfl,e1,a1,i1,e2,a2,i2⟩:=hax
   obtain⟨r0,hr0⟩:=yQ3 (show 2*i<cs.length by omega)
   obtain⟨r1,hr1⟩:=yQ3 (show 2*i+1<cs.length by omega)
   have f0:=yV7 hs3 hx (show 0<2 by omega)
   have f1:=yV7 hs3 hx (show 1<2 by omega)
   have o0:=h _ _ _ hr0 f0
   have o1:=h _ _ _ hr1 f1
   obtain⟨w,rfl⟩:=yYv (hraw _ _ hst r0 (lMg hr0)) o0
   obtain⟨w',rfl⟩:=yYv (hraw _ _ hst r1 (lMg hr1)) o1
   have q0:=zGq hraw _ s.l (Nat.lt_succ_self _) _ _ _ ⟨w,rfl⟩ o0 e1 i1.1 (xVb a1 i1)
   have q1:=zGq hraw _ s.r (Nat.lt_succ_self _) _ _ _ ⟨w',rfl⟩ o1 e2 i2.1 (xVb a2 i2)
   have g0:∃ q:Option Addr×Nat×Nat,w=.slice q.1 q.2.1 q.2.2:=by cases o0 with | nil=>exact⟨(_,_,_),rfl⟩ | sl=>exact⟨(_,_,_),rfl⟩
   have g1:∃ q:Option Addr×Nat×Nat,w'=.slice q.1 q.2.1 q.2.2:=by cases o1 with | nil=>exact⟨(_,_,_),rfl⟩ | sl=>exact⟨(_,_,_),rfl⟩
   obtain⟨p0,rfl⟩:=g0
   obtain⟨p1,rfl⟩:=g1
   exact⟨_,_,p0,p1,hr0,hr1,rfl,rfl,q0,q1⟩
  have each:∀ i,i<xs.length→∃ d,(∀ y,cs[i*2+0]?=some y→OK (fun b=>N b≠none) d 4 N y)∧∀ y,cs[i*2+1]?=some y→OK (fun b=>N b≠none) d 4 N y:=fun i hi=>by
   obtain⟨r0,r1,v0,v1,k0,k1,_,_,⟨d,hd⟩,e,he⟩:=part i hi
   refine⟨d+e,fun y hy=>?_,fun y hy=>?_⟩
   ·rw[Nat.mul_comm,Nat.add_zero,k0] at hy; cases hy
    exact hd.le (by omega)
   ·rw[Nat.mul_comm,k1] at hy; cases hy
    exact he.le (by omega)
  obtain⟨d,hd'⟩:=zZ9 (P:=fun d i=>(∀ y,cs[i*2+0]?=some y→OK (fun b=>N b≠none) d 4 N y)∧∀ y,cs[i*2+1]?=some y→OK (fun b=>N b≠none) d 4 N y) (fun d i h=>⟨fun y hy=>(h.1 y hy).up,fun y hy=>(h.2 y hy).up⟩) _ each
  obtain⟨r0,_,v0,_,k0,_,q0,_⟩:=part 0 hpos
  refine⟨rfl,d+1,.inr ⟨g,xs.length,cap,cs,r0,rfl,(by show N g≠none; rw[hst]; exact fun h=>by cases h),hlen',hcl,hst,hroom,k0,⟨v0,q0⟩,fun i hi=>⟨fun j hj=>?_,fun j y s' hy hn=>by
   obtain⟨rfl | rfl,rfl⟩:=nx2 hn
   ·exact (hd' i hi).1 y hy
   ·exact (hd' i hi).2 y hy⟩⟩⟩
  obtain⟨r0,r1,v0,v1,k0,k1,q0,q1,_⟩:=part i hi
  rw[Nat.mul_comm]
  match j,hj with
  | 0,_=>exact⟨r0,k0,by rw[q0]; exact⟨rfl,fun h=>by cases h⟩⟩
  | 1,_=>exact⟨r1,k1,by rw[q1]; exact⟨rfl,fun h=>by cases h⟩⟩
mutual
theorem xZ0:∀ {t:Tr},okT t=true→zZi t=true
 | .mk rule s f u n sub,h=>by
  simp only[okT,bAt] at h
  have h1:=(yKf h.1).2.2.1
  have h2:=zQd u
  simp only[zZi,bAt,dTe]
  exact⟨by omega,zY0 h.2⟩
theorem zY0:∀ {l:List Tr},okTs l=true→zJ0 l=true
 | [],_=>rfl
 | a::l,h=>by
  simp only[okTs,bAt] at h
  simp only[zJ0,bAt]
  exact⟨xZ0 h.1,zY0 h.2⟩
end
theorem xV9:∀ {l:List Sq}{xs:List IV},IsSqsD l xs→dfrs xs∧∀ c∈xs.flatMap IV.cells,c.one=true
 | [],xs,h=>by
  simp only[IsSqsD] at h; subst h
  exact⟨trivial,fun c hc=>by simp at hc⟩
 | a::l,xs,h=>by
  obtain⟨y,ys,rfl,h1,h2⟩:=h
  have:=xV9 h2
  refine⟨⟨h1.dfr,this.1⟩,fun c hc=>?_⟩
  rw[List.flatMap_cons,List.mem_append] at hc
  rcases hc with hc | hc
  ·exact h1.one.2 c hc
  ·exact this.2 c hc
theorem zG7:∀ {l:List Sq}{xs:List IV},IsSqs l xs→IsSqs l (ages xs)
 | [],xs,h=>by
  simp only[IsSqs] at h; subst h
  rfl
 | a::l,xs,h=>by
  obtain⟨y,ys,rfl,h1,h2⟩:=h
  exact⟨_,_,rfl,h1.aged,zG7 h2⟩
theorem LTt.three {T:ISt}{t:Tm}{c:List IV}(h:LTt T t c):∃ v n a k l,c=[.raw (.bool v),.raw (.string n),.raw (.slice a k l)]:=by
 obtain⟨v,n,us⟩:=t
 obtain⟨a,cs,h,_⟩:=h
 exact⟨_,_,_,_,_,h⟩
theorem LFf.four {T:ISt}{t:Fm}{c:List IV}(h:LFf T t c):∃ o n a k l b k' l',c=[.raw (.int .u8 o),.raw (.string n),.raw (.slice a k l),.raw (.slice b k' l')]:=by
 obtain⟨o,n,us,sub⟩:=t
 obtain⟨a,cs,b,ds,_,h,_⟩:=h
 exact⟨_,_,_,_,_,_,_,_,h⟩
variable {gl} in
theorem xVr {f:FuncId}{args args':List IV}{q:List Sq×Nat}{st:ISt}(hf:flatSt st)(hgl:vQg gl)(hl:Lents st args args')(h:ICall prog gl f (ages args') (yWg st) (AdRD (yWg st) q)) :
  ICall prog gl f args st (fun r st'=>subSt st st'∧flatSt st'∧∃ a k l N tg xs d,r=.tup [.raw (.slice a k l),.raw (.int .i64 q.2)]∧OI N (.raw (.slice a k l)) (.sl tg xs)∧okEs tg 2∧IsSqs q.1 xs∧OK (fun b=>N b≠none) d 2 N (.raw (.slice a k l))∧subSt N st'∧∀ b,N b≠none→st b=none):=by
 refine (ICall.lentOwn hf hgl hl (K:=fun r=>∃ tg xs,r=.tup [.sl tg xs,.raw (.int .i64 q.2)]∧okEs tg 2∧appT q.1.length tg∧IsSqsD q.1 xs) (h.mono fun r st' ⟨tg,xs,h1,h2,h3,h4,h5⟩=>⟨h5,by
  rw[h1]
  refine⟨?_,trivial,trivial⟩
  simp only[dfr]
  exact⟨h3.to h4.w.len,xV9 h4⟩,tg,xs,h1,h2,h3,h4⟩)).mono ?_
 rintro _ st3 ⟨hs3,hf3,_,N,⟨tg,xs,rfl,he,ha,hx⟩,hoN,hrY,hrN,hN3,hNd⟩
 obtain⟨y,rfl,hoy,hry⟩:=wKk hoN hrY
 obtain⟨_,d,hOK⟩:=wKj hrN hry hoy he ha hx
 have hraw:∃ a k l,y=.raw (.slice a k l):=by cases hoy with | refl=>exact hry.elim | nil=>exact⟨_,_,_,rfl⟩ | sl=>exact⟨_,_,_,rfl⟩
 obtain⟨a,k,l,rfl⟩:=hraw
 exact⟨hs3,hf3,a,k,l,N,tg,xs,d,rfl,hoy,he,hx.w,hOK,hN3,hNd⟩
theorem wXv (G:Gl gl)(T:Gt gl)(hgl:vQg gl)(ca:Nat)(t:Tr)(x:IV)(hx:IsTr t x)(hok:okT t=true)(hst:t.steps≤60)(st:ISt)(hfl:flatSt st) :
  ICall prog gl 13 [.raw (.int .u8 ca),x] st (fun r st'=>r=.raw (.bool true)∧st'=st):=by
 have hG:=fun st=>xZq gl _ t (Nat.lt_succ_self _) x hx hok (by omega) st
 have hNA:=wY0 hok
 have hte:=xZ0 hok
 obtain⟨rule,s,m,u,n,sub⟩:=t
 have hbk:=fun x hx st=>wU1 gl G ca rule s m u n sub x hx hNA hte st
 have hnode:(wFms s.l+wFms s.r≤300∧wFm m≤300∧wTm u≤300)∧yW9 s:=by
  simp only[okT,bAt] at hok
  have:=yKf hok.1
  exact⟨⟨this.1,this.2.1,this.2.2.1⟩,zUd this.1⟩
 obtain⟨⟨w1,w2,w3⟩,hfs⟩:=hnode
 have s1:=yKn s.l
 have s2:=yKn s.r
 have s3:=zJ1 m
 have s4:=zQd u
 have hx0:=hx
 obtain⟨tl,xl,tr,xr,op,fn,ta,xa,tb,xb,v,un,tu,xu,ts,xs,rfl,hru,e1,i1,e2,i2,hy,hz,e3,i3⟩:=hx.mk
 have hLs:=fun st hfl=>wJf gl s _ ⟨tl,xl,tr,xr,rfl,e1,i1,e2,i2⟩ (by omega) (by omega) st hfl
 have hLm:=fun st hfl=>zYv gl m _ hy (by omega) st hfl
 have hLu:=fun st hfl=>xU5 gl u _ hz (by omega) st hfl
 refine ICall.intro (c:=cf prog gl [] [(2,[0,1,3,4,6,7,9,10,11,2,5,8,12,13,14])]) func13 rfl (by show _≤110; simp) (by kernel_rfl) ?_
 simp(config:=zzC)only[go_sem,fits]
 refine (hG _).mono ?_
 rintro r st ⟨hr,rfl⟩
 have hr0:=hr
 obtain⟨tl2,xl2,tr2,xr2,op2,fn2,ta2,xa2,tb2,xb2,v2,un2,tu2,xu2,ts2,xs2,rfl,_,e12,i12,e22,i22,hy2,hz2,e32,i32⟩:=hr.mk
 have hRB:=fun st=>hbk _ hr0 st
 have hRA:=fun st=>xVm gl ca rule m _ hy2 (by omega) u _ hz2 (by omega) n st
 simp(config:=zzC)only[go_sem,fits]
 refine (hLs _ hfl).mono ?_
 rintro xa st1 ⟨hxa,hs1,hf1⟩
 obtain⟨za,hza,hoa⟩:=hxa.oi (by omega) (by omega)
 obtain⟨pa,ca1,qa,da,rfl,_⟩:=id hxa
 simp(config:=zzC)only[go_sem,fits]
 refine (hLm _ hf1).mono ?_
 rintro _ st2 ⟨cb,rfl,hxb,hs2,hf2⟩
 obtain⟨zb,hzb,hob⟩:=hxb.agg (by omega)
 obtain⟨b1,b2,b3,b4,b5,b6,b7,b8,rfl⟩:=hxb.four
 simp(config:=zzC)only[go_sem,fits]
 refine (hLu _ hf2).mono ?_
 rintro _ st3 ⟨cc,rfl,hxc,hs3,hf3⟩
 obtain⟨zc,hzc,hoc⟩:=hxc.agg (by omega)
 obtain⟨c1,c2,c3,c4,c5,rfl⟩:=hxc.three
 have hA3:=hxa.mono fun c o hc=>hs3 _ _ (hs2 _ _ (yKx hc).2)
 have hB3:=hxb.mono fun c o hc=>hs3 _ _ (yKx hc).2
 have hC3:=hxc.mono fun c o hc=>(yKx hc).2
 have hoa3:=hoa.sub fun c o hc=>hs3 _ _ (hs2 _ _ (yKx hc).2)
 have hob3:=hob.sub fun c o hc=>hs3 _ _ (yKx hc).2
 have hoc3:=hoc.sub fun c o hc=>(yKx hc).2
 have hKa:=wJg gl s _ _ ⟨tl,xl,tr,xr,rfl,e1,i1,e2,i2⟩ (by omega) (by omega) st3 hf3 hA3
 have hKb:=zYw gl m _ hy (by omega) _ st3 hf3 hB3
 have hKc:=xU6 gl u _ hz (by omega) _ st3 hf3 hC3
 have hA:=xVr (gl:=gl) hf3 hgl (Lents.self (y:=.raw (.int .u8 ca)) (Lents.self (y:=.raw (.int .u8 rule)) (Lents.lent hob3 (Lents.lent hoc3 (Lents.self (y:=.raw (.string n)) (Lents.nil _))))))
  (vQq gl G T ca rule m (age (age zb)) hzb.aged.aged (by omega) u (age (age zc)) hzc.aged.aged (by omega) n (yWg st3))
 simp(config:=zzC)only[go_sem,fits]
 refine hA.mono ?_
 rintro _ st4 ⟨hs4,hf4,p1,p2,p3,N1,tg1,xs1,d1,rfl,ho1,he1,hx1,hO1,hN1,hD1⟩
 simp(config:=zzC)only[go_sem,fits]
 refine (hRA _).mono ?_
 rintro _ st4 ⟨tg3,xs3,rfl,he3,hx3,rfl⟩
 have hB:=xVr (gl:=gl) hf4 hgl (Lents.self (y:=.raw (.int .u8 ca)) (Lents.lent (hoa3.sub hs4) (Lents.self (y:=.raw (.int .u8 rule)) (Lents.lent (hob3.sub hs4) (Lents.lent (hoc3.sub hs4) (Lents.self (y:=.raw (.string n)) (Lents.nil _)))))))
  (wYu gl G T ca s (age (age za)) hza.aged.aged hfs rule m (age (age zb)) hzb.aged.aged (by omega) u (age (age zc)) hzc.aged.aged (by omega) n (yWg st4))
 simp(config:=zzC)only[go_sem,fits]
 refine hB.mono ?_
 rintro _ st5 ⟨hs5,hf5,p4,p5,p6,N2,tg2,xs2,d2,rfl,ho2,he2,hx2,hO2,hN2,hD2⟩
 simp(config:=zzC)only[go_sem,fits]
 refine (hRB _).mono ?_
 rintro _ st5 ⟨tg4,xs4,rfl,he4,hx4,rfl⟩
 have hS1:=xZe (gl:=gl) hf5 (Lents.lent ((ho1.sub hN1).sub hs5) (Lents.self (y:=.sl tg3 xs3) (Lents.nil _))) (fun st=>by
  simp only[age]
  exact zYt gl _ _ _ _ _ _ (by exact he1) he3 (zG7 hx1) hx3 st)
 have hS2:=xZe (gl:=gl) hf5 (Lents.lent (ho2.sub hN2) (Lents.self (y:=.sl tg4 xs4) (Lents.nil _))) (fun st=>by
  simp only[age]
  exact zYt gl _ _ _ _ _ _ (by exact he2) he4 (zG7 hx2) hx4 st)
 rw[yQn.2 rfl] at hS1 hS2
 simp(config:=zzC)only[go_sem,fits,decide_true]
 refine hS1.mono ?_
 rintro _ st5 ⟨rfl,rfl⟩
 simp(config:=zzC)only[go_sem,fits]
 refine hS2.mono ?_
 rintro _ st5 ⟨rfl,rfl⟩
 simp(config:=zzC)only[go_sem,fits]
 refine (zYu gl (hO1.mono fun c o hc=>hs5 _ _ (hN1 _ _ hc))).mono ?_
 rintro _ st6 hov1
 have hN26:subSt N2 st6:=fun c o hc=>by
  rw[hov1 c fun hD=>?_]
  ·exact hN2 _ _ hc
  ·cases hq:N1 c with
   | none=>exact hD hq
   | some o' =>
    have:=hN1 _ _ hq
    rw[hD2 c (by rw[hc]; exact fun h=>by cases h)] at this
    cases this
 simp(config:=zzC)only[go_sem,fits]
 refine (zYu gl (hO2.mono hN26)).mono ?_
 rintro _ st7 hov2
 have hs7:subSt st3 st7:=fun c o hc=>by
  have h4:=hs4 _ _ hc
  rw[hov2 c fun hD=>by rw[hD2 c hD] at h4; cases h4]
  rw[hov1 c fun hD=>by rw[hD1 c hD] at hc; cases hc]
  exact hs5 _ _ (hs4 _ _ hc)
 simp(config:=zzC)only[go_sem,fits]
 refine (ICall.sub hKa hs7).mono ?_
 rintro _ st8 ⟨rfl,rfl⟩
 simp(config:=zzC)only[go_sem,fits]
 refine hKb.mono ?_
 rintro _ st8 ⟨rfl,rfl⟩
 simp(config:=zzC)only[go_sem,fits]
 refine hKc.mono ?_
 rintro _ st8 ⟨rfl,rfl⟩
 simp(config:=zzC)only[go_sem,fits]
 exact yQ9 (fun c o hc=>hs3 _ _ (hs2 _ _ (hs1 _ _ hc))) ⟨rfl,rfl⟩
theorem zXy (G:Gl gl)(T:Gt gl)(hgl:vQg gl)(ca:Nat)(t:Tr)(x:IV)(hx:IsTr t x)(hw:wTr t≤1099511627776)(st:ISt)(hfl:flatSt st) :
  ICall prog gl 4 [.raw (.int .u8 ca),x] st (fun r st'=>r=.raw (.bool true)∧st'=st):=by
 have hA:=fun st=>wKf gl G T st
 have hS:=fun st=>wW9 gl t x hx hw st
 have hK:=fun hok hst=>wXv gl G T hgl ca t x hx hok hst st hfl
 obtain⟨rule',tl',xl',tr',xr',op',fn',ta',xa',tb',xb',v',un',tu',xu',n',ts',xs',rfl⟩:=yUm hx
 refine iI func4 rfl rfl (by kernel_rfl) ?_
 simp(config:=zzC)only[go_sem,fits]
 refine (hS _).mono ?_
 rintro _ st ⟨rfl,rfl⟩
 cases hsm:(okT t&&decide (t.steps≤60))
 ·simp(config:=zzC)only[go_sem,fits]
  refine (hA _).mono ?_
  rintro _ st ⟨rfl,rfl⟩
  simp(config:=zzC)only[go_sem,fits]
  exact yQ0 ⟨rfl,rfl⟩
 ·rw[bAt,dTe] at hsm
  have hK:=hK hsm.1 hsm.2
  simp(config:=zzC)only[go_sem,fits]
  refine hK.mono ?_
  rintro _ st ⟨rfl,rfl⟩
  simp(config:=zzC)only[go_sem,fits]
  refine (hA _).mono ?_
  rintro _ st ⟨rfl,rfl⟩
  simp(config:=zzC)only[go_sem,fits]
  exact yQ0 ⟨rfl,rfl⟩
end Go.Proofs.Tryz
namespace Go.Proofs.Tryz
open Go Go.Iv Go.ChangeShapes
open Go.Proofs.YtjbhofcbleepiaaGreatDoor.Rows (uptoBulk uptoBulkAll)
set_option maxRecDepth 4000
theorem uSeq:prog.underlying 24=some (.struct #[⟨ "Left",22,0,false, "", "",0⟩,⟨ "Right",22,1,false, "", "",24⟩]):=by kernel_rfl
theorem vX6:prog.underlying 37=some (.struct #[⟨ "Rule",5,0,false, "", "",0⟩,⟨ "Seq",24,1,false, "", "",8⟩,⟨ "Main",27,3,false, "", "",56⟩,⟨ "Term",34,7,false, "", "",128⟩,⟨ "Name",9,10,false, "", "",176⟩,⟨ "Sub",35,11,false, "", "",192⟩]):=by kernel_rfl
theorem vX5:prog.underlying 35=some (.slice 37):=by kernel_rfl
theorem nSeq:prog.cellsOf 24=2:=by kernel_rfl
theorem vJ7:prog.cellsOf 37=12:=by kernel_rfl
theorem vJ6:prog.cellsOf 35=1:=by kernel_rfl
mutual
theorem xKz:∀ t:Tm,wTm t≤2*xGz t
 | .mk _ n us=>by have:=zJl us; simp only[wTm,xGz]; omega
theorem zJl:∀ l:List Tm,wTms l≤2*yUg l
 | []=>Nat.le_refl _
 | a::l=>by have:=xKz a; have:=zJl l; simp only[wTms,yUg]; omega
end
mutual
theorem xV0:∀ f:Fm,wFm f≤2*xU0 f
 | .mk _ n us sub=>by have:=zJl us; have:=zQ7 sub; simp only[wFm,xU0]; omega
theorem zQ7:∀ l:List Fm,wFms l≤2*zZ8 l
 | []=>Nat.le_refl _
 | a::l=>by have:=xV0 a; have:=zQ7 l; simp only[wFms,zZ8]; omega
end
section
variable {H:Type}{enc:TypeId×Value→H}{w:World}{spare:Nat→Bool}{held:Bool}
def RQ (d:DataW H)(s:Sq)(x:IV):Prop:=IsSq s x∧wFms s.l+wFms s.r≤2*uptoBulk d
theorem vXj (fuel:Nat)(cs:List Value)(y:DataW H×List MemPlace)(h:DataW.trod enc prog w 0 spare held fuel 24 cs=some y)(hb:uptoBulk y.1≤1048576):∃ s x,VL 0 (L0 w) w cs x.cells∧RQ y.1 s x:=by
 obtain⟨ys,n,rfl,rfl,hl,hlen,hf⟩:=DataW.trod_struct uSeq h
 match ys,hlen with
 | [y0,y1],_ =>
  rw[nSeq] at hl
  match cs,hl with
  | [c0,c1],_ =>
   have h0:=hf 0 _ rfl
   have h1:=hf 1 _ rfl
   simp only[wYa,List.drop_zero,List.drop_succ_cons,List.take_succ_cons,List.take_zero,List.getElem?_cons_zero,List.getElem?_cons_succ] at h0 h1
   simp only[List.map_cons,List.map_nil,uptoBulk,uptoBulkAll] at hb
   obtain⟨v0,tg0,xs0,l0,e0,hv0,ht0,hl0,hb0⟩:=zU8 h0 (by omega) (fun m _=>xKb m)
   obtain⟨v1,tg1,xs1,l1,e1,hv1,ht1,hl1,hb1⟩:=zU8 h1 (by omega) (fun m _=>xKb m)
   cases e0; cases e1
   refine⟨⟨l0,l1⟩,.agg [.sl tg0 xs0,.sl tg1 xs1],VL.cons hv0 (VL.cons hv1 VL.nil),⟨tg0,xs0,tg1,xs1,rfl,ht0,hl0,ht1,hl1⟩,?_⟩
   have:=zQ7 l0
   have:=zQ7 l1
   simp only[List.map_cons,List.map_nil,uptoBulk,uptoBulkAll]
   omega
theorem xZl:∀ {us:List Tr}{xs:List IV},us.length=xs.length→(∀ (i:Nat)(a:Tr)(x:IV),us[i]?=some a→xs[i]?=some x→IsTr a x)→IsTrs us xs
 | [],xs,h,_=>by simpa[IsTrs] using h.symm
 | a::us,[],h,_=>by simp at h
 | a::us,x::xs,h,hh=>⟨x,xs,rfl,hh 0 a x rfl rfl,xZl (by simpa using h) (fun i b y hb hy=>hh (i+1) b y (by simpa using hb) (by simpa using hy))⟩
theorem xKx:∀ {us:List Tr}{ds:List (DataW H)},us.length=ds.length→(∀ (i:Nat)(a:Tr)(d:DataW H),us[i]?=some a→ds[i]?=some d→wTr a+a.steps≤2*uptoBulk d)→wTrs us+yQv us≤2*uptoBulkAll ds
 | [],ds,h,_=>by simp[wTrs,yQv]
 | a::us,[],h,_=>by simp at h
 | a::us,x::xs,h,hh=>by
  have h1:=hh 0 a x rfl rfl
  have h2:=xKx (us:=us) (ds:=xs) (by simpa using h) (fun i b y hb hy=>hh (i+1) b y (by simpa using hb) (by simpa using hy))
  simp only[wTrs,yQv,uptoBulkAll]; omega
def RR (d:DataW H)(t:Tr)(x:IV):Prop:=IsTr t x∧wTr t+t.steps≤2*uptoBulk d
theorem RR.cells {d:DataW H}{t:Tr}{x:IV}(h:RR d t x):x.cells.length=12:=by
 obtain⟨_,_,_,_,_,_,_,_,_,_,_,_,_,_,_,_,_,_,rfl⟩:=yUm h.1; rfl
theorem wJq {fuel:Nat}{cs:List Value}{y:DataW H×List MemPlace}(h:DataW.trod enc prog w 0 spare held fuel 35 cs=some y)(hb:uptoBulk y.1≤1048576)
  (IH:∀ (n:Nat),n<fuel→∀ (cs:List Value) (y:DataW H×List MemPlace),DataW.trod enc prog w 0 spare held n 37 cs=some y→uptoBulk y.1≤1048576→∃ t x,VL 0 (L0 w) w cs x.cells∧RR y.1 t x) :
  ∃ v tg xs ts,cs=[v]∧V 0 (L0 w) w v (.sl tg xs)∧okEs tg 12∧IsTrs ts xs∧wTrs ts+yQv ts+1≤2*uptoBulk y.1:=by
 obtain⟨v,tg,xs,ts,rfl,hv,htg,hl,hc⟩:=xJk (H:=H) (P:=prog) (d:=y.1) (p:=y.2) RR vX5 vJ7 (by decide) h (fun elems sp e=>by
   have:=yV3 elems sp; have:=zQs elems; rw[← e] at *; omega) (fun d t x h=>h.cells) (fun n hn cs' z q ⟨elems,sp,he,hm⟩ hz=>by
   have:=yV3 elems sp
   have:=zGn hm
   rw[he] at hb
   exact IH n (by omega) cs' (z,q) hz (show uptoBulk z≤1048576 by omega))
 refine⟨v,tg,xs,ts,rfl,hv,htg,?_⟩
 rcases hc with⟨hd,rfl⟩ | ⟨elems,sp,hd,hel,hr⟩
 ·obtain rfl:ts=[]:=List.length_eq_zero_iff.1 (by simpa using hl)
  exact⟨rfl,by rw[hd]; simp[wTrs,yQv,uptoBulk]⟩
 ·have hi:∀ (i:Nat) (a:Tr),ts[i]?=some a→∃ x d,xs[i]?=some x∧elems[i]?=some d∧RR d a x:=fun i a ha=>by
   have hi:=(lGs ha).1
   exact⟨_,_,List.getElem?_eq_getElem (by omega),List.getElem?_eq_getElem (by omega),hr i _ _ _ (List.getElem?_eq_getElem (by omega)) ha (List.getElem?_eq_getElem (by omega))⟩
  refine⟨xZl hl (fun i a x ha hx=>?_),?_⟩
  ·obtain⟨x',d,h1,h2,h3⟩:=hi i a ha
   rw[hx] at h1; cases h1
   exact h3.1
  ·have:=xKx (us:=ts) (ds:=elems) (by omega) (fun i a d ha hd'=>by
    obtain⟨x',d',h1,h2,h3⟩:=hi i a ha
    rw[hd'] at h2; cases h2
    exact h3.2)
   have:=yV3 elems sp
   rw[hd]
   omega
theorem cs12 {cs:List Value}(h:cs.length=12):∃ a b c d e f g h i j k l,cs=[a,b,c,d,e,f,g,h,i,j,k,l]:=by
 match cs,h with
 | [a,b,c,d,e,f,g,h,i,j,k,l],_=>exact⟨a,b,c,d,e,f,g,h,i,j,k,l,rfl⟩
theorem wG6:∀ (fuel:Nat)(cs:List Value)(y:DataW H×List MemPlace),DataW.trod enc prog w 0 spare held fuel 37 cs=some y→uptoBulk y.1≤1048576→∃ t x,VL 0 (L0 w) w cs x.cells∧RR y.1 t x:=by
 intro fuel
 induction fuel using Nat.strongRecOn with
 | ind fuel IH =>
  intro cs y h hb
  obtain⟨ys,n,rfl,rfl,hl,hlen,hf⟩:=DataW.trod_struct vX6 h
  match ys,hlen with
  | [y0,y1,y2,y3,y4,y5],_ =>
   rw[vJ7] at hl
   obtain⟨c0,c1,c2,c3,c4,c5,c6,c7,c8,c9,c10,c11,rfl⟩:=cs12 hl
   have h0:=hf 0 _ rfl
   have h1:=hf 1 _ rfl
   have h2:=hf 2 _ rfl
   have h3:=hf 3 _ rfl
   have h4:=hf 4 _ rfl
   have h5:=hf 5 _ rfl
   simp only[nU8,xJq,nSeq,wUc,wUb,vJ6,List.drop_zero,List.drop_succ_cons,List.take_succ_cons,List.take_zero,List.getElem?_cons_zero,List.getElem?_cons_succ] at h0 h1 h2 h3 h4 h5
   simp only[List.map_cons,List.map_nil,uptoBulk,uptoBulkAll] at hb
   obtain⟨op,e0,rfl,hop⟩:=DataW.trod_int uU8 h0
   obtain⟨s,xs,hvs,hs1,hs2⟩:=vXj n _ _ h1 (by omega)
   obtain⟨f,xf,hvf,hf1,hf2⟩:=xKb n _ _ h2 (by omega)
   obtain⟨t,xt,hvt,ht1,ht2⟩:=xUq n _ _ h3 (by omega)
   obtain⟨nm,e4,hn,hn2⟩:=xUv h4 (by omega)
   obtain⟨v,tg,xb,ts,e5,hv,htg,hts,hbk⟩:=wJq h5 (by omega) (fun m hm=>IH m (by omega))
   cases e0; cases e4; cases e5
   have hop:0≤op∧op<256:=by
    simp only[Lit.wf,IntKind.min,IntKind.max,IntKind.signed,IntKind.bits,bAt,dTe] at hop
    exact⟨of_decide_eq_true hop.1,by have:=of_decide_eq_true hop.2; simp at this; omega⟩
   obtain⟨k,rfl⟩:=Int.eq_ofNat_of_zero_le hop.1
   obtain⟨tl,xl,tr,xr,rfl,k1,k2,k3,k4⟩:=hs1
   have hf0:=hf1
   have ht0:=ht1
   obtain⟨o,fn,us,sub⟩:=f
   obtain⟨ta,xa,tb,xb',rfl,_⟩:=hf1.mk
   obtain⟨b,un,uu⟩:=t
   obtain⟨tu,xu,rfl,_⟩:=ht1.mk
   refine⟨.mk k s (.mk o fn us sub) (.mk b un uu) nm ts,.agg [.raw (.int .u8 k),.sl tl xl,.sl tr xr,.raw (.int .u8 o),.raw (.string fn),.sl ta xa,.sl tb xb',.raw (.bool b),.raw (.string un),.sl tu xu,.raw (.string nm),.sl tg xb],
    VL.cons (.raw _ trivial) (hvs.append (hvf.append (hvt.append (VL.cons hn (VL.cons hv VL.nil))))),?_,?_⟩
   ·simp only[IsTr]
    exact⟨tl,xl,tr,xr,o,fn,ta,xa,tb,xb',b,un,tu,xu,tg,xb,rfl,by omega,k1,k2,k3,k4,hf0,ht0,htg,hts⟩
   ·have:=xV0 (.mk o fn us sub)
    have:=xKz (.mk b un uu)
    simp only[List.map_cons,List.map_nil,uptoBulk,uptoBulkAll,wTr,Tr.steps]
    omega
end
end Go.Proofs.Tryz
namespace Go.Proofs.Tryz
open Go Go.Iv Go.ChangeShapes Go.RowKit
open Go.Proofs.YtjbhofcbleepiaaGreatDoor
set_option maxRecDepth 8000
theorem uRow:prog.underlying 250=some (.struct #[⟨ "right",4,0,false, "", "lyceum/syntax",0⟩,⟨ "schema",4,1,false, "", "lyceum/syntax",1⟩,⟨ "name",5,2,false, "", "lyceum/syntax",2⟩,⟨ "args",3,3,false, "", "lyceum/syntax",8⟩,⟨ "subs",3,4,false, "", "lyceum/syntax",16⟩]):=by kernel_rfl
theorem vGp:prog.underlying 251=some (.array 17 250):=by kernel_rfl
theorem uInt:prog.underlying 3=some (.int .i64):=by kernel_rfl
theorem nRow:prog.cellsOf 250=5:=by kernel_rfl
theorem uJ9:prog.cellsOf 251=85:=by kernel_rfl
theorem nInt:prog.cellsOf 3=1:=by kernel_rfl
theorem gRows:prog.globalNamed "lyceum/syntax.rows" = some 0:=by kernel_rfl
theorem gRowsT:(prog.globals[0]?).map (·.type)=some 251:=by kernel_rfl
theorem gPow:prog.globalNamed "internal/strconv.uint64pow10" = some 2:=by kernel_rfl
theorem gPowT:(prog.globals[2]?).map (·.type)=some 314:=by kernel_rfl
theorem uPow:prog.underlying 314=some (.array 20 246):=by kernel_rfl
theorem uU64:prog.underlying 246=some (.int .u64):=by kernel_rfl
theorem nPow:prog.cellsOf 314=20:=by kernel_rfl
theorem nU64:prog.cellsOf 246=1:=by kernel_rfl
section
variable {H:Type}{enc:TypeId×Value→H}{w:World}{spare:Nat→Bool}{held:Bool}
def rowD (op:Nat):DataW H:=.agg [.lit (.bool (yZd op)),.lit (.bool (zK5 op)),.lit (.int .u8 (yXn op)),.lit (.int .i64 (yXg op)),.lit (.int .i64 (yXf op))]
def rowV (op:Nat):List Value:=[.bool (yZd op),.bool (zK5 op),.int .u8 (yXn op),.int .i64 (yXg op),.int .i64 (yXf op)]
theorem wQg {fuel:Nat}{cs:List Value}{op:Nat}{p:List MemPlace}(h:DataW.trod enc prog w 0 spare held fuel 250 cs=some (rowD op,p)):cs=rowV op:=by
 obtain⟨ys,n,rfl,he,hl,hlen,hf⟩:=DataW.trod_struct uRow h
 match ys,hlen with
 | [y0,y1,y2,y3,y4],_ =>
  rw[nRow] at hl
  match cs,hl with
  | [c0,c1,c2,c3,c4],_ =>
   have h0:=hf 0 _ rfl
   have h1:=hf 1 _ rfl
   have h2:=hf 2 _ rfl
   have h3:=hf 3 _ rfl
   have h4:=hf 4 _ rfl
   simp only[vJ8,nU8,nInt,List.drop_zero,List.drop_succ_cons,List.take_succ_cons,List.take_zero,List.getElem?_cons_zero,List.getElem?_cons_succ] at h0 h1 h2 h3 h4
   obtain⟨b0,e0,rfl⟩:=DataW.trod_bool xUm h0
   obtain⟨b1,e1,rfl⟩:=DataW.trod_bool xUm h1
   obtain⟨b2,e2,rfl,_⟩:=DataW.trod_int uU8 h2
   obtain⟨b3,e3,rfl,_⟩:=DataW.trod_int uInt h3
   obtain⟨b4,e4,rfl,_⟩:=DataW.trod_int uInt h4
   cases e0; cases e1; cases e2; cases e3; cases e4
   have he1:=congrArg Prod.fst he
   simp only[rowD,List.map_cons,List.map_nil,DataW.agg.injEq,List.cons.injEq,DataW.lit.injEq,Lit.bool.injEq,Lit.int.injEq,true_and,and_true] at he1
   obtain⟨rfl,rfl,rfl,rfl,rfl⟩:=he1
   rfl
theorem wQf:(Rows.laid_lyceum_syntax_rows:DataW H)=.agg ((List.range 17).map rowD):=by rfl
theorem xYu {fuel:Nat}{cs:List Value}{p:List MemPlace}(h:DataW.trod enc prog w 0 spare held fuel 251 cs=some (Rows.laid_lyceum_syntax_rows,p)) :
  cs.length=85∧∀ op,op<17→(cs.drop (op*5)).take 5=rowV op:=by
 obtain⟨ys,n,rfl,he,hl,hlen,hf⟩:=DataW.trod_array vGp h
 rw[uJ9] at hl
 refine⟨hl,fun op hop=>?_⟩
 have h1:=hf op hop
 rw[nRow] at h1
 have he1:=congrArg Prod.fst he
 rw[wQf] at he1
 simp only[DataW.agg.injEq] at he1
 have h2:(ys.map (·.1))[op]?=some (rowD op):=by
  rw[← he1,List.getElem?_map,List.getElem?_range hop]; rfl
 rw[List.getElem?_map] at h2
 obtain⟨y,hy,hy2⟩:=Option.map_eq_some_iff.1 h2
 rw[hy] at h1
 obtain⟨y1,y2⟩:=y
 simp only at hy2
 subst hy2
 exact wQg h1
end
def gl0:Nat→Option IV
 | 0=>some (.agg rowsL)
 | 2=>some (.agg pow10L)
 | _=>none
theorem G0:Gl gl0:=⟨rfl⟩
theorem T0:Gt gl0:=⟨rfl⟩
def X0 (w:World):WS:={ w:=w,L:=L0 w,st:=fun _=>none,d:=0 }
theorem xJ9 {cs:List Value}(hl:cs.length=85)(h:∀ op,op<17→(cs.drop (op*5)).take 5=rowV op)(i:Nat)(r:Value)(c:IV)(hr:cs[i]?=some r)(hc:rowsL[i]?=some c):c=.raw r∧zZn r:=by
 have hi:i<85:=by have:=(lGs hr).1; omega
 have hop:i / 5<17:=by omega
 have e:i=i / 5*5+i % 5:=by omega
 have hm:i % 5<5:=Nat.mod_lt _ (by decide)
 have h1:(rowV (i / 5))[i % 5]?=some r:=by
  rw[← h _ hop,List.getElem?_take,if_pos hm,List.getElem?_drop,← e]; exact hr
 have h2:(rowI (i / 5))[i % 5]?=some c:=by
  rw[← (zWp _ hop).2,List.getElem?_take,if_pos hm,List.getElem?_drop,← e]; exact hc
 generalize i % 5=k at h1 h2 hm
 match k,hm with
 | 0,_=>cases h1; cases h2; exact⟨rfl,trivial⟩
 | 1,_=>cases h1; cases h2; exact⟨rfl,trivial⟩
 | 2,_=>cases h1; cases h2; exact⟨rfl,trivial⟩
 | 3,_=>cases h1; cases h2; exact⟨rfl,trivial⟩
 | 4,_=>cases h1; cases h2; exact⟨rfl,trivial⟩
theorem uJq {W:World}(hL:laidMetH prog Rows.sequentSetsUptoRow.laid W):Go.Iv.Good ⟨prog,gl0,0⟩ (X0 W):=by
 obtain⟨ps,hlv,_⟩:=(show laidMet prog _ W from hL)
 obtain⟨_,_,_,_,_,_,_,_,_,_,hlv,_⟩:=hlv
 obtain⟨_,_,_,_,_,_,_,_,_,_,hlv,_⟩:=hlv
 obtain⟨g1,t1,cs1,f1,p1,q1,hg1,ht1,hv1,hd1,hlv,_⟩:=hlv
 obtain⟨g2,t2,cs2,f2,p2,q2,hg2,ht2,hv2,hd2,_,_⟩:=hlv
 obtain rfl:=Option.some.inj (gPow.symm.trans hg1)
 obtain rfl:=Option.some.inj (gPowT.symm.trans ht1)
 obtain rfl:=Option.some.inj (gRows.symm.trans hg2)
 obtain rfl:=Option.some.inj (gRowsT.symm.trans ht2)
 have hc1:=Lib.cells_of_tab (zs:=Lib.pow10Tab) uPow uU64 nU64 nPow hd1
 have hc2:=xYu hd2
 have hb:∀ (n:String) (g:Nat) (cs:Array Value),prog.globalNamed n=some g→W.var? prog n=some cs→∃ T f,W.heap[g]?=some (.cells cs T f):=by
  intro n g cs hn hv
  unfold World.var? at hv
  rw[hn,Option.bind_some] at hv
  split at hv
  ·rename_i c t f hh
   cases hv
   exact⟨_,_,hh⟩
  ·cases hv
 obtain⟨T1,fr1,hh1⟩:=hb _ _ _ gPow hv1
 obtain⟨T2,fr2,hh2⟩:=hb _ _ _ gRows hv2
 have row:∀ (g:Nat) (cs:Array Value) (T:TypeId) (f:Nat×Nat) (xs:List IV),W.heap[g]?=some (.cells cs T f)→cs.size=xs.length→(∀ (i:Nat) (r:Value) (c:IV),cs.toList[i]?=some r→xs[i]?=some c→c=.raw r∧zZn r) →
   V 0 (L0 W) W (.pointer (some ⟨g,0,none⟩)) (.cptr (.agg xs)):=by
  intro g cs T f xs hh hl h
  refine .cptr _ _ cs.toList rfl (by simpa[IV.cells] using hl) ?_ (fun i r hr=>?_) (fun i r c hr hc=>?_)
  ·show 0+cs.toList.length≤L0 W g
   simp[L0,hh]
  ·show W.cell? ⟨g,0+i,none⟩=some r
   simp only[World.cell?,hh,Nat.zero_add]
   simpa using hr
  ·obtain⟨rfl,hk⟩:=h i r c hr hc
   exact .raw _ hk
 have hp:∀ (i:Nat) (r:Value) (c:IV),cs1.toList[i]?=some r→pow10L[i]?=some c→c=.raw r∧zZn r:=by
  intro i r c hr hc
  rw[hc1,List.getElem?_map] at hr
  unfold pow10L at hc
  rw[List.getElem?_map] at hc
  obtain⟨z,hz,rfl⟩:=Option.map_eq_some_iff.1 hr
  rw[hz] at hc
  cases hc
  exact⟨rfl,trivial⟩
 have hs1:cs1.size=pow10L.length:=by
  rw[← Array.length_toList,hc1]; simp[pow10L]
 have hs2:cs2.size=rowsL.length:=by
  rw[← Array.length_toList,hc2.1]; rfl
 refine⟨fun b o h=>(by cases h),fun g x hx=>?_,Nat.zero_le _,fun b hb=>?_,fun g x hx=>?_,fun _=>Nat.zero_le _⟩
 ·match g,hx with
  | 0,hx=>cases hx; exact row 0 cs2 T2 fr2 _ hh2 hs2 (fun i r c hr hc=>xJ9 hc2.1 hc2.2 i r c hr hc)
  | 2,hx=>cases hx; exact row 2 cs1 T1 fr1 _ hh1 hs1 hp
 ·show L0 W b=0
  unfold L0
  rw[Array.getElem?_eq_none (show W.heap.size≤b from hb)]
 ·match g,hx with
  | 0,hx=>cases hx; exact⟨T2,fr2 == (0,0),by show shq W 0=_; simp[shq,hh2,hs2,IV.cells]⟩
  | 2,hx=>cases hx; exact⟨T1,fr1 == (0,0),by show shq W 2=_; simp[shq,hh1,hs1,IV.cells]⟩
theorem xXd {W:World}{X':WS}(h:Ext (X0 W) X'):Below W.heap.size W X'.w :=
 ⟨h.os,h.tape,h.output,h.size,fun k hk=>(h.keep k hk rfl).1⟩
theorem wUk:laidOutB prog=true:=by kernel_rfl
theorem zQa {H:Type}{enc:TypeId×Value→H}{W W':World}(hb:Below W.heap.size W W')(sp:Nat→Bool):∀ {ts:List TypeId} {vs:List Value} {ds:List (DataW H)} {ps:List MemPlace},
  (∀ t∈ts,prog.readableRec t=true∧t<prog.types.size)→DataW.TrodAll enc prog W 0 (fun _=>true) true ts vs ds ps→(∀ p∈ps,p.block<W.heap.size)→(∀ p∈ps,sp p.block=true) →
  DataW.TrodAll enc prog W' 0 sp true ts vs ds ps
 | [],vs,ds,ps,_,h,_,_=>by
  obtain⟨rfl,rfl,rfl⟩:=trodAll_nil h
  rfl
 | t::ts,vs,ds,ps,ht,h,hlt,hsp=>by
  obtain⟨v,vs1,d,ds1,a,b,rfl,rfl,rfl,h1,h2⟩:=trodAll_cons h
  refine⟨a,b,WideElems.Trod_stays wUk (ht t (by simp)).1 (ht t (by simp)).2 h1 (fun p hp=>hb.same (hlt p (by simp[hp]))) (fun p hp=>hsp p (by simp[hp])),?_,rfl⟩
  exact zQa hb sp (fun t h=>ht t (by simp[h])) h2 (fun p hp=>hlt p (by simp[hp])) (fun p hp=>hsp p (by simp[hp]))
theorem wV4 {H:Type}{enc:TypeId×Value→H}{f:Func}{s:ChangeSpec}{fid:FuncId}{W:World}{args:Array Value}{ds gs:List (DataW H)}{before:List MemPlace}{ivs:List IV}
  (hvars:s.vars=[]) (hW:DataW.Whole enc prog f.params.toList s.vars false W args.toList ds gs before) (hfn:s.fn H (ds++gs)={ results:=[.lit (.bool true)],args:=ds })
  (hres:f.resultTypes=#[4]) (hread:∀ t∈f.params.toList,prog.readableRec t=true∧t<prog.types.size) (hg:Go.Iv.Good ⟨prog,gl0,0⟩ (X0 W)) (hv:VL 0 (L0 W) W args.toList ivs)
  (hc:ICall prog gl0 fid ivs (fun _=>none) (fun r st'=>r=.raw (.bool true)∧st'=fun _=>none)) :
  Calls prog fid args W fun e W'=>∃ v,e=.returned v∧s.post enc prog f false true false false W args v W':=by
 refine (hc 0 (X0 W) args.toList hg rfl hv).mono ?_
 rintro e W' ⟨v,rfl,X',x,rfl,hg',he,hx,rfl,_⟩
 obtain rfl:=V.raw_inv hx
 have hb:=xXd he
 refine⟨_,rfl,?_⟩
 have hW':=hW
 obtain⟨p,q,hA,hV,rfl,hz,_⟩:=hW
 rw[hvars] at hV
 have hgs:gs=[]∧q=[]:=by
  cases gs with
  | nil=>exact⟨rfl,hV⟩
  | cons _ _=>exact absurd hV (by simp[DataW.TrodVars])
 obtain⟨rfl,rfl⟩:=hgs
 have hlt:∀ x∈p,x.block<W.heap.size:=fun x hx=>by simpa using hW'.lt x (by simpa using hx)
 have hargs:∀ sp:Nat→Bool,(∀ x∈p,sp x.block=true)→DataW.TrodAll enc prog X'.w 0 sp true f.params.toList args.toList (s.fn H (ds++[])).args p:=fun sp hsp=>by
  rw[hfn]
  exact zQa hb sp hread hA hlt hsp
 have hr:∀ (b:Nat) (sp:Nat→Bool) (hd:Bool),DataW.TrodAll enc prog X'.w b sp hd f.resultTypes.toList ((Value.bool true).resultList f.resultTypes.size) (s.fn H (ds++[])).results []:=fun _ _ _=>by
  rw[hfn,hres]
  exact trodAll_cons_mk (shut_bool xUm _) trodAll_mk0
 have hvs:∀ sp:Nat→Bool,DataW.TrodVars enc prog X'.w sp s.vars (s.fn H (ds++[])).vars []:=fun _=>by
  rw[hvars,hfn]; rfl
 have hsz:∀ x∈p,(fun b=>decide (b<W.heap.size)) x.block=true:=fun x hx=>by simpa using hlt x hx
 refine⟨ds,[],p++[],[],p,[],hW',hr _ _ _,hargs _ hsz,hvs _,World.keptBut_mono (fun x hx=>⟨hx,Or.inr (by simpa using hx)⟩) (hb.frame (·∈p++[])),fun _=>⟨ok_one hres rfl (okWide_bool_mk xUm _),_,_,([]++p)++[],
  ⟨[]++p,[],trodAll_append (hargs _ (fun _ _=>rfl)) (hr _ _ _),hvs _,rfl,?_,fun h=>by cases h⟩,fun x hx _=>by simpa using hx⟩⟩
 intro b off hp
 rw[hb.frozen (p:=⟨b,off,none⟩) (hlt (.cell b off) (by simpa using hp))]
 exact hz b off (by simpa using hp)
theorem wJr {W:World}{base:Nat}{v:Value}{t:Tr}{x:IV}(h:Value.okWide prog W .any base 37 v)(hx:VL 0 (L0 W) W v.cells.toList x.cells)(hf:IsTr t x):V 0 (L0 W) W v x:=by
 obtain⟨cs,rfl,_⟩:=WideShapes.okWide_struct vX6 h
 obtain⟨_,_,_,_,_,_,_,_,_,_,_,_,_,_,_,_,_,_,rfl⟩:=yUm hf
 cases cs
 exact hx.agg
theorem wVz {α:Prop}{W:World}{base:Nat}{v:Value}(h:Value.okWide prog W .any base 5 v)(_:α):∃ b:Nat,v=.int .u8 b∧V 0 (L0 W) W (.int .u8 b) (.raw (.int .u8 b))∧b<256:=by
 simp only[Value.okWide,uU8,Cell.okWide] at h
 cases v<;>simp_all [Cell.ok]
 rename_i k n
 obtain⟨rfl,h1,h2⟩:=h
 have e1:IntKind.u8.min=0:=by decide
 have e2:IntKind.u8.max=255:=by decide
 rw[e1] at h1
 rw[e2] at h2
 refine⟨n.toNat,?_,?_,?_⟩
 ·omega
 ·exact .raw _ trivial
 ·omega
def tab32:List Int:=[0,1,28,2,29,14,24,3,30,22,20,15,25,17,4,8,31,27,13,23,21,19,16,7,26,12,18,6,11,5,10,9]
def tab64:List Int:=[0,1,56,2,57,49,28,3,61,58,42,50,38,29,17,4,62,47,59,36,45,43,51,22,53,39,33,30,24,18,12,5,63,55,48,27,60,41,37,16,46,35,44,21,52,32,23,11,54,26,40,15,34,20,31,10,25,14,19,9,13,8,7,6]
def lay (cs:List Value):Obj→Obj
 | .cells _ t frozen=>.cells cs.toArray t frozen
 | o=>o
noncomputable def zKh (os:Os):World :=
 { World.holding prog os ⟨#[],#[],[]⟩ with heap:=((((World.holding prog os ⟨#[],#[],[]⟩).heap.modify 0 (lay ((List.range 17).flatMap rowV))).modify 2 (lay (Lib.pow10Tab.map fun z=>.int .u64 z))).modify 3 (lay (tab32.map fun z=>.int .u8 z))).modify 4 (lay (tab64.map fun z=>.int .u8 z)) }
theorem wV5 (os:Os)(args:Array Value):laidMet prog Rows.sequentSetsUptoRow.laid ((zKh os).forCall (fun _ _=>0) ⟨#[],args,[]⟩).memory :=
 laidMet_of_run' 8 (by kernel_rfl) (by kernel_rfl)
end Go.Proofs.Tryz
namespace Go.Proofs.Tryz
open Go Go.Iv
set_option maxRecDepth 4000
theorem zVm:∀ l:List IV,(∀ x∈l,∃ v,x=.raw v)→ages l=l
 | [],_=>rfl
 | x::l,h=>by
  obtain⟨v,rfl⟩:=h x (by simp)
  simp only[ages,age,zVm l fun y hy=>h y (by simp[hy])]
theorem wW5:∀ g x,gl0 g=some x→age x=x:=by
 intro g x hx
 match g,hx with
 | 0,hx =>
  cases hx
  simp only[age]
  rw[zVm _ fun y hy=>?_]
  obtain⟨op,_,hy⟩:=List.mem_flatMap.1 hy
  unfold rowI at hy
  simp only[List.mem_cons,List.not_mem_nil,or_false] at hy
  rcases hy with rfl | rfl | rfl | rfl | rfl<;>exact⟨_,rfl⟩
 | 2,hx =>
  cases hx
  simp only[age]
  rw[zVm _ fun y hy=>?_]
  obtain⟨z,_,rfl⟩:=List.mem_map.1 hy
  exact⟨_,rfl⟩
end Go.Proofs.Tryz
