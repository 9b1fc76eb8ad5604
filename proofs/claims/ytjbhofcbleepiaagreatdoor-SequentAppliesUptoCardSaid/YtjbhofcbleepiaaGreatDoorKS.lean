/- Walks of the second program: names, righ -/
import Derived.Test.YtjbhofcbleepiaaGreatDoorJL
set_option linter.all false
namespace Go.Proofs.Tryz
open Go Go.Iv
set_option maxRecDepth 4000
variable (gl:Nat→Option IV)
theorem in_n (c:UInt8)(lo hi:Nat)(a b:Int)(ha:a=lo)(hb:b=hi)(st:ISt):ICall prog gl 113 [.raw (.int .u8 c.toNat),.raw (.int .u8 a),.raw (.int .u8 b)] st (fun x st'=>x=.raw (.bool (inB lo hi c))∧st'=st):=by
 subst ha hb
 have hleq:∀ x y:Int,binI prog 5 .leq (.int .u8 x) (.int .u8 y)=some (.bool (decide (x≤y))):=fun x y=>by simp only[go_sem]
 refine iI func113 rfl rfl (by kernel_rfl) ?_
 by_cases h1:lo≤c.toNat
 ·simp(config:=zzC)only[go_sem,show decide ((lo:Int)≤(c.toNat:Int))=true from dEt (by omega)]
  exact yQ0 ⟨by congr 3; simp[inB,h1],rfl⟩
 ·simp(config:=zzC)only[go_sem,show decide ((lo:Int)≤(c.toNat:Int))=false from dEf (by omega)]
  exact yQ0 ⟨by simp[inB,h1],rfl⟩
def yW3 (d:Bool)(c:UInt8):Bool:=yKz c || (!d&&(yJb c || yY9 c))
def yJ2 (d:Bool)(s:ByteArray):Bool :=
 match s.data.toList with
 | []=>false
 | _::cs=>decide (cs.length<16)&&cs.all (yW3 d)
theorem zKf (s:ByteArray)(d:Bool)(st:ISt):ICall prog gl 112 [.raw (.string s),.raw (.bool d)] st (fun x st'=>x=.raw (.bool (yJ2 d s))∧st'=st):=by
 refine iI func112 rfl rfl (by kernel_rfl) ?_
 have hsz:=zK0 s
 cases hl:s.data.toList with
 | nil =>
  rw[hl] at hsz
  simp(config:=zzC)only[go_sem]
  refine LoopC.ctr 0 (fun k fr st' ds=>fr 0=.iv (.raw (.string s))∧fr 5=.iv (.raw (.int .i64 1))∧st'=st∧ds=[]) ?_ ?_ ?_
  ·simp(config:=zzC)only[go_sem]
  ·intro k _ _ _ h; omega
  ·rintro fr _ _ ⟨f0,f5,rfl,rfl⟩
   simp(config:=zzC)only[go_sem,f0,f5,show decide ((1:Int)<((s.size:Nat):Int))=false from dEf (by rw[hsz]; simp),show decide ((0:Int)<((s.size:Nat):Int))=false from dEf (by rw[hsz]; simp)]
   intros
   exact yQ0 ⟨by simp[yJ2,hl],rfl⟩
 | cons c cs =>
  rw[hl,List.length_cons] at hsz
  simp(config:=zzC)only[go_sem]
  refine LoopC.ctr cs.length (fun k fr st' ds=>(cs.take k).all (yW3 d)=true∧fr 0=.iv (.raw (.string s))∧fr 1=.iv (.raw (.bool d))∧fr 5=.iv (.raw (.int .i64 ((k+1:Nat):Int)))∧st'=st∧ds=[]) ?_ ?_ ?_
  ·simp(config:=zzC)only[go_sem]; rfl
  ·rintro k fr st _ hlt ⟨hn,f0,f1,f5,rfl,rfl⟩
   obtain⟨x,hx⟩:=yQ3 hlt
   have hlt':decide (((k+1:Nat):Int)<((s.size:Nat):Int))=true:=by rw[hsz]; simp; omega
   have hx':xQ6 s ((k+1:Nat):Int)=some x:=zG6 (by rw[hl]; simpa using hx)
   have hbad:yW3 d x=false→yJ2 d s=false:=fun h=>by
    have:cs.all (yW3 d)=false:=by rw[List.all_eq_false]; exact⟨x,lMg hx,by simp[h]⟩
    simp[yJ2,hl,this]
   have hgood:yW3 d x=true→(cs.take (k+1)).all (yW3 d)=true:=fun h=>by
    rw[yQ4 hx,List.all_append,hn]; simp[h]
   simp(config:=zzC)only[go_sem,f0,f1,f5,hlt',hx']
   intro hlen
   have hw:IntKind.i64.wrap (((k+1:Nat):Int)+1)=((k+1+1:Nat):Int):=by rw[w64]<;>omega
   refine (in_n gl x 48 57 _ _ rfl rfl _).mono ?_
   rintro _ st ⟨rfl,rfl⟩
   cases h1:inB 48 57 x
   case true =>
    simp(config:=zzC)only[go_sem,f0,f1,f5,hw]
    exact hgood (by simp[yW3,yKz,h1])
   cases d
   case true =>
    simp(config:=zzC)only[go_sem,f0,f1,f5]
    exact yQ0 ⟨by rw[hbad (by simp[yW3,yKz,h1])],rfl⟩
   simp(config:=zzC)only[go_sem,f0,f1,f5,hx']
   refine (in_n gl x 65 90 _ _ rfl rfl _).mono ?_
   rintro _ st ⟨rfl,rfl⟩
   cases h2:inB 65 90 x
   case true =>
    simp(config:=zzC)only[go_sem,f0,f1,f5,hw]
    exact hgood (by simp[yW3,yJb,h2])
   simp(config:=zzC)only[go_sem,f0,f1,f5,hx']
   refine (in_n gl x 97 122 _ _ rfl rfl _).mono ?_
   rintro _ st ⟨rfl,rfl⟩
   cases h3:inB 97 122 x
   case true =>
    simp(config:=zzC)only[go_sem,f0,f1,f5,hw]
    exact hgood (by simp[yW3,yY9,h3])
   simp(config:=zzC)only[go_sem,f0,f1,f5]
   exact yQ0 ⟨by rw[hbad (by simp[yW3,yKz,yJb,yY9,h1,h2,h3])],rfl⟩
  ·rintro fr st _ ⟨hn,f0,f1,f5,rfl,rfl⟩
   rw[lTl] at hn
   simp(config:=zzC)only[go_sem,f0,f5,show decide (((cs.length+1:Nat):Int)<((s.size:Nat):Int))=false from dEf (by rw[hsz]; simp),show decide ((0:Int)<((s.size:Nat):Int))=true from dEt (by rw[hsz]; omega)]
   intros
   refine yQ0 ⟨?_,rfl⟩
   congr 3
   simp only[yJ2,hl,hn,Bool.and_true]
   rw[hsz]
   simp
   omega
theorem wQz {p q:UInt8→Bool}{s:ByteArray}{c:UInt8}{cs:List UInt8}(hl:s.data.toList=c::cs)(h:p c=true)(hq:cs.all q=true)
  (hw:∀ w∈[wAll,xXm,zJm,xXn,yUl,zWg],(match w.data.toList with | []=>true | c::cs=>p c&&cs.all q)=false):yXv s=false:=by
 have key:∀ w∈[wAll,xXm,zJm,xXn,yUl,zWg],s≠w:=fun w hm he=>by
  have:=hw w hm
  rw[← he,hl] at this
  simp[h,hq] at this
 simp only[List.mem_cons,List.not_mem_nil,or_false,forall_eq_or_imp,forall_eq] at key
 obtain⟨k1,k2,k3,k4,k5,k6⟩:=key
 unfold yXv
 rw[dEf k1,dEf k2,dEf k3,dEf k4,dEf k5,dEf k6]; rfl
theorem zZj:yW3 true=yKz:=by funext c; simp[yW3]
theorem yVf:yW3 false=yW8:=by
 funext c
 simp only[yW3,yW8,Bool.not_false,Bool.true_and]
 cases yKz c<;>cases yJb c<;>cases yY9 c<;>rfl
theorem yUw {d:Bool}{s:ByteArray}(h:yJ2 d s=true):∃ c cs,s.data.toList=c::cs∧cs.length<16∧cs.all (yW3 d)=true:=by
 unfold yJ2 at h
 split at h
 ·cases h
 ·rename_i c cs hl
  simp only[bAt,dTe] at h
  exact⟨c,cs,hl,h.1,h.2⟩
theorem yVn {p:UInt8→Bool}{d:Bool}{s:ByteArray}{c:UInt8}{cs:List UInt8}(hl:s.data.toList=c::cs)(hr:p c=true→cs.all (yW3 d)=true→yXv s=false):yKr p (yW3 d) s=(yJ2 d s&&p c):=by
 simp only[yKr,yJ2,hl]
 cases h1:p c
 ·simp
 ·cases h2:cs.all (yW3 d)
  ·simp
  ·simp[hr h1 h2]
theorem zGx {p:UInt8→Bool}{d:Bool}{s:ByteArray}(h:yJ2 d s=false):yKr p (yW3 d) s=false:=by
 unfold yJ2 at h
 unfold yKr
 split
 ·rfl
 ·rename_i c cs hl
  rw[hl] at h
  simp only at h
  cases h1:decide (cs.length<16)<;>cases h2:cs.all (yW3 d)<;>simp_all
theorem yJr (s:ByteArray)(st:ISt):ICall prog gl 66 [.raw (.string s)] st (fun x st'=>x=.raw (.bool (yKg s))∧st'=st):=by
 refine iI func66 rfl rfl (by kernel_rfl) ?_
 simp(config:=zzC)only[go_sem]
 refine (zKf gl s true _).mono ?_
 rintro _ st ⟨rfl,rfl⟩
 cases h:yJ2 true s
 ·simp(config:=zzC)only[go_sem]
  exact yQ0 ⟨by rw[yKg,← zZj,zGx h],rfl⟩
 ·obtain⟨c,cs,hl,h16,hq⟩:=yUw h
  simp(config:=zzC)only[go_sem,yGj hl]
  refine (in_n gl c 117 122 _ _ rfl rfl _).mono ?_
  rintro _ st ⟨rfl,rfl⟩
  simp(config:=zzC)only[go_sem]
  refine yQ0 ⟨?_,rfl⟩
  rw[yKg,← zZj,yVn hl (fun h1 h2=>wQz hl h1 (by rw[zZj] at h2; exact h2) (by decide)),h,Bool.true_and]
theorem xQq (s:ByteArray)(st:ISt):ICall prog gl 263 [.raw (.string s)] st (fun x st'=>x=.raw (.bool (zKb s))∧st'=st):=by
 refine iI func263 rfl rfl (by kernel_rfl) ?_
 simp(config:=zzC)only[go_sem]
 refine (zKf gl s false _).mono ?_
 rintro _ st ⟨rfl,rfl⟩
 cases h:yJ2 false s
 ·simp(config:=zzC)only[go_sem]
  exact yQ0 ⟨by rw[zKb,← yVf,zGx h],rfl⟩
 ·obtain⟨c,cs,hl,h16,hq⟩:=yUw h
  simp(config:=zzC)only[go_sem,yGj hl]
  refine (in_n gl c 65 90 _ _ rfl rfl _).mono ?_
  rintro _ st ⟨rfl,rfl⟩
  simp(config:=zzC)only[go_sem]
  refine yQ0 ⟨?_,rfl⟩
  rw[zKb,← yVf,yVn hl (fun h1 h2=>wQz hl h1 (by rw[yVf] at h2; exact h2) (by decide)),h,Bool.true_and]; rfl
theorem yWh {s:ByteArray}(h:yXv s=true):zW6 s=false:=by
 unfold zW6 yKr
 split
 ·rfl
 ·simp[h]
theorem xJc (s:ByteArray)(st:ISt):ICall prog gl 161 [.raw (.string s)] st (fun x st'=>x=.raw (.bool (zW6 s))∧st'=st):=by
 refine iI func161 rfl rfl (by kernel_rfl) ?_
 simp(config:=zzC)only[go_sem]
 refine yZ7 (fun h=>?_) (fun h=>?_)
 ·simp(config:=zzC)only[go_sem,h]
  exact yQ0 ⟨by rw[yWh (by rw[show s=wAll from of_decide_eq_true h]; rfl)],rfl⟩
 have h1:s≠wAll:=of_decide_eq_false h
 simp(config:=zzC)only[go_sem,h]
 refine yZ7 (fun h=>?_) (fun h=>?_)
 ·simp(config:=zzC)only[go_sem,h]
  exact yQ0 ⟨by rw[yWh (by rw[show s=xXm from of_decide_eq_true h]; rfl)],rfl⟩
 have h2:s≠xXm:=of_decide_eq_false h
 simp(config:=zzC)only[go_sem,h]
 refine yZ7 (fun h=>?_) (fun h=>?_)
 ·simp(config:=zzC)only[go_sem,h]
  exact yQ0 ⟨by rw[yWh (by rw[show s=zJm from of_decide_eq_true h]; rfl)],rfl⟩
 have h3:s≠zJm:=of_decide_eq_false h
 simp(config:=zzC)only[go_sem,h]
 refine yZ7 (fun h=>?_) (fun h=>?_)
 ·simp(config:=zzC)only[go_sem,h]
  exact yQ0 ⟨by rw[yWh (by rw[show s=xXn from of_decide_eq_true h]; rfl)],rfl⟩
 have h4:s≠xXn:=of_decide_eq_false h
 simp(config:=zzC)only[go_sem,h]
 refine yZ7 (fun h=>?_) (fun h=>?_)
 ·simp(config:=zzC)only[go_sem,h]
  exact yQ0 ⟨by rw[yWh (by rw[show s=yUl from of_decide_eq_true h]; rfl)],rfl⟩
 have h5:s≠yUl:=of_decide_eq_false h
 simp(config:=zzC)only[go_sem,h]
 refine (zKf gl s false _).mono ?_
 rintro _ st ⟨rfl,rfl⟩
 cases h:yJ2 false s
 ·simp(config:=zzC)only[go_sem]
  exact yQ0 ⟨by rw[zW6,← yVf,zGx h],rfl⟩
 ·obtain⟨c,cs,hl,h16,hq⟩:=yUw h
  simp(config:=zzC)only[go_sem,yGj hl]
  refine (in_n gl c 97 116 _ _ rfl rfl _).mono ?_
  rintro _ st ⟨rfl,rfl⟩
  simp(config:=zzC)only[go_sem]
  refine yQ0 ⟨?_,rfl⟩
  rw[zW6,← yVf,yVn hl (fun k1 _=>?_),h,Bool.true_and]
  have h6:s≠zWg:=fun he=>by
   rw[he] at hl
   have h7:(117:UInt8)=c:=(List.cons.inj hl).1
   rw[← h7] at k1
   exact absurd k1 (by decide)
  unfold yXv
  rw[dEf h1,dEf h2,dEf h3,dEf h4,dEf h5,dEf h6]; rfl
def RTm (t:Tm):Prop:=∀ (x:IV) (_:IsTm t x) (_:t.size≤1099511627776) (st:ISt),ICall prog gl 114 [x,.raw (.bool false)] st (fun r st'=>r=.raw (.bool t.ok)∧st'=st)
theorem yKp:∀ (l m:List Tm),yJ8 (l++m)=(yJ8 l&&yJ8 m)
 | [],m=>by simp[yJ8]
 | a::l,m=>by simp only[List.cons_append,yJ8,yKp l m,Bool.and_assoc]
theorem xQy {l:List Tm}{a:Tm}(h:a∈l)(ha:a.ok=false):yJ8 l=false:=by
 induction l with
 | nil=>cases h
 | cons b l ih =>
  simp only[yJ8]
  rcases List.mem_cons.1 h with rfl | h
  ·simp[ha]
  ·simp[ih h]
theorem yZs:∀ l:List Tm,l.length≤yQ8 l
 | []=>Nat.le_refl _
 | a::l=>by have:=yZs l; have:=a.size_pos; simp only[List.length_cons,yQ8]; omega
theorem yWx {l:List Tm}{a:Tm}(h:a∈l):a.size≤yQ8 l:=by
 induction l with
 | nil=>cases h
 | cons b l ih =>
  simp only[yQ8]
  rcases List.mem_cons.1 h with rfl | h
  ·omega
  ·have:=ih h; omega
theorem xYq (v:Bool)(n:ByteArray)(us:List Tm)(IH:∀ a∈us,RTm gl a):RTm gl (.mk v n us):=by
 intro x hx hsz st
 obtain⟨tg,xs,rfl,htg,hxs⟩:=hx.mk
 simp only[Tm.size] at hsz
 have hlsz:=yZs us
 refine iI func114 rfl rfl (by kernel_rfl) ?_
 cases v
 ·simp(config:=zzC)only[go_sem,fits]
  refine LoopC.ctr us.length (fun k fr st' ds=>yJ8 (us.take k)=true∧fr 1=.iv (.raw (.bool false))∧fr 2=.box [.raw (.bool false),.raw (.string n),.sl tg xs]∧fr 5=.iv (.raw (.int .i64 k))∧st'=st∧ds=[]) ?_ ?_ ?_
  ·simp(config:=zzC)only[go_sem]; exact⟨rfl,rfl⟩
  ·rintro k fr st _ hlt ⟨hok,f1,f2,f5,rfl,rfl⟩
   obtain⟨a,ha⟩:=yQ3 hlt
   obtain⟨y,hky,hy⟩:=hxs.get ha
   have hmem:=lMg ha
   have hcall:=IH a hmem y hy (by have:=yWx hmem; omega) st
   obtain⟨v3,n3,m3⟩:=a
   obtain⟨t3,x3,rfl,_⟩:=hy.mk
   simp(config:=zzC)only[go_sem,f1,f2,f5,hxs.len,lt_i hlt,yQ2 htg,iNn,hky,fits]
   intros
   refine hcall.mono ?_
   rintro _ st ⟨rfl,rfl⟩
   cases hb:(Tm.mk v3 n3 m3).ok
   ·simp(config:=zzC)only[go_sem]
    exact yQ0 ⟨by rw[show (Tm.mk false n us).ok=false by simp[Tm.ok,xQy hmem hb]],rfl⟩
   ·simp(config:=zzC)only[go_sem,f1,f2,f5,yQa hlt (show us.length≤281474976710656 by omega)]
    rw[yQ4 ha,yKp,hok]
    simp[yJ8,hb]
  ·rintro fr st _ ⟨hok,f1,f2,f5,rfl,rfl⟩
   rw[lTl] at hok
   simp(config:=zzC)only[go_sem,f1,f2,f5,hxs.len,yQm (nLi _),fits]
   intros
   refine (xJc gl n _).mono ?_
   rintro _ st ⟨rfl,rfl⟩
   cases hn:zW6 n
   ·simp(config:=zzC)only[go_sem]
    exact yQ0 ⟨by simp[Tm.ok,hn],rfl⟩
   ·simp(config:=zzC)only[go_sem,f2,hxs.len,fits]
    intros
    refine yQ0 ⟨?_,rfl⟩
    simp only[Tm.ok,hn,hok,Bool.and_true]
    congr 3
    simp
    omega
 ·simp(config:=zzC)only[go_sem,fits,hxs.len]
  intros
  by_cases h0:us.length=0
  ·obtain rfl:=List.eq_nil_of_length_eq_zero h0
   simp(config:=zzC)only[go_sem,fits,show decide (((0:Nat):Int)=0)=true from rfl]
   refine (yJr gl n _).mono ?_
   rintro _ st ⟨rfl,rfl⟩
   cases hn:yKg n
   ·simp(config:=zzC)only[go_sem]
    exact yQ0 ⟨by simp[Tm.ok,hn],rfl⟩
   ·simp(config:=zzC)only[go_sem]
    exact yQ0 ⟨by simp[Tm.ok,hn],rfl⟩
  ·simp(config:=zzC)only[go_sem,fits,show decide ((us.length:Int)=0)=false from dEf (by omega)]
   exact yQ0 ⟨by cases us with | nil=>exact absurd rfl h0 | cons=>simp[Tm.ok],rfl⟩
theorem xQi:∀ (k:Nat)(t:Tm),SizeOf.sizeOf t<k→RTm gl t
 | 0,f,h=>by omega
 | k+1,.mk v n us,h=>xYq gl v n us (fun a ha=>xQi k a (by
   have:=lSm ha
   simp at h; omega))
theorem wQd (t:Tm):RTm gl t:=xQi gl _ t (Nat.lt_succ_self _)
theorem zK7 (t:Tm)(x:IV)(hx:IsTm t x)(hs:t.size≤1099511627776)(st:ISt):ICall prog gl 67 [x] st (fun r st'=>r=.raw (.bool t.ok)∧st'=st):=by
 have hc:=fun st=>wQd gl t x hx hs st
 obtain⟨v,n,us⟩:=t
 obtain⟨tg,xs,rfl,_⟩:=hx.mk
 refine iI func67 rfl rfl (by kernel_rfl) ?_
 simp(config:=zzC)only[go_sem,fits]
 refine (hc _).mono ?_
 rintro _ st ⟨rfl,rfl⟩
 simp(config:=zzC)only[go_sem]
 exact yQ0 ⟨rfl,rfl⟩
theorem di0 (a:Nat):decide ((a:Int)=0)=decide (a=0):=by by_cases h:a=0<;>simp[h]<;>omega
theorem di1 (a:Nat):decide ((a:Int)=1)=decide (a=1):=by by_cases h:a=1<;>simp[h]<;>omega
theorem di2 (a:Nat):decide ((a:Int)=2)=decide (a=2):=by by_cases h:a=2<;>simp[h]<;>omega
theorem dle4 (a:Nat):decide ((a:Int)≤4)=decide (a≤4):=by by_cases h:a≤4<;>simp[h]<;>omega
theorem wKq {op:Nat}{n:ByteArray}{la ls:Nat}(h:op=0∨16<op):yZ6 op n la ls=false:=by
 unfold yZ6
 split<;>first | rfl | omega
theorem vGv (op:Nat)(n:ByteArray)(us:List Tm)(sub:List Fm)(x:IV)(hx:IsFm (.mk op n us sub) x)(st:ISt) :
  ICall prog gl 213 [x,.raw (.bool false)] st (fun r st'=>r=.raw (.bool (yZ6 op n us.length sub.length))∧st'=st):=by
 obtain⟨ta,xa,tb,xb,rfl,ho,hta,hxa,htb,hxb⟩:=hx.mk
 refine iI func213 rfl rfl (by kernel_rfl) ?_
 simp(config:=zzC)only[go_sem,fits,hxa.len,hxb.len]
 intros
 rcases (show op=1∨op=2∨op=3∨op=4∨op=5∨op=6∨op=7∨op=8∨op=9∨op=10∨op=11∨op=12∨op=13∨op=14∨op=15∨op=16∨(op=0∨16<op) by omega) with h | h | h | h | h | h | h | h | h | h | h | h | h | h | h | h | h
 ·simp(config:=zzC)only[go_sem,show decide ((op:Int)=1)=true from dEt (by omega),fits,hxa.len,hxb.len]
  refine (xQq gl n _).mono ?_
  rintro _ st ⟨rfl,rfl⟩
  cases h1:zKb n
  ·simp(config:=zzC)only[go_sem,show decide ((op:Int)=1)=true from dEt (by omega),fits,hxa.len,hxb.len]
   exact yQ0 ⟨by subst h; simp[yZ6,h1],rfl⟩
  ·cases h2:decide (us.length≤4)
   ·simp(config:=zzC)only[go_sem,fits,hxa.len,hxb.len,dle4,h2]
    exact yQ0 ⟨by subst h; simp only[yZ6,h1,h2,Bool.and_false,Bool.false_and,Bool.true_and,Bool.and_true],rfl⟩
   ·simp(config:=zzC)only[go_sem,fits,hxa.len,hxb.len,dle4,h2,di0]
    exact yQ0 ⟨by subst h; simp only[yZ6,h1,h2,Bool.and_false,Bool.false_and,Bool.true_and,Bool.and_true],rfl⟩
 ·cases h1:decide (n=⟨#[]⟩)
  ·simp(config:=zzC)only[go_sem,show decide ((op:Int)=1)=false from dEf (by omega),show decide ((op:Int)=2)=true from dEt (by omega),fits,hxa.len,hxb.len,h1]
   exact yQ0 ⟨by subst h; simp[yZ6,h1],rfl⟩
  ·cases h2:decide (us.length=0)
   ·simp(config:=zzC)only[go_sem,show decide ((op:Int)=1)=false from dEf (by omega),show decide ((op:Int)=2)=true from dEt (by omega),fits,hxa.len,hxb.len,h1,di0,h2]
    exact yQ0 ⟨by subst h; simp only[yZ6,h1,h2,Bool.and_false,Bool.false_and,Bool.true_and,Bool.and_true],rfl⟩
   ·simp(config:=zzC)only[go_sem,show decide ((op:Int)=1)=false from dEf (by omega),show decide ((op:Int)=2)=true from dEt (by omega),fits,hxa.len,hxb.len,h1,di0,h2,di0]
    exact yQ0 ⟨by subst h; simp only[yZ6,h1,h2,Bool.and_false,Bool.false_and,Bool.true_and,Bool.and_true],rfl⟩
 ·cases h1:decide (n=⟨#[]⟩)
  ·simp(config:=zzC)only[go_sem,show decide ((op:Int)=1)=false from dEf (by omega),show decide ((op:Int)=2)=false from dEf (by omega),show decide ((op:Int)=3)=true from dEt (by omega),fits,hxa.len,hxb.len,h1]
   exact yQ0 ⟨by subst h; simp[yZ6,h1],rfl⟩
  ·cases h2:decide (us.length=0)
   ·simp(config:=zzC)only[go_sem,show decide ((op:Int)=1)=false from dEf (by omega),show decide ((op:Int)=2)=false from dEf (by omega),show decide ((op:Int)=3)=true from dEt (by omega),fits,hxa.len,hxb.len,h1,di0,h2]
    exact yQ0 ⟨by subst h; simp only[yZ6,h1,h2,Bool.and_false,Bool.false_and,Bool.true_and,Bool.and_true],rfl⟩
   ·simp(config:=zzC)only[go_sem,show decide ((op:Int)=1)=false from dEf (by omega),show decide ((op:Int)=2)=false from dEf (by omega),show decide ((op:Int)=3)=true from dEt (by omega),fits,hxa.len,hxb.len,h1,di0,h2,di1]
    exact yQ0 ⟨by subst h; simp only[yZ6,h1,h2,Bool.and_false,Bool.false_and,Bool.true_and,Bool.and_true],rfl⟩
 ·cases h1:decide (n=⟨#[]⟩)
  ·simp(config:=zzC)only[go_sem,show decide ((op:Int)=1)=false from dEf (by omega),show decide ((op:Int)=2)=false from dEf (by omega),show decide ((op:Int)=3)=false from dEf (by omega),show decide ((op:Int)=10)=false from dEf (by omega),show decide ((op:Int)=11)=false from dEf (by omega),show decide ((op:Int)=12)=false from dEf (by omega),show decide ((op:Int)=13)=false from dEf (by omega),show decide ((op:Int)=4)=true from dEt (by omega),fits,hxa.len,hxb.len,h1]
   exact yQ0 ⟨by subst h; simp[yZ6,h1],rfl⟩
  ·cases h2:decide (us.length=0)
   ·simp(config:=zzC)only[go_sem,show decide ((op:Int)=1)=false from dEf (by omega),show decide ((op:Int)=2)=false from dEf (by omega),show decide ((op:Int)=3)=false from dEf (by omega),show decide ((op:Int)=10)=false from dEf (by omega),show decide ((op:Int)=11)=false from dEf (by omega),show decide ((op:Int)=12)=false from dEf (by omega),show decide ((op:Int)=13)=false from dEf (by omega),show decide ((op:Int)=4)=true from dEt (by omega),fits,hxa.len,hxb.len,h1,di0,h2]
    exact yQ0 ⟨by subst h; simp only[yZ6,h1,h2,Bool.and_false,Bool.false_and,Bool.true_and,Bool.and_true],rfl⟩
   ·simp(config:=zzC)only[go_sem,show decide ((op:Int)=1)=false from dEf (by omega),show decide ((op:Int)=2)=false from dEf (by omega),show decide ((op:Int)=3)=false from dEf (by omega),show decide ((op:Int)=10)=false from dEf (by omega),show decide ((op:Int)=11)=false from dEf (by omega),show decide ((op:Int)=12)=false from dEf (by omega),show decide ((op:Int)=13)=false from dEf (by omega),show decide ((op:Int)=4)=true from dEt (by omega),fits,hxa.len,hxb.len,h1,di0,h2,di2]
    exact yQ0 ⟨by subst h; simp only[yZ6,h1,h2,Bool.and_false,Bool.false_and,Bool.true_and,Bool.and_true],rfl⟩
 ·cases h1:decide (n=⟨#[]⟩)
  ·simp(config:=zzC)only[go_sem,show decide ((op:Int)=1)=false from dEf (by omega),show decide ((op:Int)=2)=false from dEf (by omega),show decide ((op:Int)=3)=false from dEf (by omega),show decide ((op:Int)=10)=false from dEf (by omega),show decide ((op:Int)=11)=false from dEf (by omega),show decide ((op:Int)=12)=false from dEf (by omega),show decide ((op:Int)=13)=false from dEf (by omega),show decide ((op:Int)=4)=false from dEf (by omega),show decide ((op:Int)=5)=true from dEt (by omega),fits,hxa.len,hxb.len,h1]
   exact yQ0 ⟨by subst h; simp[yZ6,h1],rfl⟩
  ·cases h2:decide (us.length=0)
   ·simp(config:=zzC)only[go_sem,show decide ((op:Int)=1)=false from dEf (by omega),show decide ((op:Int)=2)=false from dEf (by omega),show decide ((op:Int)=3)=false from dEf (by omega),show decide ((op:Int)=10)=false from dEf (by omega),show decide ((op:Int)=11)=false from dEf (by omega),show decide ((op:Int)=12)=false from dEf (by omega),show decide ((op:Int)=13)=false from dEf (by omega),show decide ((op:Int)=4)=false from dEf (by omega),show decide ((op:Int)=5)=true from dEt (by omega),fits,hxa.len,hxb.len,h1,di0,h2]
    exact yQ0 ⟨by subst h; simp only[yZ6,h1,h2,Bool.and_false,Bool.false_and,Bool.true_and,Bool.and_true],rfl⟩
   ·simp(config:=zzC)only[go_sem,show decide ((op:Int)=1)=false from dEf (by omega),show decide ((op:Int)=2)=false from dEf (by omega),show decide ((op:Int)=3)=false from dEf (by omega),show decide ((op:Int)=10)=false from dEf (by omega),show decide ((op:Int)=11)=false from dEf (by omega),show decide ((op:Int)=12)=false from dEf (by omega),show decide ((op:Int)=13)=false from dEf (by omega),show decide ((op:Int)=4)=false from dEf (by omega),show decide ((op:Int)=5)=true from dEt (by omega),fits,hxa.len,hxb.len,h1,di0,h2,di2]
    exact yQ0 ⟨by subst h; simp only[yZ6,h1,h2,Bool.and_false,Bool.false_and,Bool.true_and,Bool.and_true],rfl⟩
 ·cases h1:decide (n=⟨#[]⟩)
  ·simp(config:=zzC)only[go_sem,show decide ((op:Int)=1)=false from dEf (by omega),show decide ((op:Int)=2)=false from dEf (by omega),show decide ((op:Int)=3)=false from dEf (by omega),show decide ((op:Int)=10)=false from dEf (by omega),show decide ((op:Int)=11)=false from dEf (by omega),show decide ((op:Int)=12)=false from dEf (by omega),show decide ((op:Int)=13)=false from dEf (by omega),show decide ((op:Int)=4)=false from dEf (by omega),show decide ((op:Int)=5)=false from dEf (by omega),show decide ((op:Int)=6)=true from dEt (by omega),fits,hxa.len,hxb.len,h1]
   exact yQ0 ⟨by subst h; simp[yZ6,h1],rfl⟩
  ·cases h2:decide (us.length=0)
   ·simp(config:=zzC)only[go_sem,show decide ((op:Int)=1)=false from dEf (by omega),show decide ((op:Int)=2)=false from dEf (by omega),show decide ((op:Int)=3)=false from dEf (by omega),show decide ((op:Int)=10)=false from dEf (by omega),show decide ((op:Int)=11)=false from dEf (by omega),show decide ((op:Int)=12)=false from dEf (by omega),show decide ((op:Int)=13)=false from dEf (by omega),show decide ((op:Int)=4)=false from dEf (by omega),show decide ((op:Int)=5)=false from dEf (by omega),show decide ((op:Int)=6)=true from dEt (by omega),fits,hxa.len,hxb.len,h1,di0,h2]
    exact yQ0 ⟨by subst h; simp only[yZ6,h1,h2,Bool.and_false,Bool.false_and,Bool.true_and,Bool.and_true],rfl⟩
   ·simp(config:=zzC)only[go_sem,show decide ((op:Int)=1)=false from dEf (by omega),show decide ((op:Int)=2)=false from dEf (by omega),show decide ((op:Int)=3)=false from dEf (by omega),show decide ((op:Int)=10)=false from dEf (by omega),show decide ((op:Int)=11)=false from dEf (by omega),show decide ((op:Int)=12)=false from dEf (by omega),show decide ((op:Int)=13)=false from dEf (by omega),show decide ((op:Int)=4)=false from dEf (by omega),show decide ((op:Int)=5)=false from dEf (by omega),show decide ((op:Int)=6)=true from dEt (by omega),fits,hxa.len,hxb.len,h1,di0,h2,di2]
    exact yQ0 ⟨by subst h; simp only[yZ6,h1,h2,Bool.and_false,Bool.false_and,Bool.true_and,Bool.and_true],rfl⟩
 ·cases h1:decide (n=⟨#[]⟩)
  ·simp(config:=zzC)only[go_sem,show decide ((op:Int)=1)=false from dEf (by omega),show decide ((op:Int)=2)=false from dEf (by omega),show decide ((op:Int)=3)=false from dEf (by omega),show decide ((op:Int)=10)=false from dEf (by omega),show decide ((op:Int)=11)=false from dEf (by omega),show decide ((op:Int)=12)=false from dEf (by omega),show decide ((op:Int)=13)=false from dEf (by omega),show decide ((op:Int)=4)=false from dEf (by omega),show decide ((op:Int)=5)=false from dEf (by omega),show decide ((op:Int)=6)=false from dEf (by omega),show decide ((op:Int)=7)=true from dEt (by omega),fits,hxa.len,hxb.len,h1]
   exact yQ0 ⟨by subst h; simp[yZ6,h1],rfl⟩
  ·cases h2:decide (us.length=0)
   ·simp(config:=zzC)only[go_sem,show decide ((op:Int)=1)=false from dEf (by omega),show decide ((op:Int)=2)=false from dEf (by omega),show decide ((op:Int)=3)=false from dEf (by omega),show decide ((op:Int)=10)=false from dEf (by omega),show decide ((op:Int)=11)=false from dEf (by omega),show decide ((op:Int)=12)=false from dEf (by omega),show decide ((op:Int)=13)=false from dEf (by omega),show decide ((op:Int)=4)=false from dEf (by omega),show decide ((op:Int)=5)=false from dEf (by omega),show decide ((op:Int)=6)=false from dEf (by omega),show decide ((op:Int)=7)=true from dEt (by omega),fits,hxa.len,hxb.len,h1,di0,h2]
    exact yQ0 ⟨by subst h; simp only[yZ6,h1,h2,Bool.and_false,Bool.false_and,Bool.true_and,Bool.and_true],rfl⟩
   ·simp(config:=zzC)only[go_sem,show decide ((op:Int)=1)=false from dEf (by omega),show decide ((op:Int)=2)=false from dEf (by omega),show decide ((op:Int)=3)=false from dEf (by omega),show decide ((op:Int)=10)=false from dEf (by omega),show decide ((op:Int)=11)=false from dEf (by omega),show decide ((op:Int)=12)=false from dEf (by omega),show decide ((op:Int)=13)=false from dEf (by omega),show decide ((op:Int)=4)=false from dEf (by omega),show decide ((op:Int)=5)=false from dEf (by omega),show decide ((op:Int)=6)=false from dEf (by omega),show decide ((op:Int)=7)=true from dEt (by omega),fits,hxa.len,hxb.len,h1,di0,h2,di2]
    exact yQ0 ⟨by subst h; simp only[yZ6,h1,h2,Bool.and_false,Bool.false_and,Bool.true_and,Bool.and_true],rfl⟩
 ·simp(config:=zzC)only[go_sem,show decide ((op:Int)=1)=false from dEf (by omega),show decide ((op:Int)=2)=false from dEf (by omega),show decide ((op:Int)=3)=false from dEf (by omega),show decide ((op:Int)=10)=false from dEf (by omega),show decide ((op:Int)=11)=false from dEf (by omega),show decide ((op:Int)=12)=false from dEf (by omega),show decide ((op:Int)=13)=false from dEf (by omega),show decide ((op:Int)=4)=false from dEf (by omega),show decide ((op:Int)=5)=false from dEf (by omega),show decide ((op:Int)=6)=false from dEf (by omega),show decide ((op:Int)=7)=false from dEf (by omega),show decide ((op:Int)=14)=false from dEf (by omega),show decide ((op:Int)=8)=true from dEt (by omega),fits,hxa.len,hxb.len]
  refine (yJr gl n _).mono ?_
  rintro _ st ⟨rfl,rfl⟩
  cases h1:yKg n
  ·simp(config:=zzC)only[go_sem,show decide ((op:Int)=1)=false from dEf (by omega),show decide ((op:Int)=2)=false from dEf (by omega),show decide ((op:Int)=3)=false from dEf (by omega),show decide ((op:Int)=10)=false from dEf (by omega),show decide ((op:Int)=11)=false from dEf (by omega),show decide ((op:Int)=12)=false from dEf (by omega),show decide ((op:Int)=13)=false from dEf (by omega),show decide ((op:Int)=4)=false from dEf (by omega),show decide ((op:Int)=5)=false from dEf (by omega),show decide ((op:Int)=6)=false from dEf (by omega),show decide ((op:Int)=7)=false from dEf (by omega),show decide ((op:Int)=14)=false from dEf (by omega),show decide ((op:Int)=8)=true from dEt (by omega),fits,hxa.len,hxb.len]
   exact yQ0 ⟨by subst h; simp[yZ6,h1],rfl⟩
  ·cases h2:decide (us.length=0)
   ·simp(config:=zzC)only[go_sem,fits,hxa.len,hxb.len,di0,h2]
    exact yQ0 ⟨by subst h; simp only[yZ6,h1,h2,Bool.and_false,Bool.false_and,Bool.true_and,Bool.and_true],rfl⟩
   ·simp(config:=zzC)only[go_sem,fits,hxa.len,hxb.len,di0,h2,di1]
    exact yQ0 ⟨by subst h; simp only[yZ6,h1,h2,Bool.and_false,Bool.false_and,Bool.true_and,Bool.and_true],rfl⟩
 ·simp(config:=zzC)only[go_sem,show decide ((op:Int)=1)=false from dEf (by omega),show decide ((op:Int)=2)=false from dEf (by omega),show decide ((op:Int)=3)=false from dEf (by omega),show decide ((op:Int)=10)=false from dEf (by omega),show decide ((op:Int)=11)=false from dEf (by omega),show decide ((op:Int)=12)=false from dEf (by omega),show decide ((op:Int)=13)=false from dEf (by omega),show decide ((op:Int)=4)=false from dEf (by omega),show decide ((op:Int)=5)=false from dEf (by omega),show decide ((op:Int)=6)=false from dEf (by omega),show decide ((op:Int)=7)=false from dEf (by omega),show decide ((op:Int)=14)=false from dEf (by omega),show decide ((op:Int)=8)=false from dEf (by omega),show decide ((op:Int)=9)=true from dEt (by omega),fits,hxa.len,hxb.len]
  refine (yJr gl n _).mono ?_
  rintro _ st ⟨rfl,rfl⟩
  cases h1:yKg n
  ·simp(config:=zzC)only[go_sem,show decide ((op:Int)=1)=false from dEf (by omega),show decide ((op:Int)=2)=false from dEf (by omega),show decide ((op:Int)=3)=false from dEf (by omega),show decide ((op:Int)=10)=false from dEf (by omega),show decide ((op:Int)=11)=false from dEf (by omega),show decide ((op:Int)=12)=false from dEf (by omega),show decide ((op:Int)=13)=false from dEf (by omega),show decide ((op:Int)=4)=false from dEf (by omega),show decide ((op:Int)=5)=false from dEf (by omega),show decide ((op:Int)=6)=false from dEf (by omega),show decide ((op:Int)=7)=false from dEf (by omega),show decide ((op:Int)=14)=false from dEf (by omega),show decide ((op:Int)=8)=false from dEf (by omega),show decide ((op:Int)=9)=true from dEt (by omega),fits,hxa.len,hxb.len]
   exact yQ0 ⟨by subst h; simp[yZ6,h1],rfl⟩
  ·cases h2:decide (us.length=0)
   ·simp(config:=zzC)only[go_sem,fits,hxa.len,hxb.len,di0,h2]
    exact yQ0 ⟨by subst h; simp only[yZ6,h1,h2,Bool.and_false,Bool.false_and,Bool.true_and,Bool.and_true],rfl⟩
   ·simp(config:=zzC)only[go_sem,fits,hxa.len,hxb.len,di0,h2,di1]
    exact yQ0 ⟨by subst h; simp only[yZ6,h1,h2,Bool.and_false,Bool.false_and,Bool.true_and,Bool.and_true],rfl⟩
 ·cases h1:decide (n=⟨#[]⟩)
  ·simp(config:=zzC)only[go_sem,show decide ((op:Int)=1)=false from dEf (by omega),show decide ((op:Int)=2)=false from dEf (by omega),show decide ((op:Int)=3)=false from dEf (by omega),show decide ((op:Int)=10)=true from dEt (by omega),fits,hxa.len,hxb.len,h1]
   exact yQ0 ⟨by subst h; simp[yZ6,h1],rfl⟩
  ·cases h2:decide (us.length=0)
   ·simp(config:=zzC)only[go_sem,show decide ((op:Int)=1)=false from dEf (by omega),show decide ((op:Int)=2)=false from dEf (by omega),show decide ((op:Int)=3)=false from dEf (by omega),show decide ((op:Int)=10)=true from dEt (by omega),fits,hxa.len,hxb.len,h1,di0,h2]
    exact yQ0 ⟨by subst h; simp only[yZ6,h1,h2,Bool.and_false,Bool.false_and,Bool.true_and,Bool.and_true],rfl⟩
   ·simp(config:=zzC)only[go_sem,show decide ((op:Int)=1)=false from dEf (by omega),show decide ((op:Int)=2)=false from dEf (by omega),show decide ((op:Int)=3)=false from dEf (by omega),show decide ((op:Int)=10)=true from dEt (by omega),fits,hxa.len,hxb.len,h1,di0,h2,di1]
    exact yQ0 ⟨by subst h; simp only[yZ6,h1,h2,Bool.and_false,Bool.false_and,Bool.true_and,Bool.and_true],rfl⟩
 ·cases h1:decide (n=⟨#[]⟩)
  ·simp(config:=zzC)only[go_sem,show decide ((op:Int)=1)=false from dEf (by omega),show decide ((op:Int)=2)=false from dEf (by omega),show decide ((op:Int)=3)=false from dEf (by omega),show decide ((op:Int)=10)=false from dEf (by omega),show decide ((op:Int)=11)=true from dEt (by omega),fits,hxa.len,hxb.len,h1]
   exact yQ0 ⟨by subst h; simp[yZ6,h1],rfl⟩
  ·cases h2:decide (us.length=0)
   ·simp(config:=zzC)only[go_sem,show decide ((op:Int)=1)=false from dEf (by omega),show decide ((op:Int)=2)=false from dEf (by omega),show decide ((op:Int)=3)=false from dEf (by omega),show decide ((op:Int)=10)=false from dEf (by omega),show decide ((op:Int)=11)=true from dEt (by omega),fits,hxa.len,hxb.len,h1,di0,h2]
    exact yQ0 ⟨by subst h; simp only[yZ6,h1,h2,Bool.and_false,Bool.false_and,Bool.true_and,Bool.and_true],rfl⟩
   ·simp(config:=zzC)only[go_sem,show decide ((op:Int)=1)=false from dEf (by omega),show decide ((op:Int)=2)=false from dEf (by omega),show decide ((op:Int)=3)=false from dEf (by omega),show decide ((op:Int)=10)=false from dEf (by omega),show decide ((op:Int)=11)=true from dEt (by omega),fits,hxa.len,hxb.len,h1,di0,h2,di1]
    exact yQ0 ⟨by subst h; simp only[yZ6,h1,h2,Bool.and_false,Bool.false_and,Bool.true_and,Bool.and_true],rfl⟩
 ·cases h1:decide (n=⟨#[]⟩)
  ·simp(config:=zzC)only[go_sem,show decide ((op:Int)=1)=false from dEf (by omega),show decide ((op:Int)=2)=false from dEf (by omega),show decide ((op:Int)=3)=false from dEf (by omega),show decide ((op:Int)=10)=false from dEf (by omega),show decide ((op:Int)=11)=false from dEf (by omega),show decide ((op:Int)=12)=true from dEt (by omega),fits,hxa.len,hxb.len,h1]
   exact yQ0 ⟨by subst h; simp[yZ6,h1],rfl⟩
  ·cases h2:decide (us.length=0)
   ·simp(config:=zzC)only[go_sem,show decide ((op:Int)=1)=false from dEf (by omega),show decide ((op:Int)=2)=false from dEf (by omega),show decide ((op:Int)=3)=false from dEf (by omega),show decide ((op:Int)=10)=false from dEf (by omega),show decide ((op:Int)=11)=false from dEf (by omega),show decide ((op:Int)=12)=true from dEt (by omega),fits,hxa.len,hxb.len,h1,di0,h2]
    exact yQ0 ⟨by subst h; simp only[yZ6,h1,h2,Bool.and_false,Bool.false_and,Bool.true_and,Bool.and_true],rfl⟩
   ·simp(config:=zzC)only[go_sem,show decide ((op:Int)=1)=false from dEf (by omega),show decide ((op:Int)=2)=false from dEf (by omega),show decide ((op:Int)=3)=false from dEf (by omega),show decide ((op:Int)=10)=false from dEf (by omega),show decide ((op:Int)=11)=false from dEf (by omega),show decide ((op:Int)=12)=true from dEt (by omega),fits,hxa.len,hxb.len,h1,di0,h2,di1]
    exact yQ0 ⟨by subst h; simp only[yZ6,h1,h2,Bool.and_false,Bool.false_and,Bool.true_and,Bool.and_true],rfl⟩
 ·cases h1:decide (n=⟨#[]⟩)
  ·simp(config:=zzC)only[go_sem,show decide ((op:Int)=1)=false from dEf (by omega),show decide ((op:Int)=2)=false from dEf (by omega),show decide ((op:Int)=3)=false from dEf (by omega),show decide ((op:Int)=10)=false from dEf (by omega),show decide ((op:Int)=11)=false from dEf (by omega),show decide ((op:Int)=12)=false from dEf (by omega),show decide ((op:Int)=13)=true from dEt (by omega),fits,hxa.len,hxb.len,h1]
   exact yQ0 ⟨by subst h; simp[yZ6,h1],rfl⟩
  ·cases h2:decide (us.length=0)
   ·simp(config:=zzC)only[go_sem,show decide ((op:Int)=1)=false from dEf (by omega),show decide ((op:Int)=2)=false from dEf (by omega),show decide ((op:Int)=3)=false from dEf (by omega),show decide ((op:Int)=10)=false from dEf (by omega),show decide ((op:Int)=11)=false from dEf (by omega),show decide ((op:Int)=12)=false from dEf (by omega),show decide ((op:Int)=13)=true from dEt (by omega),fits,hxa.len,hxb.len,h1,di0,h2]
    exact yQ0 ⟨by subst h; simp only[yZ6,h1,h2,Bool.and_false,Bool.false_and,Bool.true_and,Bool.and_true],rfl⟩
   ·simp(config:=zzC)only[go_sem,show decide ((op:Int)=1)=false from dEf (by omega),show decide ((op:Int)=2)=false from dEf (by omega),show decide ((op:Int)=3)=false from dEf (by omega),show decide ((op:Int)=10)=false from dEf (by omega),show decide ((op:Int)=11)=false from dEf (by omega),show decide ((op:Int)=12)=false from dEf (by omega),show decide ((op:Int)=13)=true from dEt (by omega),fits,hxa.len,hxb.len,h1,di0,h2,di1]
    exact yQ0 ⟨by subst h; simp only[yZ6,h1,h2,Bool.and_false,Bool.false_and,Bool.true_and,Bool.and_true],rfl⟩
 ·cases h1:decide (n=⟨#[]⟩)
  ·simp(config:=zzC)only[go_sem,show decide ((op:Int)=1)=false from dEf (by omega),show decide ((op:Int)=2)=false from dEf (by omega),show decide ((op:Int)=3)=false from dEf (by omega),show decide ((op:Int)=10)=false from dEf (by omega),show decide ((op:Int)=11)=false from dEf (by omega),show decide ((op:Int)=12)=false from dEf (by omega),show decide ((op:Int)=13)=false from dEf (by omega),show decide ((op:Int)=4)=false from dEf (by omega),show decide ((op:Int)=5)=false from dEf (by omega),show decide ((op:Int)=6)=false from dEf (by omega),show decide ((op:Int)=7)=false from dEf (by omega),show decide ((op:Int)=14)=true from dEt (by omega),fits,hxa.len,hxb.len,h1]
   exact yQ0 ⟨by subst h; simp[yZ6,h1],rfl⟩
  ·cases h2:decide (us.length=0)
   ·simp(config:=zzC)only[go_sem,show decide ((op:Int)=1)=false from dEf (by omega),show decide ((op:Int)=2)=false from dEf (by omega),show decide ((op:Int)=3)=false from dEf (by omega),show decide ((op:Int)=10)=false from dEf (by omega),show decide ((op:Int)=11)=false from dEf (by omega),show decide ((op:Int)=12)=false from dEf (by omega),show decide ((op:Int)=13)=false from dEf (by omega),show decide ((op:Int)=4)=false from dEf (by omega),show decide ((op:Int)=5)=false from dEf (by omega),show decide ((op:Int)=6)=false from dEf (by omega),show decide ((op:Int)=7)=false from dEf (by omega),show decide ((op:Int)=14)=true from dEt (by omega),fits,hxa.len,hxb.len,h1,di0,h2]
    exact yQ0 ⟨by subst h; simp only[yZ6,h1,h2,Bool.and_false,Bool.false_and,Bool.true_and,Bool.and_true],rfl⟩
   ·simp(config:=zzC)only[go_sem,show decide ((op:Int)=1)=false from dEf (by omega),show decide ((op:Int)=2)=false from dEf (by omega),show decide ((op:Int)=3)=false from dEf (by omega),show decide ((op:Int)=10)=false from dEf (by omega),show decide ((op:Int)=11)=false from dEf (by omega),show decide ((op:Int)=12)=false from dEf (by omega),show decide ((op:Int)=13)=false from dEf (by omega),show decide ((op:Int)=4)=false from dEf (by omega),show decide ((op:Int)=5)=false from dEf (by omega),show decide ((op:Int)=6)=false from dEf (by omega),show decide ((op:Int)=7)=false from dEf (by omega),show decide ((op:Int)=14)=true from dEt (by omega),fits,hxa.len,hxb.len,h1,di0,h2,di2]
    exact yQ0 ⟨by subst h; simp only[yZ6,h1,h2,Bool.and_false,Bool.false_and,Bool.true_and,Bool.and_true],rfl⟩
 ·simp(config:=zzC)only[go_sem,show decide ((op:Int)=1)=false from dEf (by omega),show decide ((op:Int)=2)=false from dEf (by omega),show decide ((op:Int)=3)=false from dEf (by omega),show decide ((op:Int)=10)=false from dEf (by omega),show decide ((op:Int)=11)=false from dEf (by omega),show decide ((op:Int)=12)=false from dEf (by omega),show decide ((op:Int)=13)=false from dEf (by omega),show decide ((op:Int)=4)=false from dEf (by omega),show decide ((op:Int)=5)=false from dEf (by omega),show decide ((op:Int)=6)=false from dEf (by omega),show decide ((op:Int)=7)=false from dEf (by omega),show decide ((op:Int)=14)=false from dEf (by omega),show decide ((op:Int)=8)=false from dEf (by omega),show decide ((op:Int)=9)=false from dEf (by omega),show decide ((op:Int)=15)=true from dEt (by omega),fits,hxa.len,hxb.len]
  exact yQ0 ⟨by rw[h]; rfl,rfl⟩
 ·simp(config:=zzC)only[go_sem,show decide ((op:Int)=1)=false from dEf (by omega),show decide ((op:Int)=2)=false from dEf (by omega),show decide ((op:Int)=3)=false from dEf (by omega),show decide ((op:Int)=10)=false from dEf (by omega),show decide ((op:Int)=11)=false from dEf (by omega),show decide ((op:Int)=12)=false from dEf (by omega),show decide ((op:Int)=13)=false from dEf (by omega),show decide ((op:Int)=4)=false from dEf (by omega),show decide ((op:Int)=5)=false from dEf (by omega),show decide ((op:Int)=6)=false from dEf (by omega),show decide ((op:Int)=7)=false from dEf (by omega),show decide ((op:Int)=14)=false from dEf (by omega),show decide ((op:Int)=8)=false from dEf (by omega),show decide ((op:Int)=9)=false from dEf (by omega),show decide ((op:Int)=15)=false from dEf (by omega),show decide ((op:Int)=16)=true from dEt (by omega),fits,hxa.len,hxb.len]
  exact yQ0 ⟨by rw[h]; rfl,rfl⟩
 ·simp(config:=zzC)only[go_sem,show decide ((op:Int)=1)=false from dEf (by omega),show decide ((op:Int)=2)=false from dEf (by omega),show decide ((op:Int)=3)=false from dEf (by omega),show decide ((op:Int)=10)=false from dEf (by omega),show decide ((op:Int)=11)=false from dEf (by omega),show decide ((op:Int)=12)=false from dEf (by omega),show decide ((op:Int)=13)=false from dEf (by omega),show decide ((op:Int)=4)=false from dEf (by omega),show decide ((op:Int)=5)=false from dEf (by omega),show decide ((op:Int)=6)=false from dEf (by omega),show decide ((op:Int)=7)=false from dEf (by omega),show decide ((op:Int)=14)=false from dEf (by omega),show decide ((op:Int)=8)=false from dEf (by omega),show decide ((op:Int)=9)=false from dEf (by omega),show decide ((op:Int)=15)=false from dEf (by omega),show decide ((op:Int)=16)=false from dEf (by omega),fits,hxa.len,hxb.len]
  exact yQ0 ⟨by rw[wKq h],rfl⟩
def RSz (us:List Tm):Prop:=∀ (tg:Tag) (xs:List IV) (_:okEs tg 3) (_:IsTms us xs) (_:yQ8 us≤1099511627776) (st:ISt),
 ICall prog gl 214 [.sl tg xs] st (fun r st'=>r=.raw (.int .i64 (yQ8 us))∧st'=st)
theorem yUo:∀ (l m:List Tm),yQ8 (l++m)=yQ8 l+yQ8 m
 | [],m=>by simp[yQ8]
 | a::l,m=>by simp only[List.cons_append,yQ8,yUo l m]; omega
theorem zV4:∀ (l m:List Tm),yQk (l++m)=max (yQk l) (yQk m)
 | [],m=>by simp[yQk]
 | a::l,m=>by simp only[List.cons_append,yQk,zV4 l m]; omega
theorem yUp:∀ (l m:List Fm),yQ7 (l++m)=yQ7 l+yQ7 m
 | [],m=>by simp[yQ7]
 | a::l,m=>by simp only[List.cons_append,yQ7,yUp l m]; omega
theorem zV5:∀ (l m:List Fm),yQt (l++m)=max (yQt l) (yQt m)
 | [],m=>by simp[yQt]
 | a::l,m=>by simp only[List.cons_append,yQt,zV5 l m]; omega
theorem xZ1:∀ (l m:List Fm),yKw (l++m)=(yKw l&&yKw m)
 | [],m=>by simp[yKw]
 | a::l,m=>by simp only[List.cons_append,yKw,xZ1 l m,Bool.and_assoc]
theorem zQe {us:List Tm}{k:Nat}{a:Tm}(h:us[k]?=some a):yQ8 (us.take (k+1))=yQ8 (us.take k)+a.size∧yQ8 (us.take k)+a.size≤yQ8 us:=by
 have h1:yQ8 (us.take (k+1))=yQ8 (us.take k)+a.size:=by rw[yQ4 h,yUo]; simp[yQ8]
 refine⟨h1,?_⟩
 have h2:yQ8 us=yQ8 (us.take (k+1))+yQ8 (us.drop (k+1)):=by rw[← yUo,List.take_append_drop]
 omega
theorem yX8 {us:List Fm}{k:Nat}{a:Fm}(h:us[k]?=some a):yQ7 (us.take (k+1))=yQ7 (us.take k)+a.size∧yQ7 (us.take k)+a.size≤yQ7 us:=by
 have h1:yQ7 (us.take (k+1))=yQ7 (us.take k)+a.size:=by rw[yQ4 h,yUp]; simp[yQ7]
 refine⟨h1,?_⟩
 have h2:yQ7 us=yQ7 (us.take (k+1))+yQ7 (us.drop (k+1)):=by rw[← yUp,List.take_append_drop]
 omega
theorem yVc:∀ l:List Fm,l.length≤yQ7 l
 | []=>Nat.le_refl _
 | a::l=>by have:=yVc l; have:=a.size_pos; simp only[List.length_cons,yQ7]; omega
mutual
theorem xX0:∀ t:Tm,t.deep≤t.size
 | .mk _ _ l=>by have:=yXy l; simp only[Tm.deep,Tm.size]; omega
theorem yXy:∀ l:List Tm,yQk l≤yQ8 l
 | []=>Nat.le_refl _
 | a::l=>by have:=xX0 a; have:=yXy l; simp only[yQk,yQ8]; omega
end
mutual
theorem zUf:∀ t:Fm,t.deep≤t.size
 | .mk _ _ l s=>by have:=yXy l; have:=yVr s; simp only[Fm.deep,Fm.size]; omega
theorem yVr:∀ l:List Fm,yQt l≤yQ7 l
 | []=>Nat.le_refl _
 | a::l=>by have:=zUf a; have:=yVr l; simp only[yQt,yQ7]; omega
end
theorem vGf {a b:Nat}(h:a+b≤281474976710656):IntKind.i64.wrap ((a:Int)+(b:Int))=((a+b:Nat):Int):=by rw[w64]<;>omega
theorem vZv {a b:Nat}(h:a+1+b≤281474976710656):IntKind.i64.wrap (IntKind.i64.wrap ((a:Int)+1)+(b:Int))=((a+(b+1):Nat):Int):=by rw[w64,w64]<;>(try rw[w64])<;>omega
theorem xYr (us:List Tm)(IH:∀ v n l,Tm.mk v n l∈us→RSz gl l):RSz gl us:=by
 intro tg xs htg hxs hsz st
 have hlsz:=yZs us
 refine iI func214 rfl rfl (by kernel_rfl) ?_
 simp(config:=zzC)only[go_sem]
 refine LoopC.ctr us.length (fun k fr st' ds=>fr 0=.iv (.sl tg xs)∧fr 3=.iv (.raw (.int .i64 (yQ8 (us.take k))))∧fr 4=.iv (.raw (.int .i64 k))∧st'=st∧ds=[]) ?_ ?_ ?_
 ·simp(config:=zzC)only[go_sem]
  first | rfl | exact⟨rfl,rfl⟩
 ·rintro k fr st _ hlt ⟨f0,f3,f4,rfl,rfl⟩
  obtain⟨⟨v,n,m⟩,ha⟩:=yQ3 hlt
  obtain⟨y,hky,hy⟩:=hxs.get ha
  have hmem:=lMg ha
  obtain⟨h1,h2⟩:=zQe ha
  obtain⟨t3,x3,rfl,ht3,hx3⟩:=hy.mk
  simp only[Tm.size] at h1 h2
  simp(config:=zzC)only[go_sem,f0,f3,f4,hxs.len,lt_i hlt,yQ2 htg,iNn,hky,fits]
  intros
  refine (IH v n m hmem t3 x3 ht3 hx3 (by omega) _).mono ?_
  rintro _ st ⟨rfl,rfl⟩
  simp(config:=zzC)only[go_sem,f0,f3,f4,yQa hlt (show us.length≤281474976710656 by omega),vZv (show yQ8 (us.take k)+1+yQ8 m≤281474976710656 by omega),h1]
 ·rintro fr st _ ⟨f0,f3,f4,rfl,rfl⟩
  rw[lTl] at f3
  simp(config:=zzC)only[go_sem,f0,f3,f4,hxs.len,yQm (nLi _),fits]
  intros
  exact yQ0 ⟨rfl,rfl⟩
theorem xQj:∀ (k:Nat)(us:List Tm),SizeOf.sizeOf us<k→RSz gl us
 | 0,f,h=>by omega
 | k+1,us,h=>xYr gl us (fun v n l hm=>xQj k l (by
   have:=lSm hm
   simp at this; omega))
theorem wGs (us:List Tm):RSz gl us:=xQj gl _ us (Nat.lt_succ_self _)
def RDp (us:List Tm):Prop:=∀ (tg:Tag) (xs:List IV) (_:okEs tg 3) (_:IsTms us xs) (_:yQ8 us≤1099511627776) (st:ISt),
 ICall prog gl 215 [.sl tg xs] st (fun r st'=>r=.raw (.int .i64 (yQk us))∧st'=st)
theorem xYw (us:List Tm)(IH:∀ v n l,Tm.mk v n l∈us→RDp gl l):RDp gl us:=by
 intro tg xs htg hxs hsz st
 have hlsz:=yZs us
 refine iI func215 rfl rfl (by kernel_rfl) ?_
 simp(config:=zzC)only[go_sem]
 refine LoopC.ctr us.length (fun k fr st' ds=>fr 0=.iv (.sl tg xs)∧fr 3=.iv (.raw (.int .i64 (yQk (us.take k))))∧fr 4=.iv (.raw (.int .i64 k))∧st'=st∧ds=[]) ?_ ?_ ?_
 ·simp(config:=zzC)only[go_sem]
  first | rfl | exact⟨rfl,rfl⟩
 ·rintro k fr st _ hlt ⟨f0,f3,f4,rfl,rfl⟩
  obtain⟨⟨v,n,m⟩,ha⟩:=yQ3 hlt
  obtain⟨y,hky,hy⟩:=hxs.get ha
  have hmem:=lMg ha
  have h1:yQk (us.take (k+1))=max (yQk (us.take k)) (yQk m+1):=by rw[yQ4 ha,zV4]; simp[yQk,Tm.deep]
  have h2:=(zQe ha).2
  have h3:=yXy m
  have h4:=yXy (us.take k)
  obtain⟨t3,x3,rfl,ht3,hx3⟩:=hy.mk
  simp only[Tm.size] at h2
  simp(config:=zzC)only[go_sem,f0,f3,f4,hxs.len,lt_i hlt,yQ2 htg,iNn,hky,fits]
  intros
  refine (IH v n m hmem t3 x3 ht3 hx3 (by omega) _).mono ?_
  rintro _ st ⟨rfl,rfl⟩
  have hw:IntKind.i64.wrap ((yQk m:Int)+1)=((yQk m+1:Nat):Int):=by rw[w64]<;>omega
  by_cases hg:yQk (us.take k)<yQk m+1
  ·simp(config:=zzC)only[go_sem,f0,f3,f4,hw,lt_i hg,yQa hlt (show us.length≤281474976710656 by omega)]
   rw[h1,Nat.max_eq_right (by omega)]
  ·simp(config:=zzC)only[go_sem,f0,f3,f4,hw,yQm hg,yQa hlt (show us.length≤281474976710656 by omega)]
   rw[h1,Nat.max_eq_left (by omega)]
 ·rintro fr st _ ⟨f0,f3,f4,rfl,rfl⟩
  rw[lTl] at f3
  simp(config:=zzC)only[go_sem,f0,f3,f4,hxs.len,yQm (nLi _),fits]
  intros
  exact yQ0 ⟨rfl,rfl⟩
theorem xQo:∀ (k:Nat)(us:List Tm),SizeOf.sizeOf us<k→RDp gl us
 | 0,f,h=>by omega
 | k+1,us,h=>xYw gl us (fun v n l hm=>xQo k l (by
   have:=lSm hm
   simp at this; omega))
theorem wGy (us:List Tm):RDp gl us:=xQo gl _ us (Nat.lt_succ_self _)
def RNd (f:Fm):Prop:=∀ (x:IV) (_:IsFm f x) (_:f.size≤1099511627776) (st:ISt),ICall prog gl 158 [x] st (fun r st'=>r=.raw (.int .i64 f.size)∧st'=st)
theorem xJa (op:Nat)(n:ByteArray)(us:List Tm)(sub:List Fm)(IH:∀ a∈sub,RNd gl a):RNd gl (.mk op n us sub):=by
 intro x hx hsz st
 obtain⟨ta,xa,tb,xb,rfl,ho,hta,hxa,htb,hxb⟩:=hx.mk
 simp only[Fm.size] at hsz
 have hl1:=yZs us
 have hl2:=yVc sub
 refine iI func158 rfl rfl (by kernel_rfl) ?_
 simp(config:=zzC)only[go_sem,fits]
 refine (wGs gl us ta xa hta hxa (by omega) _).mono ?_
 rintro _ st ⟨rfl,rfl⟩
 have hw1:IntKind.i64.wrap (1+(yQ8 us:Int))=((yQ8 us+1:Nat):Int):=by rw[w64]<;>omega
 simp(config:=zzC)only[go_sem,fits,hw1]
 refine LoopC.ctr sub.length (fun k fr st' ds=>fr 1=.box [.raw (.int .u8 op),.raw (.string n),.sl ta xa,.sl tb xb]∧fr 3=.iv (.raw (.int .i64 ((yQ8 us+1+yQ7 (sub.take k):Nat):Int)))∧fr 4=.iv (.raw (.int .i64 k))∧st'=st∧ds=[]) ?_ ?_ ?_
 ·simp(config:=zzC)only[go_sem]
  first | rfl | exact⟨rfl,rfl⟩
 ·rintro k fr st _ hlt ⟨f1,f3,f4,rfl,rfl⟩
  obtain⟨a,ha⟩:=yQ3 hlt
  obtain⟨y,hky,hy⟩:=hxb.get ha
  have hmem:=lMg ha
  obtain⟨h1,h2⟩:=yX8 ha
  have hcall:=IH a hmem y hy (by omega)
  obtain⟨o5,n5,us5,sub5⟩:=a
  obtain⟨t3,x3,t4,x4,rfl,_⟩:=hy.mk
  simp(config:=zzC)only[go_sem,f1,f3,f4,hxb.len,lt_i hlt,yQ2 htb,iNn,hky,fits]
  intros
  refine (hcall _).mono ?_
  rintro _ st ⟨rfl,rfl⟩
  simp(config:=zzC)only[go_sem,f1,f3,f4,yQa hlt (show sub.length≤281474976710656 by omega),vGf (show (yQ8 us+1+yQ7 (sub.take k))+(Fm.mk o5 n5 us5 sub5).size≤281474976710656 by omega),h1]
  rw[Nat.add_assoc (yQ8 us+1)]
 ·rintro fr st _ ⟨f1,f3,f4,rfl,rfl⟩
  rw[lTl] at f3
  simp(config:=zzC)only[go_sem,f1,f3,f4,hxb.len,yQm (nLi _),fits]
  intros
  exact yQ0 ⟨by rw[show (Fm.mk op n us sub).size=yQ8 us+1+yQ7 sub by simp only[Fm.size]; omega],rfl⟩
theorem zWr:∀ (k:Nat)(t:Fm),SizeOf.sizeOf t<k→RNd gl t
 | 0,f,h=>by omega
 | k+1,.mk o n us sub,h=>xJa gl o n us sub (fun a ha=>zWr k a (by
   have:=lSm ha
   simp at h; omega))
theorem xVj (t:Fm):RNd gl t:=zWr gl _ t (Nat.lt_succ_self _)
def RDd (f:Fm):Prop:=∀ (x:IV) (_:IsFm f x) (_:f.size≤1099511627776) (st:ISt),ICall prog gl 159 [x] st (fun r st'=>r=.raw (.int .i64 f.deep)∧st'=st)
theorem xJb (op:Nat)(n:ByteArray)(us:List Tm)(sub:List Fm)(IH:∀ a∈sub,RDd gl a):RDd gl (.mk op n us sub):=by
 intro x hx hsz st
 obtain⟨ta,xa,tb,xb,rfl,ho,hta,hxa,htb,hxb⟩:=hx.mk
 simp only[Fm.size] at hsz
 have hl1:=yZs us
 have hl2:=yVc sub
 have hd1:=yXy us
 have hd2:=yVr sub
 refine iI func159 rfl rfl (by kernel_rfl) ?_
 simp(config:=zzC)only[go_sem,fits]
 refine (wGy gl us ta xa hta hxa (by omega) _).mono ?_
 rintro _ st ⟨rfl,rfl⟩
 simp(config:=zzC)only[go_sem,fits]
 refine LoopC.ctr sub.length (fun k fr st' ds=>fr 1=.box [.raw (.int .u8 op),.raw (.string n),.sl ta xa,.sl tb xb]∧fr 3=.iv (.raw (.int .i64 ((max (yQk us) (yQt (sub.take k)):Nat):Int)))∧fr 4=.iv (.raw (.int .i64 k))∧st'=st∧ds=[]) ?_ ?_ ?_
 ·simp(config:=zzC)only[go_sem]
  rw[show max (yQk us) (yQt [])=yQk us by simp[yQt]]
  exact⟨rfl,rfl⟩
 ·rintro k fr st _ hlt ⟨f1,f3,f4,rfl,rfl⟩
  obtain⟨a,ha⟩:=yQ3 hlt
  obtain⟨y,hky,hy⟩:=hxb.get ha
  have hmem:=lMg ha
  have h2:=(yX8 ha).2
  have hcall:=IH a hmem y hy (by omega)
  have h1:yQt (sub.take (k+1))=max (yQt (sub.take k)) a.deep:=by rw[yQ4 ha,zV5]; simp[yQt]
  obtain⟨o5,n5,us5,sub5⟩:=a
  obtain⟨t3,x3,t4,x4,rfl,_⟩:=hy.mk
  simp(config:=zzC)only[go_sem,f1,f3,f4,hxb.len,lt_i hlt,yQ2 htb,iNn,hky,fits]
  intros
  refine (hcall _).mono ?_
  rintro _ st ⟨rfl,rfl⟩
  by_cases hg:max (yQk us) (yQt (sub.take k))<(Fm.mk o5 n5 us5 sub5).deep
  ·simp(config:=zzC)only[go_sem,f1,f3,f4,lt_i hg,yQa hlt (show sub.length≤281474976710656 by omega)]
   rw[h1,show max (yQk us) (max (yQt (sub.take k)) (Fm.mk o5 n5 us5 sub5).deep)=(Fm.mk o5 n5 us5 sub5).deep by omega]
  ·simp(config:=zzC)only[go_sem,f1,f3,f4,yQm hg,yQa hlt (show sub.length≤281474976710656 by omega)]
   rw[h1,show max (yQk us) (max (yQt (sub.take k)) (Fm.mk o5 n5 us5 sub5).deep)=max (yQk us) (yQt (sub.take k)) by omega]
 ·rintro fr st _ ⟨f1,f3,f4,rfl,rfl⟩
  rw[lTl] at f3
  have hw:IntKind.i64.wrap (((max (yQk us) (yQt sub):Nat):Int)+1)=((max (yQk us) (yQt sub)+1:Nat):Int):=by rw[w64]<;>omega
  simp(config:=zzC)only[go_sem,f1,f3,f4,hxb.len,yQm (nLi _),fits,hw]
  intros
  exact yQ0 ⟨by simp only[Fm.deep],rfl⟩
theorem zWs:∀ (k:Nat)(t:Fm),SizeOf.sizeOf t<k→RDd gl t
 | 0,f,h=>by omega
 | k+1,.mk o n us sub,h=>xJb gl o n us sub (fun a ha=>zWs k a (by
   have:=lSm ha
   simp at h; omega))
theorem xVk (t:Fm):RDd gl t:=zWs gl _ t (Nat.lt_succ_self _)
theorem wQy {l:List Fm}{a:Fm}(h:a∈l)(ha:a.ok=false):yKw l=false:=by
 induction l with
 | nil=>cases h
 | cons b l ih =>
  simp only[yKw]
  rcases List.mem_cons.1 h with rfl | h
  ·simp[ha]
  ·simp[ih h]
def RRw (f:Fm):Prop:=∀ (x:IV) (_:IsFm f x) (_:f.size≤1099511627776) (st:ISt),ICall prog gl 157 [x,.raw (.bool false)] st (fun r st'=>r=.raw (.bool f.ok)∧st'=st)
theorem xYt (op:Nat)(n:ByteArray)(us:List Tm)(sub:List Fm)(IH:∀ a∈sub,RRw gl a):RRw gl (.mk op n us sub):=by
 intro x hx hsz st
 have hrow:=fun st=>vGv gl op n us sub x hx st
 obtain⟨ta,xa,tb,xb,rfl,ho,hta,hxa,htb,hxb⟩:=hx.mk
 simp only[Fm.size] at hsz
 have hl1:=yZs us
 have hl2:=yVc sub
 refine iI func157 rfl rfl (by kernel_rfl) ?_
 simp(config:=zzC)only[go_sem,fits]
 refine (hrow _).mono ?_
 rintro _ st ⟨rfl,rfl⟩
 cases hr:yZ6 op n us.length sub.length
 ·simp(config:=zzC)only[go_sem]
  exact yQ0 ⟨by simp[Fm.ok,hr],rfl⟩
 simp(config:=zzC)only[go_sem,fits]
 refine LoopC.ctr us.length (fun k fr st' ds=>yJ8 (us.take k)=true∧fr 1=.iv (.raw (.bool false))∧fr 2=.box [.raw (.int .u8 op),.raw (.string n),.sl ta xa,.sl tb xb]∧fr 5=.iv (.raw (.int .i64 k))∧st'=st∧ds=[]) ?_ ?_ ?_
 ·simp(config:=zzC)only[go_sem]; exact⟨rfl,rfl⟩
 ·rintro k fr st _ hlt ⟨hok,f1,f2,f5,rfl,rfl⟩
  obtain⟨a,ha⟩:=yQ3 hlt
  obtain⟨y,hky,hy⟩:=hxa.get ha
  have hmem:=lMg ha
  have hcall:=wQd gl a y hy (by have:=yWx hmem; omega) st
  obtain⟨v3,n3,m3⟩:=a
  obtain⟨t3,x3,rfl,_⟩:=hy.mk
  simp(config:=zzC)only[go_sem,f1,f2,f5,hxa.len,lt_i hlt,yQ2 hta,iNn,hky,fits]
  intros
  refine hcall.mono ?_
  rintro _ st ⟨rfl,rfl⟩
  cases hb:(Tm.mk v3 n3 m3).ok
  ·simp(config:=zzC)only[go_sem]
   exact yQ0 ⟨by simp[Fm.ok,xQy hmem hb],rfl⟩
  ·simp(config:=zzC)only[go_sem,f1,f2,f5,yQa hlt (show us.length≤281474976710656 by omega)]
   rw[yQ4 ha,yKp,hok]
   simp[yJ8,hb]
 ·rintro fr st _ ⟨hok,f1,f2,f5,rfl,rfl⟩
  rw[lTl] at hok
  simp(config:=zzC)only[go_sem,f1,f2,f5,hxa.len,yQm (nLi _),fits]
  intros
  refine LoopC.ctr sub.length (fun k fr st' ds=>yKw (sub.take k)=true∧fr 1=.iv (.raw (.bool false))∧fr 2=.box [.raw (.int .u8 op),.raw (.string n),.sl ta xa,.sl tb xb]∧fr 6=.iv (.raw (.int .i64 k))∧st'=st∧ds=[]) ?_ ?_ ?_
  ·simp(config:=zzC)only[go_sem,f1,f2]; exact⟨rfl,rfl⟩
  ·rintro k fr st _ hlt ⟨hok2,f1,f2,f6,rfl,rfl⟩
   obtain⟨a,ha⟩:=yQ3 hlt
   obtain⟨y,hky,hy⟩:=hxb.get ha
   have hmem:=lMg ha
   have h2:=(yX8 ha).2
   have hcall:=IH a hmem y hy (by omega)
   obtain⟨o5,n5,us5,sub5⟩:=a
   obtain⟨t3,x3,t4,x4,rfl,_⟩:=hy.mk
   simp(config:=zzC)only[go_sem,f1,f2,f6,hxb.len,lt_i hlt,yQ2 htb,iNn,hky,fits]
   intros
   refine (hcall _).mono ?_
   rintro _ st ⟨rfl,rfl⟩
   cases hb:(Fm.mk o5 n5 us5 sub5).ok
   ·simp(config:=zzC)only[go_sem]
    exact yQ0 ⟨by rw[show (Fm.mk op n us sub).ok=false by simp only[Fm.ok,wQy hmem hb,Bool.and_false]],rfl⟩
   ·simp(config:=zzC)only[go_sem,f1,f2,f6,yQa hlt (show sub.length≤281474976710656 by omega)]
    rw[yQ4 ha,xZ1,hok2]
    simp only[yKw,hb,Bool.and_self]
  ·rintro fr st _ ⟨hok2,f1,f2,f6,rfl,rfl⟩
   rw[lTl] at hok2
   simp(config:=zzC)only[go_sem,f1,f2,f6,hxb.len,yQm (nLi _),fits]
   intros
   exact yQ0 ⟨by simp only[Fm.ok,hr,hok,hok2,Bool.and_self],rfl⟩
theorem xQl:∀ (k:Nat)(t:Fm),SizeOf.sizeOf t<k→RRw gl t
 | 0,f,h=>by omega
 | k+1,.mk o n us sub,h=>xYt gl o n us sub (fun a ha=>xQl k a (by
   have:=lSm ha
   simp at h; omega))
theorem wGz (t:Fm):RRw gl t:=xQl gl _ t (Nat.lt_succ_self _)
theorem zJ2 (f:Fm)(x:IV)(hx:IsFm f x)(hs:f.size≤1099511627776)(st:ISt):ICall prog gl 110 [x] st (fun r st'=>r=.raw (.bool f.right)∧st'=st):=by
 have h1:=fun st=>wGz gl f x hx hs st
 have h2:=fun st=>xVj gl f x hx hs st
 have h3:=fun st=>xVk gl f x hx hs st
 have hri:f.right=(f.ok&&decide (f.size≤400)&&decide (f.deep≤40)):=rfl
 obtain⟨op,n,us,sub⟩:=f
 obtain⟨ta,xa,tb,xb,rfl,_⟩:=hx.mk
 generalize Fm.mk op n us sub=f at *
 refine iI func110 rfl rfl (by kernel_rfl) ?_
 simp(config:=zzC)only[go_sem,fits]
 refine (h1 _).mono ?_
 rintro _ st ⟨rfl,rfl⟩
 cases hk:f.ok
 ·simp(config:=zzC)only[go_sem]
  exact yQ0 ⟨by simp[hri,hk],rfl⟩
 simp(config:=zzC)only[go_sem,fits]
 refine (h2 _).mono ?_
 rintro _ st ⟨rfl,rfl⟩
 by_cases hz:f.size≤400
 ·simp(config:=zzC)only[go_sem,fits,show decide ((f.size:Int)≤400)=true from dEt (by omega)]
  refine (h3 _).mono ?_
  rintro _ st ⟨rfl,rfl⟩
  simp(config:=zzC)only[go_sem,fits]
  refine yQ0 ⟨?_,rfl⟩
  rw[hri,hk,dEt hz]
  congr 3
  simp
  omega
 ·simp(config:=zzC)only[go_sem,fits,show decide ((f.size:Int)≤400)=false from dEf (by omega)]
  exact yQ0 ⟨by simp[hri,hz],rfl⟩
end Go.Proofs.Tryz
