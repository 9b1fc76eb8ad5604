/- Terms and formulas as plain data, and ho -/
import Derived.Test.YtdbmgeebmfpmpaaGreatDoorJI
set_option linter.all false
namespace Go.Iv
open Go
inductive Tm where
 | mk (v:Bool) (n:ByteArray) (aL:List Tm)
inductive Fm where
 | mk (op:Nat) (n:ByteArray) (aL:List Tm) (sub:List Fm)
mutual
def IsTm:Tm->IV->Prop
 | .mk v n aL,x=>∃t xs,x=.agg [.raw (.bool v),.raw (.string n),.sl t xs]/\okEs t 3/\IsTms aL xs
def IsTms:List Tm->List IV->Prop
 | [],xs=>xs=[]
 | a::aL,xs=>∃y ys,xs=y::ys/\IsTm a y/\IsTms aL ys
end
mutual
def IsFm:Fm->IV->Prop
 | .mk op n aL sub,x=>∃t xs t' ys,x=.agg [.raw (.int .u8 op),.raw (.string n),.sl t xs,.sl t' ys]/\op<256/\okEs t 3/\IsTms aL xs/\okEs t' 4/\IsFms sub ys
def IsFms:List Fm->List IV->Prop
 | [],xs=>xs=[]
 | a::aL,xs=>∃y ys,xs=y::ys/\IsFm a y/\IsFms aL ys
end
theorem IsTms.len:∀ {aL:List Tm}{xs:List IV},IsTms aL xs->xs.length=aL.length
 | [],xs,h=>by simp only[IsTms] at h;subst h;rfl
 | a::aL,xs,h=>by
  simp only[IsTms] at h;obtain⟨y,ys,rfl,_,h⟩:=h;simp[IsTms.len h]
theorem IsTms.get:∀ {aL:List Tm}{xs:List IV}{k:Nat}{a:Tm},IsTms aL xs->aL[k]?=some a->∃x,xs[k]?=some x/\IsTm a x
 | [],xs,k,a,h,hk=>by simp at hk
 | b::aL,xs,k,a,h,hk=>by
  simp only[IsTms] at h;obtain⟨y,ys,rfl,hy,h⟩:=h;cases k with
  | zero=>simp at hk;subst hk;exact⟨y,rfl,hy⟩
  | succ k=>simpa using IsTms.get h (by simpa using hk)
theorem IsFms.len:∀ {aL:List Fm}{xs:List IV},IsFms aL xs->xs.length=aL.length
 | [],xs,h=>by simp only[IsFms] at h;subst h;rfl
 | a::aL,xs,h=>by
  simp only[IsFms] at h;obtain⟨y,ys,rfl,_,h⟩:=h;simp[IsFms.len h]
theorem IsFms.get:∀ {aL:List Fm}{xs:List IV}{k:Nat}{a:Fm},IsFms aL xs->aL[k]?=some a->∃x,xs[k]?=some x/\IsFm a x
 | [],xs,k,a,h,hk=>by simp at hk
 | b::aL,xs,k,a,h,hk=>by
  simp only[IsFms] at h;obtain⟨y,ys,rfl,hy,h⟩:=h;cases k with
  | zero=>simp at hk;subst hk;exact⟨y,rfl,hy⟩
  | succ k=>simpa using IsFms.get h (by simpa using hk)
theorem IsTm.mk {v:Bool}{n:ByteArray}{aL:List Tm}{x:IV}(h:IsTm (.mk v n aL) x):∃t xs,x=.agg [.raw (.bool v),.raw (.string n),.sl t xs]/\okEs t 3/\IsTms aL xs:=by
 simpa only[IsTm] using h
theorem IsFm.mk {op:Nat}{n:ByteArray}{aL:List Tm}{sub:List Fm}{x:IV}(h:IsFm (.mk op n aL sub) x) :
  ∃t xs t' ys,x=.agg [.raw (.int .u8 op),.raw (.string n),.sl t xs,.sl t' ys]/\op<256/\okEs t 3/\IsTms aL xs/\okEs t' 4/\IsFms sub ys:=by
 simpa only[IsFm] using h
theorem IsTms.append:∀ {aL bs:List Tm}{xs ys:List IV},IsTms aL xs->IsTms bs ys->IsTms (aL++bs) (xs++ys)
 | [],bs,xs,ys,h,k=>by simp only[IsTms] at h;subst h;exact k
 | a::aL,bs,xs,ys,h,k=>by
  simp only[IsTms] at h;obtain⟨y,zs,rfl,hy,h⟩:=h;exact⟨y,zs++ys,rfl,hy,IsTms.append h k⟩
theorem IsFms.append:∀ {aL bs:List Fm}{xs ys:List IV},IsFms aL xs->IsFms bs ys->IsFms (aL++bs) (xs++ys)
 | [],bs,xs,ys,h,k=>by simp only[IsFms] at h;subst h;exact k
 | a::aL,bs,xs,ys,h,k=>by
  simp only[IsFms] at h;obtain⟨y,zs,rfl,hy,h⟩:=h;exact⟨y,zs++ys,rfl,hy,IsFms.append h k⟩
theorem IsTms.one {a:Tm}{x:IV}(h:IsTm a x):IsTms [a] [x]:=⟨x,[],rfl,h,rfl⟩
theorem IsFms.one {a:Fm}{x:IV}(h:IsFm a x):IsFms [a] [x]:=⟨x,[],rfl,h,rfl⟩
theorem IsTm.cells_one {t:Tm}{x:IV}(h:IsTm t x):∀c∈x.cells,c.one=true:=by
 obtain⟨v,n,aL⟩:=t;obtain⟨t,xs,rfl,_⟩:=h.mk;intro c hc;simp only[IV.cells,List.mem_cons,List.not_mem_nil,or_false] at hc;rcases hc with rfl|rfl|rfl<;>rfl
theorem IsFm.cells_one {f:Fm}{x:IV}(h:IsFm f x):∀c∈x.cells,c.one=true:=by
 obtain⟨o,n,aL,sub⟩:=f;obtain⟨t,xs,t',ys,rfl,_⟩:=h.mk;intro c hc;simp only[IV.cells,List.mem_cons,List.not_mem_nil,or_false] at hc;rcases hc with rfl|rfl|rfl|rfl<;>rfl
theorem IsTms.cells_one:∀ {aL:List Tm}{xs:List IV},IsTms aL xs->∀c∈xs.flatMap IV.cells,c.one=true
 | [],xs,h,c,hc=>by simp only[IsTms] at h;subst h;cases hc
 | a::aL,xs,h,c,hc=>by
  simp only[IsTms] at h;obtain⟨y,ys,rfl,hy,h⟩:=h;rw[List.flatMap_cons,List.mem_append] at hc;rcases hc with hc|hc
  ·exact hy.cells_one c hc
  ·exact IsTms.cells_one h c hc
theorem IsFms.cells_one:∀ {aL:List Fm}{xs:List IV},IsFms aL xs->∀c∈xs.flatMap IV.cells,c.one=true
 | [],xs,h,c,hc=>by simp only[IsFms] at h;subst h;cases hc
 | a::aL,xs,h,c,hc=>by
  simp only[IsFms] at h;obtain⟨y,ys,rfl,hy,h⟩:=h;rw[List.flatMap_cons,List.mem_append] at hc;rcases hc with hc|hc
  ·exact hy.cells_one c hc
  ·exact IsFms.cells_one h c hc
def IsTmD (t:Tm)(x:IV):Prop:=IsTm t x/\dfr x
def IsTmsD (l:List Tm)(xs:List IV):Prop:=IsTms l xs/\dfrs xs
def IsFmD (f:Fm)(x:IV):Prop:=IsFm f x/\dfr x
def IsFmsD (l:List Fm)(xs:List IV):Prop:=IsFms l xs/\dfrs xs
theorem IsTmsD.len {aL:List Tm}{xs:List IV}(h:IsTmsD aL xs):xs.length=aL.length:=h.1.len
theorem IsFmsD.len {aL:List Fm}{xs:List IV}(h:IsFmsD aL xs):xs.length=aL.length:=h.1.len
theorem IsTmsD.append {aL bs:List Tm}{xs ys:List IV}(h:IsTmsD aL xs)(k:IsTmsD bs ys):IsTmsD (aL++bs) (xs++ys):=⟨h.1.append k.1,yUa h.2 k.2⟩
theorem IsFmsD.append {aL bs:List Fm}{xs ys:List IV}(h:IsFmsD aL xs)(k:IsFmsD bs ys):IsFmsD (aL++bs) (xs++ys):=⟨h.1.append k.1,yUa h.2 k.2⟩
theorem IsTmsD.one {a:Tm}{x:IV}(h:IsTmD a x):IsTmsD [a] [x]:=⟨IsTms.one h.1,h.2,trivial⟩
theorem IsFmsD.one {a:Fm}{x:IV}(h:IsFmD a x):IsFmsD [a] [x]:=⟨IsFms.one h.1,h.2,trivial⟩
theorem IsTmsD.nil:IsTmsD [] []:=⟨rfl,trivial⟩
theorem IsFmsD.nil:IsFmsD [] []:=⟨rfl,trivial⟩
theorem IsTmD.mk {v:Bool}{n:ByteArray}{aL:List Tm}{x:IV}(h:IsTmD (.mk v n aL) x):∃t xs,x=.agg [.raw (.bool v),.raw (.string n),.sl t xs]/\okEs t 3/\IsTms aL xs:=h.1.mk
theorem IsFmD.mk {op:Nat}{n:ByteArray}{aL:List Tm}{sub:List Fm}{x:IV}(h:IsFmD (.mk op n aL sub) x) :
  ∃t xs t' ys,x=.agg [.raw (.int .u8 op),.raw (.string n),.sl t xs,.sl t' ys]/\op<256/\okEs t 3/\IsTms aL xs/\okEs t' 4/\IsFms sub ys:=h.1.mk
theorem IsTmD.intro {v:Bool}{n:ByteArray}{us:List Tm}{t:Tag}{xs:List IV}(he:okEs t 3)(ha:appT us.length t)(h:IsTmsD us xs):IsTmD (.mk v n us) (.agg [.raw (.bool v),.raw (.string n),.sl t xs]):=by
 have h1:IsTm (.mk v n us) (.agg [.raw (.bool v),.raw (.string n),.sl t xs]):=⟨t,xs,rfl,he,h.1⟩
 refine⟨h1,?_⟩;simp only[dfr,dfrs,and_true,true_and];exact⟨⟨(ha.to h.1.len).up,h.2,h.1.cells_one⟩,h1.cells_one⟩
theorem IsFmD.intro {op:Nat}{n:ByteArray}{us:List Tm}{sub:List Fm}{t t':Tag}{xs ys:List IV}(ho:op<256)(he:okEs t 3)(ha:appT us.length t)(h:IsTmsD us xs)(he':okEs t' 4)(ha':appT sub.length t')(h':IsFmsD sub ys) :
  IsFmD (.mk op n us sub) (.agg [.raw (.int .u8 op),.raw (.string n),.sl t xs,.sl t' ys]):=by
 have h1:IsFm (.mk op n us sub) (.agg [.raw (.int .u8 op),.raw (.string n),.sl t xs,.sl t' ys]):=⟨t,xs,t',ys,rfl,ho,he,h.1,he',h'.1⟩
 refine⟨h1,?_⟩;simp only[dfr,dfrs,and_true,true_and];exact⟨⟨⟨(ha.to h.1.len).up,h.2,h.1.cells_one⟩,(ha'.to h'.1.len).up,h'.2,h'.1.cells_one⟩,h1.cells_one⟩
theorem zYv {t:Tag}{n:Nat}(h:okEs t n):okEs ⟨false,t.cap,t.es⟩ n:=h
mutual
theorem IsTm.aged:∀ {t:Tm}{x:IV},IsTm t x->IsTm t (age x)
 | .mk v n aL,x,h=>by
  obtain⟨t,xs,rfl,he,hxs⟩:=h.mk;simp only[age,ages];exact⟨_,_,rfl,zYv he,IsTms.aged hxs⟩
theorem IsTms.aged:∀ {aL:List Tm}{xs:List IV},IsTms aL xs->IsTms aL (ages xs)
 | [],xs,h=>by simp only[IsTms] at h;subst h;rfl
 | a::aL,xs,h=>by
  simp only[IsTms] at h;obtain⟨y,ys,rfl,hy,h⟩:=h;exact⟨_,_,rfl,IsTm.aged hy,IsTms.aged h⟩
end
mutual
theorem IsFm.aged:∀ {f:Fm}{x:IV},IsFm f x->IsFm f (age x)
 | .mk o n aL sub,x,h=>by
  obtain⟨t,xs,t',ys,rfl,ho,he,hxs,he',hys⟩:=h.mk;simp only[age,ages];exact⟨_,_,_,_,rfl,ho,zYv he,hxs.aged,zYv he',IsFms.aged hys⟩
theorem IsFms.aged:∀ {aL:List Fm}{xs:List IV},IsFms aL xs->IsFms aL (ages xs)
 | [],xs,h=>by simp only[IsFms] at h;subst h;rfl
 | a::aL,xs,h=>by
  simp only[IsFms] at h;obtain⟨y,ys,rfl,hy,h⟩:=h;exact⟨_,_,rfl,IsFm.aged hy,IsFms.aged h⟩
end
def strI (l:List ByteArray):List IV:=l.map λs=>.raw (.string s)
theorem xZy (l:List ByteArray):(strI l).length=l.length:=by simp[strI]
theorem xKu {l:List ByteArray}{k:Nat}{s:ByteArray}(h:l[k]?=some s):(strI l)[k]?=some (.raw (.string s)):=by simp[strI,h]
theorem yQ8 {α:Type}{l:List α}{k:Nat}{x:α}(h:l[k]?=some x):l.take (k+1)=l.take k++[x]:=by
 rw[List.take_succ_eq_append_getElem (lGs h).1];grind
theorem yQ1 {α:Type}{l:List α}{k:Nat}(h:k<l.length):∃x,l[k]?=some x:=⟨l[k],List.getElem?_eq_getElem h⟩
theorem lt_i {a b:Nat}(h:a<b):decide ((a:Int)<(b:Int))=true:=by simp;omega
theorem yQl {a b:Nat}(h:¬ a<b):decide ((a:Int)<(b:Int))=false:=by simp;omega
theorem yQd {k n:Nat}(h:k<n)(hn:n<=281474976710656):IntKind.i64.wrap ((k:Int)+1)=((k+1:Nat):Int):=by rw[w64]<;>omega
def inB (lo hi:Nat)(c:UInt8):Bool:=decide (lo<=c.toNat)&&decide (c.toNat<=hi)
def zZ7 (c:UInt8):Bool:=inB 48 57 c
def zK3 (c:UInt8):Bool:=inB 97 122 c
def yKu (c:UInt8):Bool:=inB 65 90 c
def yYp (c:UInt8):Bool:=zK3 c || yKu c || zZ7 c
def wAll:ByteArray:=⟨#[97,108,108]⟩
def wGp:ByteArray:=⟨#[115,111,109,101]⟩
def xUv:ByteArray:=⟨#[102,97,108,115,101]⟩
def wGq:ByteArray:=⟨#[110,101,120,116]⟩
def xZq:ByteArray:=⟨#[97,108,119,97,121,115]⟩
def xUq:ByteArray:=⟨#[117,110,116,105,108]⟩
def yW2 (s:ByteArray):Bool:=decide (s=wAll) || decide (s=wGp) || decide (s=xUv) || decide (s=wGq) || decide (s=xZq) || decide (s=xUq)
def yWx (p q:UInt8->Bool)(s:ByteArray):Bool :=
 match s.data.toList with
 | []=>false
 | c::cs=>decide (cs.length<16)&&!yW2 s&&p c&&cs.all q
def yU1 (s:ByteArray):Bool:=yWx (inB 117 122) zZ7 s
def wVs (s:ByteArray):Bool:=yWx (inB 97 116) yYp s
def wZg (s:ByteArray):Bool:=yWx yKu yYp s
mutual
def Tm.ok:Tm->Bool
 | .mk true n l=>l.isEmpty&&yU1 n
 | .mk false n l=>decide (l.length<=4)&&wVs n&&yYe l
def yYe:List Tm->Bool
 | []=>true
 | a::l=>a.ok&&yYe l
end
mutual
def Tm.size:Tm->Nat
 | .mk _ _ l=>yQf l+1
def yQf:List Tm->Nat
 | []=>0
 | a::l=>a.size+yQf l
end
mutual
def Tm.deep:Tm->Nat
 | .mk _ _ l=>yQu l+1
def yQu:List Tm->Nat
 | []=>0
 | a::l=>max a.deep (yQu l)
end
def yJq (op:Nat)(n:ByteArray)(la ls:Nat):Bool :=
 match op with
 | 1=>wZg n&&decide (la<=4)&&decide (ls=0)
 | 2=>decide (n=⟨#[]⟩)&&decide (la=0)&&decide (ls=0)
 | 3|10|11|12|13=>decide (n=⟨#[]⟩)&&decide (la=0)&&decide (ls=1)
 | 4|5|6|7|14=>decide (n=⟨#[]⟩)&&decide (la=0)&&decide (ls=2)
 | 8|9=>yU1 n&&decide (la=0)&&decide (ls=1)
 | _=>false
mutual
def Fm.ok:Fm->Bool
 | .mk op n l sub=>yJq op n l.length sub.length&&yYe l&&yY0 sub
def yY0:List Fm->Bool
 | []=>true
 | a::l=>a.ok&&yY0 l
end
mutual
def Fm.size:Fm->Nat
 | .mk _ _ l sub=>yQf l+yQb sub+1
def yQb:List Fm->Nat
 | []=>0
 | a::l=>a.size+yQb l
end
mutual
def Fm.deep:Fm->Nat
 | .mk _ _ l sub=>max (yQu l) (yZ5 sub)+1
def yZ5:List Fm->Nat
 | []=>0
 | a::l=>max a.deep (yZ5 l)
end
def Fm.right (f:Fm):Bool:=f.ok&&decide (f.size<=400)&&decide (f.deep<=40)
theorem Tm.size_pos (t:Tm):0<t.size:=by cases t;simp[Tm.size]
theorem Fm.size_pos (f:Fm):0<f.size:=by cases f;simp[Fm.size]
theorem Tm.deep_pos (t:Tm):0<t.deep:=by cases t;simp[Tm.deep]
theorem Fm.deep_pos (f:Fm):0<f.deep:=by cases f;simp[Fm.deep]
mutual
theorem Tm.deep_le:∀t:Tm,t.deep<=t.size
 | .mk _ _ l=>by simp only[Tm.deep,Tm.size];have:=zWu l;omega
theorem zWu:∀l:List Tm,yQu l<=yQf l
 | []=>Nat.le_refl _
 | a::l=>by simp only[yQu,yQf];have:=Tm.deep_le a;have:=zWu l;omega
end
theorem yVl:∀(l m:List Tm),yQf (l++m)=yQf l+yQf m
 | [],m=>by simp[yQf]
 | a::l,m=>by simp only[List.cons_append,yQf,yVl l m];omega
theorem yVm:∀(l m:List Fm),yQb (l++m)=yQb l+yQb m
 | [],m=>by simp[yQb]
 | a::l,m=>by simp only[List.cons_append,yQb,yVm l m];omega
theorem yVp:∀(l m:List Tm),yQu (l++m)=max (yQu l) (yQu m)
 | [],m=>by simp[yQu]
 | a::l,m=>by simp only[List.cons_append,yQu,yVp l m];omega
theorem yVq:∀(l m:List Fm),yZ5 (l++m)=max (yZ5 l) (yZ5 m)
 | [],m=>by simp[yZ5]
 | a::l,m=>by simp only[List.cons_append,yZ5,yVq l m];omega
theorem yXd {l:List Tm}{k:Nat}{a:Tm}(h:l[k]?=some a):yQf (l.take (k+1))=yQf (l.take k)+a.size/\yQf (l.take k)+a.size<=yQf l:=by
 have h1:yQf (l.take (k+1))=yQf (l.take k)+a.size:=by rw[yQ8 h,yVl];simp[yQf]
 refine⟨h1,?_⟩;rw[<- h1]
 conv=>rhs;rw[<- List.take_append_drop (k+1) l,yVl]
 omega
theorem yZ6 {l:List Fm}{k:Nat}{a:Fm}(h:l[k]?=some a):yQb (l.take (k+1))=yQb (l.take k)+a.size/\yQb (l.take k)+a.size<=yQb l:=by
 have h1:yQb (l.take (k+1))=yQb (l.take k)+a.size:=by rw[yQ8 h,yVm];simp[yQb]
 refine⟨h1,?_⟩;rw[<- h1]
 conv=>rhs;rw[<- List.take_append_drop (k+1) l,yVm]
 omega
