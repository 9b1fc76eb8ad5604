/- Terms and formulas as plain data, and ho -/
import Derived.Test.YtclkffdkahljeaaGreatDoorJI
set_option linter.all false
namespace Go.Iv
open Go
inductive Tm where
 | mk (v:Bool) (n:ByteArray) (aL:List Tm)
inductive Fm where
 | mk (op:Nat) (n:ByteArray) (aL:List Tm) (sub:List Fm)
mutual
def IsTm:Tm->IV->Prop
 | .mk v n aL,x=>∃t xs,x=.agg [.raw (.bool v),.raw (.string n),.sl t xs]/\okEs t 3/\IsTms aL xs
def IsTms:List Tm->List IV->Prop
 | [],xs=>xs=[]
 | a::aL,xs=>∃y ys,xs=y::ys/\IsTm a y/\IsTms aL ys
end
mutual
def IsFm:Fm->IV->Prop
 | .mk op n aL sub,x=>∃t xs t' ys,x=.agg [.raw (.int .u8 op),.raw (.string n),.sl t xs,.sl t' ys]/\op<256/\okEs t 3/\IsTms aL xs/\okEs t' 4/\IsFms sub ys
def IsFms:List Fm->List IV->Prop
 | [],xs=>xs=[]
 | a::aL,xs=>∃y ys,xs=y::ys/\IsFm a y/\IsFms aL ys
end
theorem IsTms.len:∀ {aL:List Tm}{xs:List IV},IsTms aL xs->xs.length=aL.length
 | [],xs,h=>by simp only[IsTms] at h;subst h;rfl
 | a::aL,xs,h=>by
  simp only[IsTms] at h;obtain⟨y,ys,rfl,_,h⟩:=h;simp[IsTms.len h]
theorem IsTms.get:∀ {aL:List Tm}{xs:List IV}{k:Nat}{a:Tm},IsTms aL xs->aL[k]?=some a->∃x,xs[k]?=some x/\IsTm a x
 | [],xs,k,a,h,hk=>by simp at hk
 | b::aL,xs,k,a,h,hk=>by
  simp only[IsTms] at h;obtain⟨y,ys,rfl,hy,h⟩:=h;cases k with
  | zero=>simp at hk;subst hk;exact⟨y,rfl,hy⟩
  | succ k=>simpa using IsTms.get h (by simpa using hk)
theorem IsFms.len:∀ {aL:List Fm}{xs:List IV},IsFms aL xs->xs.length=aL.length
 | [],xs,h=>by simp only[IsFms] at h;subst h;rfl
 | a::aL,xs,h=>by
  simp only[IsFms] at h;obtain⟨y,ys,rfl,_,h⟩:=h;simp[IsFms.len h]
theorem IsFms.get:∀ {aL:List Fm}{xs:List IV}{k:Nat}{a:Fm},IsFms aL xs->aL[k]?=some a->∃x,xs[k]?=some x/\IsFm a x
 | [],xs,k,a,h,hk=>by simp at hk
 | b::aL,xs,k,a,h,hk=>by
  simp only[IsFms] at h;obtain⟨y,ys,rfl,hy,h⟩:=h;cases k with
  | zero=>simp at hk;subst hk;exact⟨y,rfl,hy⟩
  | succ k=>simpa using IsFms.get h (by simpa using hk)
theorem IsTm.mk {v:Bool}{n:ByteArray}{aL:List Tm}{x:IV}(h:IsTm (.mk v n aL) x):∃t xs,x=.agg [.raw (.bool v),.raw (.string n),.sl t xs]/\okEs t 3/\IsTms aL xs:=by
 simpa only[IsTm] using h
theorem IsFm.mk {op:Nat}{n:ByteArray}{aL:List Tm}{sub:List Fm}{x:IV}(h:IsFm (.mk op n aL sub) x) :
  ∃t xs t' ys,x=.agg [.raw (.int .u8 op),.raw (.string n),.sl t xs,.sl t' ys]/\op<256/\okEs t 3/\IsTms aL xs/\okEs t' 4/\IsFms sub ys:=by
 simpa only[IsFm] using h
theorem IsTms.append:∀ {aL bs:List Tm}{xs ys:List IV},IsTms aL xs->IsTms bs ys->IsTms (aL++bs) (xs++ys)
 | [],bs,xs,ys,h,k=>by simp only[IsTms] at h;subst h;exact k
 | a::aL,bs,xs,ys,h,k=>by
  simp only[IsTms] at h;obtain⟨y,zs,rfl,hy,h⟩:=h;exact⟨y,zs++ys,rfl,hy,IsTms.append h k⟩
theorem IsFms.append:∀ {aL bs:List Fm}{xs ys:List IV},IsFms aL xs->IsFms bs ys->IsFms (aL++bs) (xs++ys)
 | [],bs,xs,ys,h,k=>by simp only[IsFms] at h;subst h;exact k
 | a::aL,bs,xs,ys,h,k=>by
  simp only[IsFms] at h;obtain⟨y,zs,rfl,hy,h⟩:=h;exact⟨y,zs++ys,rfl,hy,IsFms.append h k⟩
theorem IsTms.one {a:Tm}{x:IV}(h:IsTm a x):IsTms [a] [x]:=⟨x,[],rfl,h,rfl⟩
theorem IsFms.one {a:Fm}{x:IV}(h:IsFm a x):IsFms [a] [x]:=⟨x,[],rfl,h,rfl⟩
theorem IsTm.cells_one {t:Tm}{x:IV}(h:IsTm t x):∀c∈x.cells,c.one=true:=by
 obtain⟨v,n,aL⟩:=t;obtain⟨t,xs,rfl,_⟩:=h.mk;intro c hc;simp only[IV.cells,List.mem_cons,List.not_mem_nil,or_false] at hc;rcases hc with rfl|rfl|rfl<;>rfl
theorem IsFm.cells_one {f:Fm}{x:IV}(h:IsFm f x):∀c∈x.cells,c.one=true:=by
 obtain⟨o,n,aL,sub⟩:=f;obtain⟨t,xs,t',ys,rfl,_⟩:=h.mk;intro c hc;simp only[IV.cells,List.mem_cons,List.not_mem_nil,or_false] at hc;rcases hc with rfl|rfl|rfl|rfl<;>rfl
theorem IsTms.cells_one:∀ {aL:List Tm}{xs:List IV},IsTms aL xs->∀c∈xs.flatMap IV.cells,c.one=true
 | [],xs,h,c,hc=>by simp only[IsTms] at h;subst h;cases hc
 | a::aL,xs,h,c,hc=>by
  simp only[IsTms] at h;obtain⟨y,ys,rfl,hy,h⟩:=h;rw[List.flatMap_cons,List.mem_append] at hc;rcases hc with hc|hc
  ·exact hy.cells_one c hc
  ·exact IsTms.cells_one h c hc
theorem IsFms.cells_one:∀ {aL:List Fm}{xs:List IV},IsFms aL xs->∀c∈xs.flatMap IV.cells,c.one=true
 | [],xs,h,c,hc=>by simp only[IsFms] at h;subst h;cases hc
 | a::aL,xs,h,c,hc=>by
  simp only[IsFms] at h;obtain⟨y,ys,rfl,hy,h⟩:=h;rw[List.flatMap_cons,List.mem_append] at hc;rcases hc with hc|hc
  ·exact hy.cells_one c hc
  ·exact IsFms.cells_one h c hc
def IsTmD (t:Tm)(x:IV):Prop:=IsTm t x/\dfr x
def IsTmsD (l:List Tm)(xs:List IV):Prop:=IsTms l xs/\dfrs xs
def IsFmD (f:Fm)(x:IV):Prop:=IsFm f x/\dfr x
def IsFmsD (l:List Fm)(xs:List IV):Prop:=IsFms l xs/\dfrs xs
theorem IsTmsD.len {aL:List Tm}{xs:List IV}(h:IsTmsD aL xs):xs.length=aL.length:=h.1.len
theorem IsFmsD.len {aL:List Fm}{xs:List IV}(h:IsFmsD aL xs):xs.length=aL.length:=h.1.len
theorem IsTmsD.append {aL bs:List Tm}{xs ys:List IV}(h:IsTmsD aL xs)(k:IsTmsD bs ys):IsTmsD (aL++bs) (xs++ys):=⟨h.1.append k.1,yYy h.2 k.2⟩
theorem IsFmsD.append {aL bs:List Fm}{xs ys:List IV}(h:IsFmsD aL xs)(k:IsFmsD bs ys):IsFmsD (aL++bs) (xs++ys):=⟨h.1.append k.1,yYy h.2 k.2⟩
theorem IsTmsD.one {a:Tm}{x:IV}(h:IsTmD a x):IsTmsD [a] [x]:=⟨IsTms.one h.1,h.2,trivial⟩
theorem IsFmsD.one {a:Fm}{x:IV}(h:IsFmD a x):IsFmsD [a] [x]:=⟨IsFms.one h.1,h.2,trivial⟩
theorem IsTmsD.nil:IsTmsD [] []:=⟨rfl,trivial⟩
theorem IsFmsD.nil:IsFmsD [] []:=⟨rfl,trivial⟩
theorem IsTmD.mk {v:Bool}{n:ByteArray}{aL:List Tm}{x:IV}(h:IsTmD (.mk v n aL) x):∃t xs,x=.agg [.raw (.bool v),.raw (.string n),.sl t xs]/\okEs t 3/\IsTms aL xs:=h.1.mk
theorem IsFmD.mk {op:Nat}{n:ByteArray}{aL:List Tm}{sub:List Fm}{x:IV}(h:IsFmD (.mk op n aL sub) x) :
  ∃t xs t' ys,x=.agg [.raw (.int .u8 op),.raw (.string n),.sl t xs,.sl t' ys]/\op<256/\okEs t 3/\IsTms aL xs/\okEs t' 4/\IsFms sub ys:=h.1.mk
theorem IsTmD.intro {v:Bool}{n:ByteArray}{us:List Tm}{t:Tag}{xs:List IV}(he:okEs t 3)(ha:appT us.length t)(h:IsTmsD us xs):IsTmD (.mk v n us) (.agg [.raw (.bool v),.raw (.string n),.sl t xs]):=by
 have h1:IsTm (.mk v n us) (.agg [.raw (.bool v),.raw (.string n),.sl t xs]):=⟨t,xs,rfl,he,h.1⟩
 refine⟨h1,?_⟩;simp only[dfr,dfrs,and_true,true_and];exact⟨⟨(ha.to h.1.len).up,h.2,h.1.cells_one⟩,h1.cells_one⟩
theorem IsFmD.intro {op:Nat}{n:ByteArray}{us:List Tm}{sub:List Fm}{t t':Tag}{xs ys:List IV}(ho:op<256)(he:okEs t 3)(ha:appT us.length t)(h:IsTmsD us xs)(he':okEs t' 4)(ha':appT sub.length t')(h':IsFmsD sub ys) :
  IsFmD (.mk op n us sub) (.agg [.raw (.int .u8 op),.raw (.string n),.sl t xs,.sl t' ys]):=by
 have h1:IsFm (.mk op n us sub) (.agg [.raw (.int .u8 op),.raw (.string n),.sl t xs,.sl t' ys]):=⟨t,xs,t',ys,rfl,ho,he,h.1,he',h'.1⟩
 refine⟨h1,?_⟩;simp only[dfr,dfrs,and_true,true_and];exact⟨⟨⟨(ha.to h.1.len).up,h.2,h.1.cells_one⟩,(ha'.to h'.1.len).up,h'.2,h'.1.cells_one⟩,h1.cells_one⟩
theorem zVh {t:Tag}{n:Nat}(h:okEs t n):okEs ⟨false,t.cap,t.es⟩ n:=h
mutual
theorem IsTm.aged:∀ {t:Tm}{x:IV},IsTm t x->IsTm t (age x)
 | .mk v n aL,x,h=>by
  obtain⟨t,xs,rfl,he,hxs⟩:=h.mk;simp only[age,ages];exact⟨_,_,rfl,zVh he,IsTms.aged hxs⟩
theorem IsTms.aged:∀ {aL:List Tm}{xs:List IV},IsTms aL xs->IsTms aL (ages xs)
 | [],xs,h=>by simp only[IsTms] at h;subst h;rfl
 | a::aL,xs,h=>by
  simp only[IsTms] at h;obtain⟨y,ys,rfl,hy,h⟩:=h;exact⟨_,_,rfl,IsTm.aged hy,IsTms.aged h⟩
end
mutual
theorem IsFm.aged:∀ {f:Fm}{x:IV},IsFm f x->IsFm f (age x)
 | .mk o n aL sub,x,h=>by
  obtain⟨t,xs,t',ys,rfl,ho,he,hxs,he',hys⟩:=h.mk;simp only[age,ages];exact⟨_,_,_,_,rfl,ho,zVh he,hxs.aged,zVh he',IsFms.aged hys⟩
theorem IsFms.aged:∀ {aL:List Fm}{xs:List IV},IsFms aL xs->IsFms aL (ages xs)
 | [],xs,h=>by simp only[IsFms] at h;subst h;rfl
 | a::aL,xs,h=>by
  simp only[IsFms] at h;obtain⟨y,ys,rfl,hy,h⟩:=h;exact⟨_,_,rfl,IsFm.aged hy,IsFms.aged h⟩
end
theorem yQ7 {α:Type}{l:List α}{k:Nat}{x:α}(h:l[k]?=some x):l.take (k+1)=l.take k++[x]:=by
 rw[List.take_succ_eq_append_getElem (lGs h).1];grind
theorem yQ3 {α:Type}{l:List α}{k:Nat}(h:k<l.length):∃x,l[k]?=some x:=⟨l[k],List.getElem?_eq_getElem h⟩
theorem lt_i {a b:Nat}(h:a<b):decide ((a:Int)<(b:Int))=true:=by simp;omega
theorem yQo {a b:Nat}(h:¬ a<b):decide ((a:Int)<(b:Int))=false:=by simp;omega
theorem yQf {k n:Nat}(h:k<n)(hn:n<=281474976710656):IntKind.i64.wrap ((k:Int)+1)=((k+1:Nat):Int):=by rw[w64]<;>omega
end Go.Iv
namespace Go.Iv
open Go
def inB (lo hi:Nat)(c:UInt8):Bool:=decide (lo<=c.toNat)&&decide (c.toNat<=hi)
def yUq (c:UInt8):Bool:=inB 48 57 c
def zX3 (c:UInt8):Bool:=inB 97 122 c
def yK5 (c:UInt8):Bool:=inB 65 90 c
def yWe (c:UInt8):Bool:=zX3 c || yK5 c || yUq c
def wAll:ByteArray:=⟨#[97,108,108]⟩
def wK1:ByteArray:=⟨#[115,111,109,101]⟩
def xW1:ByteArray:=⟨#[102,97,108,115,101]⟩
def wK2:ByteArray:=⟨#[110,101,120,116]⟩
def zGv:ByteArray:=⟨#[97,108,119,97,121,115]⟩
def xVw:ByteArray:=⟨#[117,110,116,105,108]⟩
def yV0 (s:ByteArray):Bool:=decide (s=wAll) || decide (s=wK1) || decide (s=xW1) || decide (s=wK2) || decide (s=zGv) || decide (s=xVw)
def yYm (p q:UInt8->Bool)(s:ByteArray):Bool :=
 match s.data.toList with
 | []=>false
 | c::cs=>decide (cs.length<16)&&!yV0 s&&p c&&cs.all q
def zZx (s:ByteArray):Bool:=yYm (inB 117 122) yUq s
def wZ2 (s:ByteArray):Bool:=yYm (inB 97 116) yWe s
def xYe (s:ByteArray):Bool:=yYm yK5 yWe s
mutual
def Tm.ok:Tm->Bool
 | .mk true n l=>l.isEmpty&&zZx n
 | .mk false n l=>decide (l.length<=4)&&wZ2 n&&yYe l
def yYe:List Tm->Bool
 | []=>true
 | a::l=>a.ok&&yYe l
end
mutual
def Tm.size:Tm->Nat
 | .mk _ _ l=>yQe l+1
def yQe:List Tm->Nat
 | []=>0
 | a::l=>a.size+yQe l
end
mutual
def Tm.deep:Tm->Nat
 | .mk _ _ l=>yQs l+1
def yQs:List Tm->Nat
 | []=>0
 | a::l=>max a.deep (yQs l)
end
def yJa (op:Nat)(n:ByteArray)(la ls:Nat):Bool :=
 match op with
 | 1=>xYe n&&decide (la<=4)&&decide (ls=0)
 | 2=>decide (n=⟨#[]⟩)&&decide (la=0)&&decide (ls=0)
 | 3|10|11|12|13=>decide (n=⟨#[]⟩)&&decide (la=0)&&decide (ls=1)
 | 4|5|6|7|14=>decide (n=⟨#[]⟩)&&decide (la=0)&&decide (ls=2)
 | 8|9=>zZx n&&decide (la=0)&&decide (ls=1)
 | _=>false
mutual
def Fm.ok:Fm->Bool
 | .mk op n l sub=>yJa op n l.length sub.length&&yYe l&&yW5 sub
def yW5:List Fm->Bool
 | []=>true
 | a::l=>a.ok&&yW5 l
end
mutual
def Fm.size:Fm->Nat
 | .mk _ _ l sub=>yQe l+yQb sub+1
def yQb:List Fm->Nat
 | []=>0
 | a::l=>a.size+yQb l
end
mutual
def Fm.deep:Fm->Nat
 | .mk _ _ l sub=>max (yQs l) (yZ2 sub)+1
def yZ2:List Fm->Nat
 | []=>0
 | a::l=>max a.deep (yZ2 l)
end
def Fm.right (f:Fm):Bool:=f.ok&&decide (f.size<=400)&&decide (f.deep<=40)
theorem Tm.size_pos (t:Tm):0<t.size:=by cases t;simp[Tm.size]
theorem Fm.size_pos (f:Fm):0<f.size:=by cases f;simp[Fm.size]
theorem Tm.deep_pos (t:Tm):0<t.deep:=by cases t;simp[Tm.deep]
theorem Fm.deep_pos (f:Fm):0<f.deep:=by cases f;simp[Fm.deep]
mutual
theorem Tm.deep_le:∀t:Tm,t.deep<=t.size
 | .mk _ _ l=>by simp only[Tm.deep,Tm.size];have:=zKg l;omega
theorem zKg:∀l:List Tm,yQs l<=yQe l
 | []=>Nat.le_refl _
 | a::l=>by simp only[yQs,yQe];have:=Tm.deep_le a;have:=zKg l;omega
end
theorem yKp:∀(l m:List Tm),yQe (l++m)=yQe l+yQe m
 | [],m=>by simp[yQe]
 | a::l,m=>by simp only[List.cons_append,yQe,yKp l m];omega
theorem yKq:∀(l m:List Fm),yQb (l++m)=yQb l+yQb m
 | [],m=>by simp[yQb]
 | a::l,m=>by simp only[List.cons_append,yQb,yKq l m];omega
theorem yKs:∀(l m:List Tm),yQs (l++m)=max (yQs l) (yQs m)
 | [],m=>by simp[yQs]
 | a::l,m=>by simp only[List.cons_append,yQs,yKs l m];omega
theorem yKt:∀(l m:List Fm),yZ2 (l++m)=max (yZ2 l) (yZ2 m)
 | [],m=>by simp[yZ2]
 | a::l,m=>by simp only[List.cons_append,yZ2,yKt l m];omega
theorem yXj {l:List Tm}{k:Nat}{a:Tm}(h:l[k]?=some a):yQe (l.take (k+1))=yQe (l.take k)+a.size/\yQe (l.take k)+a.size<=yQe l:=by
 have h1:yQe (l.take (k+1))=yQe (l.take k)+a.size:=by rw[yQ7 h,yKp];simp[yQe]
 refine⟨h1,?_⟩;rw[<- h1]
 conv=>rhs;rw[<- List.take_append_drop (k+1) l,yKp]
 omega
theorem yZ3 {l:List Fm}{k:Nat}{a:Fm}(h:l[k]?=some a):yQb (l.take (k+1))=yQb (l.take k)+a.size/\yQb (l.take k)+a.size<=yQb l:=by
 have h1:yQb (l.take (k+1))=yQb (l.take k)+a.size:=by rw[yQ7 h,yKq];simp[yQb]
 refine⟨h1,?_⟩;rw[<- h1]
 conv=>rhs;rw[<- List.take_append_drop (k+1) l,yKq]
 omega
