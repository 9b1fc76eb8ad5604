/-  -/
import Derived.Test.YtebjhmlmdjnkgaaGreatDoorJI
set_option linter.all false
namespace Go.Iv
open Go
inductive Tm where
 | mk (v:Bool) (n:ByteArray) (aL:List Tm)
inductive Fm where
 | mk (op:Nat) (n:ByteArray) (aL:List Tm) (sub:List Fm)
mutual
def IsTm:Tm->IV->Prop
 | .mk v n aL,x=>∃t xs,x=.agg [.raw (.bool v),.raw (.string n),.sl t xs]/\okEs t 3/\IsTms aL xs
def IsTms:List Tm->List IV->Prop
 | [],xs=>xs=[]
 | _::_,_=>False
end
mutual
def IsFm:Fm->IV->Prop
 | .mk op n aL sub,x=>∃t xs t' ys,x=.agg [.raw (.int .u8 op),.raw (.string n),.sl t xs,.sl t' ys]/\op<=7/\okEs t 3/\IsTms aL xs/\okEs t' 4/\IsFms sub ys
def IsFms:List Fm->List IV->Prop
 | [],xs=>xs=[]
 | a::aL,xs=>∃y ys,xs=y::ys/\IsFm a y/\IsFms aL ys
end
theorem IsTms.z:∀ {aL:List Tm}{xs:List IV},IsTms aL xs->aL=[]/\xs=[]
 | [],_,h=>⟨rfl,by simpa only[IsTms] using h⟩
 | _::_,_,h=>by simp only[IsTms] at h
theorem IsTms.len {aL:List Tm}{xs:List IV}(h:IsTms aL xs):xs.length=aL.length:=by
 obtain⟨rfl,rfl⟩:=h.z;rfl
theorem IsFms.len:∀ {aL:List Fm}{xs:List IV},IsFms aL xs->xs.length=aL.length
 | [],xs,h=>by simp only[IsFms] at h;subst h;rfl
 | a::aL,xs,h=>by
  simp only[IsFms] at h;obtain⟨y,ys,rfl,_,h⟩:=h;simp[IsFms.len h]
theorem IsFms.get:∀ {aL:List Fm}{xs:List IV}{k:Nat}{a:Fm},IsFms aL xs->aL[k]?=some a->∃x,xs[k]?=some x/\IsFm a x
 | [],xs,k,a,h,hk=>by simp at hk
 | b::aL,xs,k,a,h,hk=>by
  simp only[IsFms] at h;obtain⟨y,ys,rfl,hy,h⟩:=h;cases k with
  | zero=>simp at hk;subst hk;exact⟨y,rfl,hy⟩
  | succ k=>simpa using IsFms.get h (by simpa using hk)
theorem IsTm.mk {v:Bool}{n:ByteArray}{aL:List Tm}{x:IV}(h:IsTm (.mk v n aL) x):∃t xs,x=.agg [.raw (.bool v),.raw (.string n),.sl t xs]/\okEs t 3/\IsTms aL xs:=by
 simpa only[IsTm] using h
theorem IsFm.mk {op:Nat}{n:ByteArray}{aL:List Tm}{sub:List Fm}{x:IV}(h:IsFm (.mk op n aL sub) x) :
  ∃t xs t' ys,x=.agg [.raw (.int .u8 op),.raw (.string n),.sl t xs,.sl t' ys]/\op<=7/\okEs t 3/\IsTms aL xs/\okEs t' 4/\IsFms sub ys:=by
 simpa only[IsFm] using h
theorem IsFm.agg {f:Fm}{x:IV}(h:IsFm f x):∃(op:Nat) (n:ByteArray) (t:Tag) (xs:List IV) (t':Tag) (ys:List IV),x=.agg [.raw (.int .u8 op),.raw (.string n),.sl t xs,.sl t' ys]:=by
 obtain⟨op,n,us,sub⟩:=f;obtain⟨t,xs,t',ys,rfl,_⟩:=h.mk;exact⟨_,_,_,_,_,_,rfl⟩
theorem IsTm.agg {t:Tm}{x:IV}(h:IsTm t x):∃(v:Bool) (n:ByteArray) (tg:Tag) (xs:List IV),x=.agg [.raw (.bool v),.raw (.string n),.sl tg xs]:=by
 obtain⟨v,n,us⟩:=t;obtain⟨tg,xs,rfl,_⟩:=h.mk;exact⟨_,_,_,_,rfl⟩
theorem IsFms.append:∀ {aL bs:List Fm}{xs ys:List IV},IsFms aL xs->IsFms bs ys->IsFms (aL++bs) (xs++ys)
 | [],bs,xs,ys,h,k=>by simp only[IsFms] at h;subst h;exact k
 | a::aL,bs,xs,ys,h,k=>by
  simp only[IsFms] at h;obtain⟨y,zs,rfl,hy,h⟩:=h;exact⟨y,zs++ys,rfl,hy,IsFms.append h k⟩
theorem IsFms.one {a:Fm}{x:IV}(h:IsFm a x):IsFms [a] [x]:=⟨x,[],rfl,h,rfl⟩
theorem IsTm.cells_one {t:Tm}{x:IV}(h:IsTm t x):∀c∈x.cells,c.one=true:=by
 obtain⟨v,n,aL⟩:=t;obtain⟨t,xs,rfl,_⟩:=h.mk;intro c hc;simp only[IV.cells,List.mem_cons,List.not_mem_nil,or_false] at hc;rcases hc with rfl|rfl|rfl<;>rfl
theorem IsFm.cells_one {f:Fm}{x:IV}(h:IsFm f x):∀c∈x.cells,c.one=true:=by
 obtain⟨o,n,aL,sub⟩:=f;obtain⟨t,xs,t',ys,rfl,_⟩:=h.mk;intro c hc;simp only[IV.cells,List.mem_cons,List.not_mem_nil,or_false] at hc;rcases hc with rfl|rfl|rfl|rfl<;>rfl
theorem IsTms.cells_one {aL:List Tm}{xs:List IV}(h:IsTms aL xs):∀c∈xs.flatMap IV.cells,c.one=true:=by
 obtain⟨rfl,rfl⟩:=h.z;intro c hc;cases hc
theorem IsFms.cells_one:∀ {aL:List Fm}{xs:List IV},IsFms aL xs->∀c∈xs.flatMap IV.cells,c.one=true
 | [],xs,h,c,hc=>by simp only[IsFms] at h;subst h;cases hc
 | a::aL,xs,h,c,hc=>by
  simp only[IsFms] at h;obtain⟨y,ys,rfl,hy,h⟩:=h;rw[List.flatMap_cons,List.mem_append] at hc;rcases hc with hc|hc
  ·exact hy.cells_one c hc
  ·exact IsFms.cells_one h c hc
def IsTmD (t:Tm)(x:IV):Prop:=IsTm t x/\dfr x
def IsTmsD (l:List Tm)(xs:List IV):Prop:=IsTms l xs/\dfrs xs
def IsFmD (f:Fm)(x:IV):Prop:=IsFm f x/\dfr x
def IsFmsD (l:List Fm)(xs:List IV):Prop:=IsFms l xs/\dfrs xs
theorem IsFmsD.len {aL:List Fm}{xs:List IV}(h:IsFmsD aL xs):xs.length=aL.length:=h.1.len
theorem IsFmsD.append {aL bs:List Fm}{xs ys:List IV}(h:IsFmsD aL xs)(k:IsFmsD bs ys):IsFmsD (aL++bs) (xs++ys):=⟨h.1.append k.1,yJ3 h.2 k.2⟩
theorem IsFmsD.one {a:Fm}{x:IV}(h:IsFmD a x):IsFmsD [a] [x]:=⟨IsFms.one h.1,h.2,trivial⟩
theorem IsTmsD.nil:IsTmsD [] []:=⟨rfl,trivial⟩
theorem IsTmD.agg {t:Tm}{x:IV}(h:IsTmD t x):∃(v:Bool) (n:ByteArray) (tg:Tag) (xs:List IV),x=.agg [.raw (.bool v),.raw (.string n),.sl tg xs]:=h.1.agg
theorem IsFmsD.nil:IsFmsD [] []:=⟨rfl,trivial⟩
theorem IsFmD.mk {op:Nat}{n:ByteArray}{aL:List Tm}{sub:List Fm}{x:IV}(h:IsFmD (.mk op n aL sub) x) :
  ∃t xs t' ys,x=.agg [.raw (.int .u8 op),.raw (.string n),.sl t xs,.sl t' ys]/\op<=7/\okEs t 3/\IsTms aL xs/\okEs t' 4/\IsFms sub ys:=h.1.mk
theorem IsTmD.intro {v:Bool}{n:ByteArray}{us:List Tm}{t:Tag}{xs:List IV}(he:okEs t 3)(ha:appT us.length t)(h:IsTmsD us xs):IsTmD (.mk v n us) (.agg [.raw (.bool v),.raw (.string n),.sl t xs]):=by
 have h1:IsTm (.mk v n us) (.agg [.raw (.bool v),.raw (.string n),.sl t xs]):=⟨t,xs,rfl,he,h.1⟩
 refine⟨h1,?_⟩;simp only[dfr,dfrs,and_true,true_and];exact⟨⟨(ha.to h.1.len).up,h.2,h.1.cells_one⟩,h1.cells_one⟩
theorem IsFmD.intro {op:Nat}{n:ByteArray}{us:List Tm}{sub:List Fm}{t t':Tag}{xs ys:List IV}(ho:op<=7)(he:okEs t 3)(ha:appT us.length t)(h:IsTmsD us xs)(he':okEs t' 4)(ha':appT sub.length t')(h':IsFmsD sub ys) :
  IsFmD (.mk op n us sub) (.agg [.raw (.int .u8 op),.raw (.string n),.sl t xs,.sl t' ys]):=by
 have h1:IsFm (.mk op n us sub) (.agg [.raw (.int .u8 op),.raw (.string n),.sl t xs,.sl t' ys]):=⟨t,xs,t',ys,rfl,ho,he,h.1,he',h'.1⟩
 refine⟨h1,?_⟩;simp only[dfr,dfrs,and_true,true_and];exact⟨⟨⟨(ha.to h.1.len).up,h.2,h.1.cells_one⟩,(ha'.to h'.1.len).up,h'.2,h'.1.cells_one⟩,h1.cells_one⟩
theorem yXh {t:Tag}{n:Nat}(h:okEs t n):okEs ⟨false,t.cap,t.es⟩ n:=h
theorem IsTms.aged {aL:List Tm}{xs:List IV}(h:IsTms aL xs):IsTms aL (ages xs):=by
 obtain⟨rfl,rfl⟩:=h.z;rfl
theorem IsTm.aged {t:Tm}{x:IV}(h:IsTm t x):IsTm t (age x):=by
 obtain⟨v,n,aL⟩:=t;obtain⟨t,xs,rfl,he,hxs⟩:=h.mk;simp only[age,ages];exact⟨_,_,rfl,yXh he,hxs.aged⟩
mutual
theorem IsFm.aged:∀ {f:Fm}{x:IV},IsFm f x->IsFm f (age x)
 | .mk o n aL sub,x,h=>by
  obtain⟨t,xs,t',ys,rfl,ho,he,hxs,he',hys⟩:=h.mk;simp only[age,ages];exact⟨_,_,_,_,rfl,ho,yXh he,hxs.aged,yXh he',IsFms.aged hys⟩
theorem IsFms.aged:∀ {aL:List Fm}{xs:List IV},IsFms aL xs->IsFms aL (ages xs)
 | [],xs,h=>by simp only[IsFms] at h;subst h;rfl
 | a::aL,xs,h=>by
  simp only[IsFms] at h;obtain⟨y,ys,rfl,hy,h⟩:=h;exact⟨_,_,rfl,IsFm.aged hy,IsFms.aged h⟩
end
theorem yQ8 {α:Type}{l:List α}{k:Nat}{x:α}(h:l[k]?=some x):l.take (k+1)=l.take k++[x]:=by
 rw[List.take_succ_eq_append_getElem (lGs h).1];grind
theorem yQ3 {α:Type}{l:List α}{k:Nat}(h:k<l.length):∃x,l[k]?=some x:=⟨l[k],List.getElem?_eq_getElem h⟩
theorem lt_i {a b:Nat}(h:a<b):decide ((a:Int)<(b:Int))=true:=by simp;omega
theorem yQk {a b:Nat}(h:¬ a<b):decide ((a:Int)<(b:Int))=false:=by simp;omega
theorem yQa {k n:Nat}(h:k<n)(hn:n<=281474976710656):IntKind.i64.wrap ((k:Int)+1)=((k+1:Nat):Int):=by rw[w64]<;>omega
def inB (lo hi:Nat)(c:UInt8):Bool:=decide (lo<=c.toNat)&&decide (c.toNat<=hi)
def yVs (c:UInt8):Bool:=inB 48 57 c
def yWo (c:UInt8):Bool:=inB 97 122 c
def yJ2 (c:UInt8):Bool:=inB 65 90 c
def yWq (c:UInt8):Bool:=yWo c || yJ2 c || yVs c
def wAll:ByteArray:=⟨#[97,108,108]⟩
def xYj:ByteArray:=⟨#[115,111,109,101]⟩
def zG8:ByteArray:=⟨#[102,97,108,115,101]⟩
def xYk:ByteArray:=⟨#[110,101,120,116]⟩
def zXh:ByteArray:=⟨#[97,108,119,97,121,115]⟩
def zG7:ByteArray:=⟨#[117,110,116,105,108]⟩
def yJk (s:ByteArray):Bool:=decide (s=wAll) || decide (s=xYj) || decide (s=zG8) || decide (s=xYk) || decide (s=zXh) || decide (s=zG7)
def yVi (p q:UInt8->Bool)(s:ByteArray):Bool :=
 match s.data.toList with
 | []=>false
 | c::cs=>decide (cs.length<16)&&!yJk s&&p c&&cs.all q
def vJn (s:ByteArray):Bool:=yVi (inB 117 122) yVs s
def uVv (s:ByteArray):Bool:=yVi (inB 97 116) yWq s
def zJ7 (s:ByteArray):Bool:=yVi yJ2 yWq s
mutual
def Tm.ok:Tm->Bool
 | .mk true n l=>l.isEmpty&&vJn n
 | .mk false n l=>decide (l.length<=4)&&uVv n&&xZn l
def xZn:List Tm->Bool
 | []=>true
 | a::l=>a.ok&&xZn l
end
mutual
def Tm.size:Tm->Nat
 | .mk _ _ l=>yQy l+1
def yQy:List Tm->Nat
 | []=>0
 | a::l=>a.size+yQy l
end
mutual
def Tm.deep:Tm->Nat
 | .mk _ _ l=>yWu l+1
def yWu:List Tm->Nat
 | []=>0
 | a::l=>max a.deep (yWu l)
end
def yUc (op:Nat)(n:ByteArray)(la ls:Nat):Bool :=
 match op with
 | 1=>zJ7 n&&decide (la<=4)&&decide (ls=0)
 | 2=>decide (n=⟨#[]⟩)&&decide (la=0)&&decide (ls=0)
 | 3|10|11|12|13=>decide (n=⟨#[]⟩)&&decide (la=0)&&decide (ls=1)
 | 4|5|6|7|14=>decide (n=⟨#[]⟩)&&decide (la=0)&&decide (ls=2)
 | 8|9=>vJn n&&decide (la=0)&&decide (ls=1)
 | _=>false
mutual
def Fm.ok:Fm->Bool
 | .mk op n l sub=>yUc op n l.length sub.length&&xZn l&&yKc sub
def yKc:List Fm->Bool
 | []=>true
 | a::l=>a.ok&&yKc l
end
mutual
def Fm.size:Fm->Nat
 | .mk _ _ l sub=>yQy l+yQ7 sub+1
def yQ7:List Fm->Nat
 | []=>0
 | a::l=>a.size+yQ7 l
end
mutual
def Fm.deep:Fm->Nat
 | .mk _ _ l sub=>max (yWu l) (yZe sub)+1
def yZe:List Fm->Nat
 | []=>0
 | a::l=>max a.deep (yZe l)
end
def Fm.right (f:Fm):Bool:=f.ok&&decide (f.size<=400)&&decide (f.deep<=40)
theorem Fm.size_pos (f:Fm):0<f.size:=by cases f;simp[Fm.size]
theorem Fm.deep_pos (f:Fm):0<f.deep:=by cases f;simp[Fm.deep]
mutual
theorem Tm.deep_le:∀t:Tm,t.deep<=t.size
 | .mk _ _ l=>by simp only[Tm.deep,Tm.size];have:=zQi l;omega
theorem zQi:∀l:List Tm,yWu l<=yQy l
 | []=>Nat.le_refl _
 | a::l=>by simp only[yWu,yQy];have:=Tm.deep_le a;have:=zQi l;omega
end
mutual
theorem Fm.deep_le:∀f:Fm,f.deep<=f.size
 | .mk _ _ l sub=>by simp only[Fm.deep,Fm.size];have:=zQi l;have:=zQj sub;omega
theorem zQj:∀l:List Fm,yZe l<=yQ7 l
 | []=>Nat.le_refl _
 | a::l=>by simp only[yZe,yQ7];have:=Fm.deep_le a;have:=zQj l;omega
end
theorem yZs:∀(l m:List Fm),yQ7 (l++m)=yQ7 l+yQ7 m
 | [],m=>by simp[yQ7]
 | a::l,m=>by simp only[List.cons_append,yQ7,yZs l m];omega
theorem zZ2:∀(l m:List Fm),yKc (l++m)=(yKc l&&yKc m)
 | [],m=>by simp[yKc]
 | a::l,m=>by simp only[List.cons_append,yKc,zZ2 l m,Bool.and_assoc]
theorem yGj:∀(l m:List Fm),yZe (l++m)=max (yZe l) (yZe m)
 | [],m=>by simp[yZe]
 | a::l,m=>by simp only[List.cons_append,yZe,yGj l m];omega
theorem yZ5 {l:List Fm}{k:Nat}{a:Fm}(h:l[k]?=some a):yQ7 (l.take (k+1))=yQ7 (l.take k)+a.size/\yQ7 (l.take k)+a.size<=yQ7 l:=by
 have h1:yQ7 (l.take (k+1))=yQ7 (l.take k)+a.size:=by rw[yQ8 h,yZs];simp[yQ7]
 refine⟨h1,?_⟩;rw[<- h1]
 conv=>rhs;rw[<- List.take_append_drop (k+1) l,yZs]
 omega
