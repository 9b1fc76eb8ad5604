/- Terms and formulas as plain data, and ho -/
import Derived.Test.YtabhgbojkjcfjaaGreatDoorJI
set_option linter.all false
namespace Go.Iv
open Go
inductive Tm where
 | mk (v:Bool) (n:ByteArray) (aL:List Tm)
inductive Fm where
 | mk (op:Nat) (n:ByteArray) (aL:List Tm) (sub:List Fm)
mutual
def IsTm:Tm->IV->Prop
 | .mk v n D,x=>∃t A,x=.agg [.raw (.bool v),.raw (.string n),.sl t A]/\okEs t 3/\IsTms D A
def IsTms:List Tm->List IV->Prop
 | [],A=>A=[]
 | a::D,A=>∃y ys,A=y::ys/\IsTm a y/\IsTms D ys
end
mutual
def IsFm:Fm->IV->Prop
 | .mk op n E sub,x=>∃t A D ys,x=.agg [.raw (.int .u8 op),.raw (.string n),.sl t A,.sl D ys]/\op<256/\okEs t 3/\IsTms E A/\okEs D 4/\IsFms sub ys
def IsFms:List Fm->List IV->Prop
 | [],A=>A=[]
 | a::D,A=>∃y ys,A=y::ys/\IsFm a y/\IsFms D ys
end
theorem IsTms.len:∀ {D:List Tm}{A:List IV},IsTms D A->A.length=D.length
 | [],A,h=>by simp only[IsTms] at h;subst h;rfl
 | a::D,A,h=>by
  simp only[IsTms] at h;obtain⟨y,ys,rfl,_,h⟩:=h;simp[IsTms.len h]
theorem IsTms.get:∀ {E:List Tm}{D:List IV}{k:Nat}{a:Tm},IsTms E D->E[k]?=some a->∃x,D[k]?=some x/\IsTm a x
 | [],D,k,a,h,A=>by simp at A
 | b::E,D,k,a,h,A=>by
  simp only[IsTms] at h;obtain⟨y,ys,rfl,F,h⟩:=h;cases k with
  | zero=>simp at A;subst A;exact⟨y,rfl,F⟩
  | succ k=>simpa using IsTms.get h (by simpa using A)
theorem IsFms.len:∀ {D:List Fm}{A:List IV},IsFms D A->A.length=D.length
 | [],A,h=>by simp only[IsFms] at h;subst h;rfl
 | a::D,A,h=>by
  simp only[IsFms] at h;obtain⟨y,ys,rfl,_,h⟩:=h;simp[IsFms.len h]
theorem IsFms.get:∀ {E:List Fm}{D:List IV}{k:Nat}{a:Fm},IsFms E D->E[k]?=some a->∃x,D[k]?=some x/\IsFm a x
 | [],D,k,a,h,A=>by simp at A
 | b::E,D,k,a,h,A=>by
  simp only[IsFms] at h;obtain⟨y,ys,rfl,F,h⟩:=h;cases k with
  | zero=>simp at A;subst A;exact⟨y,rfl,F⟩
  | succ k=>simpa using IsFms.get h (by simpa using A)
theorem IsTm.mk {v:Bool}{n:ByteArray}{D:List Tm}{x:IV}(h:IsTm (.mk v n D) x):∃t A,x=.agg [.raw (.bool v),.raw (.string n),.sl t A]/\okEs t 3/\IsTms D A:=by
 simpa only[IsTm] using h
theorem IsFm.mk {op:Nat}{n:ByteArray}{E:List Tm}{sub:List Fm}{x:IV}(h:IsFm (.mk op n E sub) x) :
  ∃t A D ys,x=.agg [.raw (.int .u8 op),.raw (.string n),.sl t A,.sl D ys]/\op<256/\okEs t 3/\IsTms E A/\okEs D 4/\IsFms sub ys:=by
 simpa only[IsFm] using h
theorem IsTms.append:∀ {E D:List Tm}{A ys:List IV},IsTms E A->IsTms D ys->IsTms (E++D) (A++ys)
 | [],D,A,ys,h,k=>by simp only[IsTms] at h;subst h;exact k
 | a::E,D,A,ys,h,k=>by
  simp only[IsTms] at h;obtain⟨y,zs,rfl,F,h⟩:=h;exact⟨y,zs++ys,rfl,F,IsTms.append h k⟩
theorem IsFms.append:∀ {E D:List Fm}{A ys:List IV},IsFms E A->IsFms D ys->IsFms (E++D) (A++ys)
 | [],D,A,ys,h,k=>by simp only[IsFms] at h;subst h;exact k
 | a::E,D,A,ys,h,k=>by
  simp only[IsFms] at h;obtain⟨y,zs,rfl,F,h⟩:=h;exact⟨y,zs++ys,rfl,F,IsFms.append h k⟩
theorem IsTms.one {a:Tm}{x:IV}(h:IsTm a x):IsTms [a] [x]:=⟨x,[],rfl,h,rfl⟩
theorem IsFms.one {a:Fm}{x:IV}(h:IsFm a x):IsFms [a] [x]:=⟨x,[],rfl,h,rfl⟩
theorem IsTm.cells_one {t:Tm}{x:IV}(h:IsTm t x):∀c∈x.cells,c.one=true:=by
 obtain⟨v,n,D⟩:=t;obtain⟨t,A,rfl,_⟩:=h.mk;intro c hc;simp only[IV.cells,List.mem_cons,List.not_mem_nil,or_false] at hc;rcases hc with rfl|rfl|rfl<;>rfl
theorem IsFm.cells_one {f:Fm}{x:IV}(h:IsFm f x):∀c∈x.cells,c.one=true:=by
 obtain⟨o,n,E,sub⟩:=f;obtain⟨t,A,D,ys,rfl,_⟩:=h.mk;intro c hc;simp only[IV.cells,List.mem_cons,List.not_mem_nil,or_false] at hc;rcases hc with rfl|rfl|rfl|rfl<;>rfl
theorem IsTms.cells_one:∀ {D:List Tm}{A:List IV},IsTms D A->∀c∈A.flatMap IV.cells,c.one=true
 | [],A,h,c,hc=>by simp only[IsTms] at h;subst h;cases hc
 | a::D,A,h,c,hc=>by
  simp only[IsTms] at h;obtain⟨y,ys,rfl,E,h⟩:=h;rw[List.flatMap_cons,List.mem_append] at hc;rcases hc with hc|hc
  ·exact E.cells_one c hc
  ·exact IsTms.cells_one h c hc
theorem IsFms.cells_one:∀ {D:List Fm}{A:List IV},IsFms D A->∀c∈A.flatMap IV.cells,c.one=true
 | [],A,h,c,hc=>by simp only[IsFms] at h;subst h;cases hc
 | a::D,A,h,c,hc=>by
  simp only[IsFms] at h;obtain⟨y,ys,rfl,E,h⟩:=h;rw[List.flatMap_cons,List.mem_append] at hc;rcases hc with hc|hc
  ·exact E.cells_one c hc
  ·exact IsFms.cells_one h c hc
def IsTmD (t:Tm)(x:IV):Prop:=IsTm t x/\dfr x
def IsTmsD (l:List Tm)(A:List IV):Prop:=IsTms l A/\dfrs A
def IsFmD (f:Fm)(x:IV):Prop:=IsFm f x/\dfr x
def IsFmsD (l:List Fm)(A:List IV):Prop:=IsFms l A/\dfrs A
theorem IsTmsD.len {D:List Tm}{A:List IV}(h:IsTmsD D A):A.length=D.length:=h.1.len
theorem IsFmsD.len {D:List Fm}{A:List IV}(h:IsFmsD D A):A.length=D.length:=h.1.len
theorem IsTmsD.append {E D:List Tm}{A ys:List IV}(h:IsTmsD E A)(k:IsTmsD D ys):IsTmsD (E++D) (A++ys):=⟨h.1.append k.1,zQp h.2 k.2⟩
theorem IsFmsD.append {E D:List Fm}{A ys:List IV}(h:IsFmsD E A)(k:IsFmsD D ys):IsFmsD (E++D) (A++ys):=⟨h.1.append k.1,zQp h.2 k.2⟩
theorem IsTmsD.one {a:Tm}{x:IV}(h:IsTmD a x):IsTmsD [a] [x]:=⟨IsTms.one h.1,h.2,trivial⟩
theorem IsFmsD.one {a:Fm}{x:IV}(h:IsFmD a x):IsFmsD [a] [x]:=⟨IsFms.one h.1,h.2,trivial⟩
theorem IsTmsD.nil:IsTmsD [] []:=⟨rfl,trivial⟩
theorem IsFmsD.nil:IsFmsD [] []:=⟨rfl,trivial⟩
theorem IsTmD.mk {v:Bool}{n:ByteArray}{D:List Tm}{x:IV}(h:IsTmD (.mk v n D) x):∃t A,x=.agg [.raw (.bool v),.raw (.string n),.sl t A]/\okEs t 3/\IsTms D A:=h.1.mk
theorem IsFmD.mk {op:Nat}{n:ByteArray}{E:List Tm}{sub:List Fm}{x:IV}(h:IsFmD (.mk op n E sub) x) :
  ∃t A D ys,x=.agg [.raw (.int .u8 op),.raw (.string n),.sl t A,.sl D ys]/\op<256/\okEs t 3/\IsTms E A/\okEs D 4/\IsFms sub ys:=h.1.mk
theorem IsTmD.intro {v:Bool}{n:ByteArray}{us:List Tm}{t:Tag}{A:List IV}(D:okEs t 3)(E:appT us.length t)(h:IsTmsD us A):IsTmD (.mk v n us) (.agg [.raw (.bool v),.raw (.string n),.sl t A]):=by
 have h1:IsTm (.mk v n us) (.agg [.raw (.bool v),.raw (.string n),.sl t A]):=⟨t,A,rfl,D,h.1⟩
 refine⟨h1,?_⟩;simp only[dfr,dfrs,and_true,true_and];exact⟨⟨E.to h.1.len,h.2,h.1.cells_one⟩,h1.cells_one⟩
theorem IsFmD.intro {op:Nat}{n:ByteArray}{us:List Tm}{sub:List Fm}{t A:Tag}{D ys:List IV}(J:op<256)(O:okEs t 3)(U:appT us.length t)(h:IsTmsD us D)(F:okEs A 4)(G:appT sub.length A)(E:IsFmsD sub ys) :
  IsFmD (.mk op n us sub) (.agg [.raw (.int .u8 op),.raw (.string n),.sl t D,.sl A ys]):=by
 have h1:IsFm (.mk op n us sub) (.agg [.raw (.int .u8 op),.raw (.string n),.sl t D,.sl A ys]):=⟨t,D,A,ys,rfl,J,O,h.1,F,E.1⟩
 refine⟨h1,?_⟩;simp only[dfr,dfrs,and_true,true_and];exact⟨⟨⟨U.to h.1.len,h.2,h.1.cells_one⟩,G.to E.1.len,E.2,E.1.cells_one⟩,h1.cells_one⟩
theorem zZ9 {t:Tag}{n:Nat}(h:okEs t n):okEs ⟨false,t.cap,t.es⟩ n:=h
mutual
theorem IsTm.aged:∀ {t:Tm}{x:IV},IsTm t x->IsTm t (age x)
 | .mk v n F,x,h=>by
  obtain⟨t,E,rfl,D,A⟩:=h.mk;simp only[age,ages];exact⟨_,_,rfl,zZ9 D,IsTms.aged A⟩
theorem IsTms.aged:∀ {D:List Tm}{A:List IV},IsTms D A->IsTms D (ages A)
 | [],A,h=>by simp only[IsTms] at h;subst h;rfl
 | a::D,A,h=>by
  simp only[IsTms] at h;obtain⟨y,ys,rfl,E,h⟩:=h;exact⟨_,_,rfl,IsTm.aged E,IsTms.aged h⟩
end
mutual
theorem IsFm.aged:∀ {f:Fm}{x:IV},IsFm f x->IsFm f (age x)
 | .mk o n O sub,x,h=>by
  obtain⟨t,G,J,ys,rfl,E,F,A,D,hys⟩:=h.mk;simp only[age,ages];exact⟨_,_,_,_,rfl,E,zZ9 F,A.aged,zZ9 D,IsFms.aged hys⟩
theorem IsFms.aged:∀ {D:List Fm}{A:List IV},IsFms D A->IsFms D (ages A)
 | [],A,h=>by simp only[IsFms] at h;subst h;rfl
 | a::D,A,h=>by
  simp only[IsFms] at h;obtain⟨y,ys,rfl,E,h⟩:=h;exact⟨_,_,rfl,IsFm.aged E,IsFms.aged h⟩
end
def strI (l:List ByteArray):List IV:=l.map λs=>.raw (.string s)
theorem yQn (l:List ByteArray):(strI l).length=l.length:=by simp[strI]
theorem yK0 {l:List ByteArray}{k:Nat}{s:ByteArray}(h:l[k]?=some s):(strI l)[k]?=some (.raw (.string s)):=by simp[strI,h]
theorem yJo (l m:List ByteArray):strI (l++m)=strI l++strI m:=by simp[strI]
theorem yQ4 {α:Type}{l:List α}{k:Nat}{x:α}(h:l[k]?=some x):l.take (k+1)=l.take k++[x]:=by
 rw[List.take_succ_eq_append_getElem (lGs h).1];rw[(lGs h).2]
theorem yQ3 {α:Type}{l:List α}{k:Nat}(h:k<l.length):∃x,l[k]?=some x:=⟨l[k],List.getElem?_eq_getElem h⟩
theorem lt_i {a b:Nat}(h:a<b):decide ((a:Int)<(b:Int))=true:=by simp;omega
theorem yQj {a b:Nat}(h:¬ a<b):decide ((a:Int)<(b:Int))=false:=by simp;omega
theorem yQb {k n:Nat}(h:k<n)(A:n<=281474976710656):IntKind.i64.wrap ((k:Int)+1)=((k+1:Nat):Int):=by rw[w64]<;>omega
end Go.Iv
namespace Go.Iv
open Go
def inB (A D:Nat)(c:UInt8):Bool:=decide (A<=c.toNat)&&decide (c.toNat<=D)
def yVo (c:UInt8):Bool:=inB 48 57 c
def yG0 (c:UInt8):Bool:=inB 97 122 c
def yJw (c:UInt8):Bool:=inB 65 90 c
def yY4 (c:UInt8):Bool:=yG0 c || yJw c || yVo c
def wAll:ByteArray:=⟨#[97,108,108]⟩
def xKa:ByteArray:=⟨#[115,111,109,101]⟩
def zKh:ByteArray:=⟨#[102,97,108,115,101]⟩
def xKb:ByteArray:=⟨#[110,101,120,116]⟩
def zQb:ByteArray:=⟨#[97,108,119,97,121,115]⟩
def zYk:ByteArray:=⟨#[117,110,116,105,108]⟩
def yJe (s:ByteArray):Bool:=decide (s=wAll) || decide (s=xKa) || decide (s=zKh) || decide (s=xKb) || decide (s=zQb) || decide (s=zYk)
def yVg (p q:UInt8->Bool)(s:ByteArray):Bool :=
 match s.data.toList with
 | []=>false
 | c::cs=>decide (cs.length<16)&&!yJe s&&p c&&cs.all q
def yV4 (s:ByteArray):Bool:=yVg (inB 117 122) yVo s
def zY9 (s:ByteArray):Bool:=yVg (inB 97 116) yY4 s
def zV8 (s:ByteArray):Bool:=yVg yJw yY4 s
mutual
def Tm.ok:Tm->Bool
 | .mk true n l=>l.isEmpty&&yV4 n
 | .mk false n l=>decide (l.length<=4)&&zY9 n&&yJt l
def yJt:List Tm->Bool
 | []=>true
 | a::l=>a.ok&&yJt l
end
mutual
def Tm.size:Tm->Nat
 | .mk _ _ l=>yQa l+1
def yQa:List Tm->Nat
 | []=>0
 | a::l=>a.size+yQa l
end
mutual
def Tm.deep:Tm->Nat
 | .mk _ _ l=>yQl l+1
def yQl:List Tm->Nat
 | []=>0
 | a::l=>max a.deep (yQl l)
end
def yZc (op:Nat)(n:ByteArray)(A ls:Nat):Bool :=
 match op with
 | 1=>zV8 n&&decide (A<=4)&&decide (ls=0)
 | 2=>decide (n=⟨#[]⟩)&&decide (A=0)&&decide (ls=0)
 | 3|10|11|12|13=>decide (n=⟨#[]⟩)&&decide (A=0)&&decide (ls=1)
 | 4|5|6|7|14=>decide (n=⟨#[]⟩)&&decide (A=0)&&decide (ls=2)
 | 8|9=>yV4 n&&decide (A=0)&&decide (ls=1)
 | _=>false
mutual
def Fm.ok:Fm->Bool
 | .mk op n l sub=>yZc op n l.length sub.length&&yJt l&&yVm sub
def yVm:List Fm->Bool
 | []=>true
 | a::l=>a.ok&&yVm l
end
mutual
def Fm.size:Fm->Nat
 | .mk _ _ l sub=>yQa l+yQ9 sub+1
def yQ9:List Fm->Nat
 | []=>0
 | a::l=>a.size+yQ9 l
end
mutual
def Fm.deep:Fm->Nat
 | .mk _ _ l sub=>max (yQl l) (yQu sub)+1
def yQu:List Fm->Nat
 | []=>0
 | a::l=>max a.deep (yQu l)
end
def Fm.right (f:Fm):Bool:=f.ok&&decide (f.size<=400)&&decide (f.deep<=40)
theorem Tm.size_pos (t:Tm):0<t.size:=by cases t;simp[Tm.size]
theorem Fm.size_pos (f:Fm):0<f.size:=by cases f;simp[Fm.size]
theorem Tm.deep_pos (t:Tm):0<t.deep:=by cases t;simp[Tm.deep]
theorem Fm.deep_pos (f:Fm):0<f.deep:=by cases f;simp[Fm.deep]
mutual
theorem Tm.deep_le:∀t:Tm,t.deep<=t.size
 | .mk _ _ l=>by simp only[Tm.deep,Tm.size];have:=zGu l;omega
theorem zGu:∀l:List Tm,yQl l<=yQa l
 | []=>Nat.le_refl _
 | a::l=>by simp only[yQl,yQa];have:=Tm.deep_le a;have:=zGu l;omega
end
theorem yWy:∀(l m:List Tm),yQa (l++m)=yQa l+yQa m
 | [],m=>by simp[yQa]
 | a::l,m=>by simp only[List.cons_append,yQa,yWy l m];omega
theorem yWz:∀(l m:List Fm),yQ9 (l++m)=yQ9 l+yQ9 m
 | [],m=>by simp[yQ9]
 | a::l,m=>by simp only[List.cons_append,yQ9,yWz l m];omega
theorem yVe:∀(l m:List Tm),yJt (l++m)=(yJt l&&yJt m)
 | [],m=>by simp[yJt]
 | a::l,m=>by simp only[List.cons_append,yJt,yVe l m,Bool.and_assoc]
theorem yY5:∀(l m:List Tm),yQl (l++m)=max (yQl l) (yQl m)
 | [],m=>by simp[yQl]
 | a::l,m=>by simp only[List.cons_append,yQl,yY5 l m];omega
theorem yY6:∀(l m:List Fm),yQu (l++m)=max (yQu l) (yQu m)
 | [],m=>by simp[yQu]
 | a::l,m=>by simp only[List.cons_append,yQu,yY6 l m];omega
theorem yZg {l:List Tm}{k:Nat}{a:Tm}(h:l[k]?=some a):yQa (l.take (k+1))=yQa (l.take k)+a.size/\yQa (l.take k)+a.size<=yQa l:=by
 have h1:yQa (l.take (k+1))=yQa (l.take k)+a.size:=by rw[yQ4 h,yWy];simp[yQa]
 refine⟨h1,?_⟩;rw[<- h1]
 conv=>rhs;rw[<- List.take_append_drop (k+1) l,yWy]
 omega
theorem yQq {l:List Fm}{k:Nat}{a:Fm}(h:l[k]?=some a):yQ9 (l.take (k+1))=yQ9 (l.take k)+a.size/\yQ9 (l.take k)+a.size<=yQ9 l:=by
 have h1:yQ9 (l.take (k+1))=yQ9 (l.take k)+a.size:=by rw[yQ4 h,yWz];simp[yQ9]
 refine⟨h1,?_⟩;rw[<- h1]
 conv=>rhs;rw[<- List.take_append_drop (k+1) l,yWz]
 omega
