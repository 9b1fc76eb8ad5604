/- Terms and formulas as plain data, and ho -/
import Derived.Test.YtclkffdkahljeaaGreatDoorJI
set_option linter.all false
namespace Go.Iv
open Go
inductive Tm where
 | mk (v:Bool) (n:ByteArray) (aL:List Tm)
inductive Fm where
 | mk (op:Nat) (n:ByteArray) (aL:List Tm) (sub:List Fm)
mutual
def IsTm:Tm->IV->Prop
 | .mk v n D,x=>∃t A,x=.agg [.raw (.bool v),.raw (.string n),.sl t A]/\okEs t 3/\IsTms D A
def IsTms:List Tm->List IV->Prop
 | [],A=>A=[]
 | a::D,A=>∃y ys,A=y::ys/\IsTm a y/\IsTms D ys
end
mutual
def IsFm:Fm->IV->Prop
 | .mk op n E sub,x=>∃t A D ys,x=.agg [.raw (.int .u8 op),.raw (.string n),.sl t A,.sl D ys]/\op<256/\okEs t 3/\IsTms E A/\okEs D 4/\IsFms sub ys
def IsFms:List Fm->List IV->Prop
 | [],A=>A=[]
 | a::D,A=>∃y ys,A=y::ys/\IsFm a y/\IsFms D ys
end
theorem IsTms.len:∀ {D:List Tm}{A:List IV},IsTms D A->A.length=D.length
 | [],A,h=>by simp only[IsTms] at h;subst h;rfl
 | a::D,A,h=>by
  simp only[IsTms] at h;obtain⟨y,ys,rfl,_,h⟩:=h;simp[IsTms.len h]
theorem IsTms.get:∀ {E:List Tm}{D:List IV}{k:Nat}{a:Tm},IsTms E D->E[k]?=some a->∃x,D[k]?=some x/\IsTm a x
 | [],D,k,a,h,A=>by simp at A
 | b::E,D,k,a,h,A=>by
  simp only[IsTms] at h;obtain⟨y,ys,rfl,J,h⟩:=h;cases k with
  | zero=>simp at A;subst A;exact⟨y,rfl,J⟩
  | succ k=>simpa using IsTms.get h (by simpa using A)
theorem IsFms.len:∀ {D:List Fm}{A:List IV},IsFms D A->A.length=D.length
 | [],A,h=>by simp only[IsFms] at h;subst h;rfl
 | a::D,A,h=>by
  simp only[IsFms] at h;obtain⟨y,ys,rfl,_,h⟩:=h;simp[IsFms.len h]
theorem IsFms.get:∀ {E:List Fm}{D:List IV}{k:Nat}{a:Fm},IsFms E D->E[k]?=some a->∃x,D[k]?=some x/\IsFm a x
 | [],D,k,a,h,A=>by simp at A
 | b::E,D,k,a,h,A=>by
  simp only[IsFms] at h;obtain⟨y,ys,rfl,J,h⟩:=h;cases k with
  | zero=>simp at A;subst A;exact⟨y,rfl,J⟩
  | succ k=>simpa using IsFms.get h (by simpa using A)
theorem IsTm.mk {v:Bool}{n:ByteArray}{D:List Tm}{x:IV}(h:IsTm (.mk v n D) x):∃t A,x=.agg [.raw (.bool v),.raw (.string n),.sl t A]/\okEs t 3/\IsTms D A:=by
 simpa only[IsTm] using h
theorem IsFm.mk {op:Nat}{n:ByteArray}{E:List Tm}{sub:List Fm}{x:IV}(h:IsFm (.mk op n E sub) x) :
  ∃t A D ys,x=.agg [.raw (.int .u8 op),.raw (.string n),.sl t A,.sl D ys]/\op<256/\okEs t 3/\IsTms E A/\okEs D 4/\IsFms sub ys:=by
 simpa only[IsFm] using h
theorem IsTms.append:∀ {E D:List Tm}{A ys:List IV},IsTms E A->IsTms D ys->IsTms (E++D) (A++ys)
 | [],D,A,ys,h,k=>by simp only[IsTms] at h;subst h;exact k
 | a::E,D,A,ys,h,k=>by
  simp only[IsTms] at h;obtain⟨y,zs,rfl,J,h⟩:=h;exact⟨y,zs++ys,rfl,J,IsTms.append h k⟩
theorem IsFms.append:∀ {E D:List Fm}{A ys:List IV},IsFms E A->IsFms D ys->IsFms (E++D) (A++ys)
 | [],D,A,ys,h,k=>by simp only[IsFms] at h;subst h;exact k
 | a::E,D,A,ys,h,k=>by
  simp only[IsFms] at h;obtain⟨y,zs,rfl,J,h⟩:=h;exact⟨y,zs++ys,rfl,J,IsFms.append h k⟩
theorem IsTms.one {a:Tm}{x:IV}(h:IsTm a x):IsTms [a] [x]:=⟨x,[],rfl,h,rfl⟩
theorem IsFms.one {a:Fm}{x:IV}(h:IsFm a x):IsFms [a] [x]:=⟨x,[],rfl,h,rfl⟩
theorem IsTm.cells_one {t:Tm}{x:IV}(h:IsTm t x):∀c∈x.cells,c.one=true:=by
 obtain⟨v,n,D⟩:=t;obtain⟨t,A,rfl,_⟩:=h.mk;intro c hc;simp only[IV.cells,List.mem_cons,List.not_mem_nil,or_false] at hc;rcases hc with rfl|rfl|rfl<;>rfl
theorem IsFm.cells_one {f:Fm}{x:IV}(h:IsFm f x):∀c∈x.cells,c.one=true:=by
 obtain⟨o,n,E,sub⟩:=f;obtain⟨t,A,D,ys,rfl,_⟩:=h.mk;intro c hc;simp only[IV.cells,List.mem_cons,List.not_mem_nil,or_false] at hc;rcases hc with rfl|rfl|rfl|rfl<;>rfl
theorem IsTms.cells_one:∀ {D:List Tm}{A:List IV},IsTms D A->∀c∈A.flatMap IV.cells,c.one=true
 | [],A,h,c,hc=>by simp only[IsTms] at h;subst h;cases hc
 | a::D,A,h,c,hc=>by
  simp only[IsTms] at h;obtain⟨y,ys,rfl,E,h⟩:=h;rw[List.flatMap_cons,List.mem_append] at hc;rcases hc with hc|hc
  ·exact E.cells_one c hc
  ·exact IsTms.cells_one h c hc
theorem IsFms.cells_one:∀ {D:List Fm}{A:List IV},IsFms D A->∀c∈A.flatMap IV.cells,c.one=true
 | [],A,h,c,hc=>by simp only[IsFms] at h;subst h;cases hc
 | a::D,A,h,c,hc=>by
  simp only[IsFms] at h;obtain⟨y,ys,rfl,E,h⟩:=h;rw[List.flatMap_cons,List.mem_append] at hc;rcases hc with hc|hc
  ·exact E.cells_one c hc
  ·exact IsFms.cells_one h c hc
def IsTmD (t:Tm)(x:IV):Prop:=IsTm t x/\dfr x
def IsTmsD (l:List Tm)(A:List IV):Prop:=IsTms l A/\dfrs A
def IsFmD (f:Fm)(x:IV):Prop:=IsFm f x/\dfr x
def IsFmsD (l:List Fm)(A:List IV):Prop:=IsFms l A/\dfrs A
theorem IsTmsD.len {D:List Tm}{A:List IV}(h:IsTmsD D A):A.length=D.length:=h.1.len
theorem IsFmsD.len {D:List Fm}{A:List IV}(h:IsFmsD D A):A.length=D.length:=h.1.len
theorem IsTmsD.append {E D:List Tm}{A ys:List IV}(h:IsTmsD E A)(k:IsTmsD D ys):IsTmsD (E++D) (A++ys):=⟨h.1.append k.1,yU8 h.2 k.2⟩
theorem IsFmsD.append {E D:List Fm}{A ys:List IV}(h:IsFmsD E A)(k:IsFmsD D ys):IsFmsD (E++D) (A++ys):=⟨h.1.append k.1,yU8 h.2 k.2⟩
theorem IsTmsD.one {a:Tm}{x:IV}(h:IsTmD a x):IsTmsD [a] [x]:=⟨IsTms.one h.1,h.2,trivial⟩
theorem IsFmsD.one {a:Fm}{x:IV}(h:IsFmD a x):IsFmsD [a] [x]:=⟨IsFms.one h.1,h.2,trivial⟩
theorem IsTmsD.nil:IsTmsD [] []:=⟨rfl,trivial⟩
theorem IsFmsD.nil:IsFmsD [] []:=⟨rfl,trivial⟩
theorem IsTmD.mk {v:Bool}{n:ByteArray}{D:List Tm}{x:IV}(h:IsTmD (.mk v n D) x):∃t A,x=.agg [.raw (.bool v),.raw (.string n),.sl t A]/\okEs t 3/\IsTms D A:=h.1.mk
theorem IsFmD.mk {op:Nat}{n:ByteArray}{E:List Tm}{sub:List Fm}{x:IV}(h:IsFmD (.mk op n E sub) x) :
  ∃t A D ys,x=.agg [.raw (.int .u8 op),.raw (.string n),.sl t A,.sl D ys]/\op<256/\okEs t 3/\IsTms E A/\okEs D 4/\IsFms sub ys:=h.1.mk
theorem IsTmD.intro {v:Bool}{n:ByteArray}{us:List Tm}{t:Tag}{A:List IV}(D:okEs t 3)(E:appT us.length t)(h:IsTmsD us A):IsTmD (.mk v n us) (.agg [.raw (.bool v),.raw (.string n),.sl t A]):=by
 have h1:IsTm (.mk v n us) (.agg [.raw (.bool v),.raw (.string n),.sl t A]):=⟨t,A,rfl,D,h.1⟩
 refine⟨h1,?_⟩;simp only[dfr,dfrs,and_true,true_and];exact⟨⟨(E.to h.1.len).up,h.2,h.1.cells_one⟩,h1.cells_one⟩
theorem IsFmD.intro {op:Nat}{n:ByteArray}{us:List Tm}{sub:List Fm}{t A:Tag}{D ys:List IV}(U:op<256)(he:okEs t 3)(ha:appT us.length t)(h:IsTmsD us D)(J:okEs A 4)(O:appT sub.length A)(E:IsFmsD sub ys) :
  IsFmD (.mk op n us sub) (.agg [.raw (.int .u8 op),.raw (.string n),.sl t D,.sl A ys]):=by
 have h1:IsFm (.mk op n us sub) (.agg [.raw (.int .u8 op),.raw (.string n),.sl t D,.sl A ys]):=⟨t,D,A,ys,rfl,U,he,h.1,J,E.1⟩
 refine⟨h1,?_⟩;simp only[dfr,dfrs,and_true,true_and];exact⟨⟨⟨(ha.to h.1.len).up,h.2,h.1.cells_one⟩,(O.to E.1.len).up,E.2,E.1.cells_one⟩,h1.cells_one⟩
theorem zYy {t:Tag}{n:Nat}(h:okEs t n):okEs ⟨false,t.cap,t.es⟩ n:=h
mutual
theorem IsTm.aged:∀ {t:Tm}{x:IV},IsTm t x->IsTm t (age x)
 | .mk v n J,x,h=>by
  obtain⟨t,E,rfl,D,A⟩:=h.mk;simp only[age,ages];exact⟨_,_,rfl,zYy D,IsTms.aged A⟩
theorem IsTms.aged:∀ {D:List Tm}{A:List IV},IsTms D A->IsTms D (ages A)
 | [],A,h=>by simp only[IsTms] at h;subst h;rfl
 | a::D,A,h=>by
  simp only[IsTms] at h;obtain⟨y,ys,rfl,E,h⟩:=h;exact⟨_,_,rfl,IsTm.aged E,IsTms.aged h⟩
end
mutual
theorem IsFm.aged:∀ {f:Fm}{x:IV},IsFm f x->IsFm f (age x)
 | .mk o n aL sub,x,h=>by
  obtain⟨t,O,U,ys,rfl,E,J,A,D,hys⟩:=h.mk;simp only[age,ages];exact⟨_,_,_,_,rfl,E,zYy J,A.aged,zYy D,IsFms.aged hys⟩
theorem IsFms.aged:∀ {D:List Fm}{A:List IV},IsFms D A->IsFms D (ages A)
 | [],A,h=>by simp only[IsFms] at h;subst h;rfl
 | a::D,A,h=>by
  simp only[IsFms] at h;obtain⟨y,ys,rfl,E,h⟩:=h;exact⟨_,_,rfl,IsFm.aged E,IsFms.aged h⟩
end
def strI (l:List ByteArray):List IV:=l.map λs=>.raw (.string s)
theorem xX6 (l:List ByteArray):(strI l).length=l.length:=by simp[strI]
theorem xKq {l:List ByteArray}{k:Nat}{s:ByteArray}(h:l[k]?=some s):(strI l)[k]?=some (.raw (.string s)):=by simp[strI,h]
theorem yQ7 {α:Type}{l:List α}{k:Nat}{x:α}(h:l[k]?=some x):l.take (k+1)=l.take k++[x]:=by
 rw[List.take_succ_eq_append_getElem (lGs h).1];grind
theorem yQ1 {α:Type}{l:List α}{k:Nat}(h:k<l.length):∃x,l[k]?=some x:=⟨l[k],List.getElem?_eq_getElem h⟩
theorem lt_i {a b:Nat}(h:a<b):decide ((a:Int)<(b:Int))=true:=by simp;omega
theorem yQi {a b:Nat}(h:¬ a<b):decide ((a:Int)<(b:Int))=false:=by simp;omega
theorem yQc {k n:Nat}(h:k<n)(A:n<=281474976710656):IntKind.i64.wrap ((k:Int)+1)=((k+1:Nat):Int):=by rw[w64]<;>omega
end Go.Iv
namespace Go.Iv
open Go
def inB (lo A:Nat)(c:UInt8):Bool:=decide (lo<=c.toNat)&&decide (c.toNat<=A)
def zZd (c:UInt8):Bool:=inB 48 57 c
def zK2 (c:UInt8):Bool:=inB 97 122 c
def yV0 (c:UInt8):Bool:=inB 65 90 c
def yYr (c:UInt8):Bool:=zK2 c || yV0 c || zZd c
def wAll:ByteArray:=⟨#[97,108,108]⟩
def wU0:ByteArray:=⟨#[115,111,109,101]⟩
def xUm:ByteArray:=⟨#[102,97,108,115,101]⟩
def wU1:ByteArray:=⟨#[110,101,120,116]⟩
def xZw:ByteArray:=⟨#[97,108,119,97,121,115]⟩
def xUh:ByteArray:=⟨#[117,110,116,105,108]⟩
def yW7 (s:ByteArray):Bool:=decide (s=wAll) || decide (s=wU0) || decide (s=xUm) || decide (s=wU1) || decide (s=xZw) || decide (s=xUh)
def yY2 (p q:UInt8->Bool)(s:ByteArray):Bool :=
 match s.data.toList with
 | []=>false
 | c::cs=>decide (cs.length<16)&&!yW7 s&&p c&&cs.all q
def yU3 (s:ByteArray):Bool:=yY2 (inB 117 122) zZd s
def wVs (s:ByteArray):Bool:=yY2 (inB 97 116) yYr s
def wZ9 (s:ByteArray):Bool:=yY2 yV0 yYr s
mutual
def Tm.ok:Tm->Bool
 | .mk true n l=>l.isEmpty&&yU3 n
 | .mk false n l=>decide (l.length<=4)&&wVs n&&yYi l
def yYi:List Tm->Bool
 | []=>true
 | a::l=>a.ok&&yYi l
end
mutual
def Tm.size:Tm->Nat
 | .mk _ _ l=>yQh l+1
def yQh:List Tm->Nat
 | []=>0
 | a::l=>a.size+yQh l
end
mutual
def Tm.deep:Tm->Nat
 | .mk _ _ l=>yQr l+1
def yQr:List Tm->Nat
 | []=>0
 | a::l=>max a.deep (yQr l)
end
def yJu (op:Nat)(n:ByteArray)(A ls:Nat):Bool :=
 match op with
 | 1=>wZ9 n&&decide (A<=4)&&decide (ls=0)
 | 2=>decide (n=⟨#[]⟩)&&decide (A=0)&&decide (ls=0)
 | 3|10|11|12|13=>decide (n=⟨#[]⟩)&&decide (A=0)&&decide (ls=1)
 | 4|5|6|7|14=>decide (n=⟨#[]⟩)&&decide (A=0)&&decide (ls=2)
 | 8|9=>yU3 n&&decide (A=0)&&decide (ls=1)
 | _=>false
mutual
def Fm.ok:Fm->Bool
 | .mk op n l sub=>yJu op n l.length sub.length&&yYi l&&yY5 sub
def yY5:List Fm->Bool
 | []=>true
 | a::l=>a.ok&&yY5 l
end
mutual
def Fm.size:Fm->Nat
 | .mk _ _ l sub=>yQh l+yQe sub+1
def yQe:List Fm->Nat
 | []=>0
 | a::l=>a.size+yQe l
end
mutual
def Fm.deep:Fm->Nat
 | .mk _ _ l sub=>max (yQr l) (yZ2 sub)+1
def yZ2:List Fm->Nat
 | []=>0
 | a::l=>max a.deep (yZ2 l)
end
def Fm.right (f:Fm):Bool:=f.ok&&decide (f.size<=400)&&decide (f.deep<=40)
theorem Tm.size_pos (t:Tm):0<t.size:=by cases t;simp[Tm.size]
theorem Fm.size_pos (f:Fm):0<f.size:=by cases f;simp[Fm.size]
theorem Tm.deep_pos (t:Tm):0<t.deep:=by cases t;simp[Tm.deep]
theorem Fm.deep_pos (f:Fm):0<f.deep:=by cases f;simp[Fm.deep]
mutual
theorem Tm.deep_le:∀t:Tm,t.deep<=t.size
 | .mk _ _ l=>by simp only[Tm.deep,Tm.size];have:=zWt l;omega
theorem zWt:∀l:List Tm,yQr l<=yQh l
 | []=>Nat.le_refl _
 | a::l=>by simp only[yQr,yQh];have:=Tm.deep_le a;have:=zWt l;omega
end
theorem yVq:∀(l m:List Tm),yQh (l++m)=yQh l+yQh m
 | [],m=>by simp[yQh]
 | a::l,m=>by simp only[List.cons_append,yQh,yVq l m];omega
theorem yVr:∀(l m:List Fm),yQe (l++m)=yQe l+yQe m
 | [],m=>by simp[yQe]
 | a::l,m=>by simp only[List.cons_append,yQe,yVr l m];omega
theorem yVu:∀(l m:List Tm),yQr (l++m)=max (yQr l) (yQr m)
 | [],m=>by simp[yQr]
 | a::l,m=>by simp only[List.cons_append,yQr,yVu l m];omega
theorem yVv:∀(l m:List Fm),yZ2 (l++m)=max (yZ2 l) (yZ2 m)
 | [],m=>by simp[yZ2]
 | a::l,m=>by simp only[List.cons_append,yZ2,yVv l m];omega
theorem yXf {l:List Tm}{k:Nat}{a:Tm}(h:l[k]?=some a):yQh (l.take (k+1))=yQh (l.take k)+a.size/\yQh (l.take k)+a.size<=yQh l:=by
 have h1:yQh (l.take (k+1))=yQh (l.take k)+a.size:=by rw[yQ7 h,yVq];simp[yQh]
 refine⟨h1,?_⟩;rw[<- h1]
 conv=>rhs;rw[<- List.take_append_drop (k+1) l,yVq]
 omega
theorem yQv {l:List Fm}{k:Nat}{a:Fm}(h:l[k]?=some a):yQe (l.take (k+1))=yQe (l.take k)+a.size/\yQe (l.take k)+a.size<=yQe l:=by
 have h1:yQe (l.take (k+1))=yQe (l.take k)+a.size:=by rw[yQ7 h,yVr];simp[yQe]
 refine⟨h1,?_⟩;rw[<- h1]
 conv=>rhs;rw[<- List.take_append_drop (k+1) l,yVr]
 omega
