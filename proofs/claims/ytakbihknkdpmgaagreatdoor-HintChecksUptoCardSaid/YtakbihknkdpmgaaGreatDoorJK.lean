/- Terms and formulas as plain data, and ho -/
import Derived.Test.YtakbihknkdpmgaaGreatDoorJI
set_option linter.all false
namespace Go.Iv
open Go
inductive Tm where
 | mk (v:Bool) (n:ByteArray) (aL:List Tm)
inductive Fm where
 | mk (op:Nat) (n:ByteArray) (aL:List Tm) (sub:List Fm)
mutual
def IsTm:Tm->IV->Prop
 | .mk v n D,x=>∃t A,x=.agg [v,n,.sl t A]/\okEs t 3/\IsTms D A
def IsTms:List Tm->List IV->Prop
 | [],A=>A=[]
 | a::D,A=>∃y ys,A=y::ys/\IsTm a y/\IsTms D ys
end
mutual
def IsFm:Fm->IV->Prop
 | .mk op n E sub,x=>∃t A D ys,x=.agg [.raw (.int .u8 op),n,.sl t A,.sl D ys]/\op<256/\okEs t 3/\IsTms E A/\okEs D 4/\IsFms sub ys
def IsFms:List Fm->List IV->Prop
 | [],A=>A=[]
 | a::D,A=>∃y ys,A=y::ys/\IsFm a y/\IsFms D ys
end
def IsTms.len:∀ {D:List Tm}{A:List IV},IsTms D A->A.length=D.length
 | [],A,h=>by simp only[IsTms] at h;subst h;rfl
 | a::D,A,h=>by
  simp only[IsTms] at h;obtain⟨y,ys,rfl,_,h⟩:=h;simp[IsTms.len h]
def IsTms.get:∀ {E:List Tm}{D:List IV}{k:Nat}{a:Tm},IsTms E D->E[k]?=some a->∃x,D[k]?=some x/\IsTm a x
 | [],D,k,a,h,A=>by simp at A
 | b::E,D,k,a,h,A=>by
  simp only[IsTms] at h;obtain⟨y,ys,rfl,G,h⟩:=h;cases k with
  | zero=>simp at A;subst A;exact⟨y,rfl,G⟩
  | succ k=>simpa using IsTms.get h (by simpa using A)
def IsFms.len:∀ {D:List Fm}{A:List IV},IsFms D A->A.length=D.length
 | [],A,h=>by simp only[IsFms] at h;subst h;rfl
 | a::D,A,h=>by
  simp only[IsFms] at h;obtain⟨y,ys,rfl,_,h⟩:=h;simp[IsFms.len h]
def IsFms.get:∀ {E:List Fm}{D:List IV}{k:Nat}{a:Fm},IsFms E D->E[k]?=some a->∃x,D[k]?=some x/\IsFm a x
 | [],D,k,a,h,A=>by simp at A
 | b::E,D,k,a,h,A=>by
  simp only[IsFms] at h;obtain⟨y,ys,rfl,G,h⟩:=h;cases k with
  | zero=>simp at A;subst A;exact⟨y,rfl,G⟩
  | succ k=>simpa using IsFms.get h (by simpa using A)
def IsTm.mk {v:Bool}{n:ByteArray}{D:List Tm}{x:IV}(h:IsTm (.mk v n D) x):∃t A,x=.agg [v,n,.sl t A]/\okEs t 3/\IsTms D A:=by
 simpa only[IsTm] using h
def IsFm.mk {op:Nat}{n:ByteArray}{E:List Tm}{sub:List Fm}{x:IV}(h:IsFm (.mk op n E sub) x) :
  ∃t A D ys,x=.agg [.raw (.int .u8 op),n,.sl t A,.sl D ys]/\op<256/\okEs t 3/\IsTms E A/\okEs D 4/\IsFms sub ys:=by
 simpa only[IsFm] using h
def IsTms.append:∀ {E D:List Tm}{A ys:List IV},IsTms E A->IsTms D ys->IsTms (E++D) (A++ys)
 | [],D,A,ys,h,k=>by simp only[IsTms] at h;subst h;exact k
 | a::E,D,A,ys,h,k=>by
  simp only[IsTms] at h;obtain⟨y,zs,rfl,G,h⟩:=h;exact⟨y,zs++ys,rfl,G,IsTms.append h k⟩
def IsFms.append:∀ {E D:List Fm}{A ys:List IV},IsFms E A->IsFms D ys->IsFms (E++D) (A++ys)
 | [],D,A,ys,h,k=>by simp only[IsFms] at h;subst h;exact k
 | a::E,D,A,ys,h,k=>by
  simp only[IsFms] at h;obtain⟨y,zs,rfl,G,h⟩:=h;exact⟨y,zs++ys,rfl,G,IsFms.append h k⟩
def IsTms.one {a:Tm}{x:IV}(h:IsTm a x):IsTms [a] [x]:=⟨x,[],rfl,h,rfl⟩
def IsFms.one {a:Fm}{x:IV}(h:IsFm a x):IsFms [a] [x]:=⟨x,[],rfl,h,rfl⟩
def IsTm.cells_one {t:Tm}{x:IV}(h:IsTm t x):∀c∈x.cells,c.one=true:=by
 obtain⟨v,n,D⟩:=t;obtain⟨t,A,rfl,_⟩:=h.mk;intro c hc;simp only[IV.cells,dN,ga,fe] at hc;rcases hc with rfl|rfl|rfl<;>rfl
def IsFm.cells_one {f:Fm}{x:IV}(h:IsFm f x):∀c∈x.cells,c.one=true:=by
 obtain⟨o,n,E,sub⟩:=f;obtain⟨t,A,D,ys,rfl,_⟩:=h.mk;intro c hc;simp only[IV.cells,dN,ga,fe] at hc;rcases hc with rfl|rfl|rfl|rfl<;>rfl
def IsTms.cells_one:∀ {D:List Tm}{A:List IV},IsTms D A->∀c∈A.flatMap IV.cells,c.one=true
 | [],A,h,c,hc=>by simp only[IsTms] at h;subst h;cases hc
 | a::D,A,h,c,hc=>by
  simp only[IsTms] at h;obtain⟨y,ys,rfl,E,h⟩:=h;rw[eC,dR] at hc;rcases hc with hc|hc
  ·exact E.cells_one c hc
  ·exact IsTms.cells_one h c hc
def IsFms.cells_one:∀ {D:List Fm}{A:List IV},IsFms D A->∀c∈A.flatMap IV.cells,c.one=true
 | [],A,h,c,hc=>by simp only[IsFms] at h;subst h;cases hc
 | a::D,A,h,c,hc=>by
  simp only[IsFms] at h;obtain⟨y,ys,rfl,E,h⟩:=h;rw[eC,dR] at hc;rcases hc with hc|hc
  ·exact E.cells_one c hc
  ·exact IsFms.cells_one h c hc
def IsTmD (t:Tm)(x:IV):Prop:=IsTm t x/\dfr x
def IsTmsD (l:List Tm)(A:List IV):Prop:=IsTms l A/\dfrs A
def IsFmD (f:Fm)(x:IV):Prop:=IsFm f x/\dfr x
def IsFmsD (l:List Fm)(A:List IV):Prop:=IsFms l A/\dfrs A
def IsTmsD.len {D:List Tm}{A:List IV}(h:IsTmsD D A):A.length=D.length:=h.1.len
def IsFmsD.len {D:List Fm}{A:List IV}(h:IsFmsD D A):A.length=D.length:=h.1.len
def IsTmsD.append {E D:List Tm}{A ys:List IV}(h:IsTmsD E A)(k:IsTmsD D ys):IsTmsD (E++D) (A++ys):=⟨h.1.append k.1,wT h.2 k.2⟩
def IsFmsD.append {E D:List Fm}{A ys:List IV}(h:IsFmsD E A)(k:IsFmsD D ys):IsFmsD (E++D) (A++ys):=⟨h.1.append k.1,wT h.2 k.2⟩
def IsTmsD.one {a:Tm}{x:IV}(h:IsTmD a x):IsTmsD [a] [x]:=⟨IsTms.one h.1,h.2,trivial⟩
def IsFmsD.one {a:Fm}{x:IV}(h:IsFmD a x):IsFmsD [a] [x]:=⟨IsFms.one h.1,h.2,trivial⟩
def IsTmsD.nil:IsTmsD [] []:=⟨rfl,trivial⟩
def IsFmsD.nil:IsFmsD [] []:=⟨rfl,trivial⟩
def IsTmD.mk {v:Bool}{n:ByteArray}{D:List Tm}{x:IV}(h:IsTmD (.mk v n D) x):∃t A,x=.agg [v,n,.sl t A]/\okEs t 3/\IsTms D A:=h.1.mk
def IsFmD.mk {op:Nat}{n:ByteArray}{E:List Tm}{sub:List Fm}{x:IV}(h:IsFmD (.mk op n E sub) x) :
  ∃t A D ys,x=.agg [.raw (.int .u8 op),n,.sl t A,.sl D ys]/\op<256/\okEs t 3/\IsTms E A/\okEs D 4/\IsFms sub ys:=h.1.mk
def IsTmD.intro {v:Bool}{n:ByteArray}{us:List Tm}{t:Tag}{A:List IV}(D:okEs t 3)(E:appT us.length t)(h:IsTmsD us A):IsTmD (.mk v n us) (.agg [v,n,.sl t A]):=by
 have h1:IsTm (.mk v n us) (.agg [v,n,.sl t A]):=⟨t,A,rfl,D,h.1⟩
 refine⟨h1,?_⟩;simp only[dfr,dfrs,and_true,true_and];exact⟨⟨(E.to h.1.len).up,h.2,h.1.cells_one⟩,h1.cells_one⟩
def IsFmD.intro {op:Nat}{n:ByteArray}{us:List Tm}{sub:List Fm}{t A:Tag}{D ys:List IV}(O:op<256)(U:okEs t 3)(ha:appT us.length t)(h:IsTmsD us D)(G:okEs A 4)(J:appT sub.length A)(E:IsFmsD sub ys) :
  IsFmD (.mk op n us sub) (.agg [.raw (.int .u8 op),n,.sl t D,.sl A ys]):=by
 have h1:IsFm (.mk op n us sub) (.agg [.raw (.int .u8 op),n,.sl t D,.sl A ys]):=⟨t,D,A,ys,rfl,O,U,h.1,G,E.1⟩
 refine⟨h1,?_⟩;simp only[dfr,dfrs,and_true,true_and];exact⟨⟨⟨(ha.to h.1.len).up,h.2,h.1.cells_one⟩,(J.to E.1.len).up,E.2,E.1.cells_one⟩,h1.cells_one⟩
def wX {t:Tag}{n:Nat}(h:okEs t n):okEs ⟨false,t.cap,t.es⟩ n:=h
mutual
def IsTm.aged:∀ {t:Tm}{x:IV},IsTm t x->IsTm t (age x)
 | .mk v n G,x,h=>by
  obtain⟨t,E,rfl,D,A⟩:=h.mk;simp only[age,ages];exact⟨_,_,rfl,wX D,IsTms.aged A⟩
def IsTms.aged:∀ {D:List Tm}{A:List IV},IsTms D A->IsTms D (ages A)
 | [],A,h=>by simp only[IsTms] at h;subst h;rfl
 | a::D,A,h=>by
  simp only[IsTms] at h;obtain⟨y,ys,rfl,E,h⟩:=h;exact⟨_,_,rfl,IsTm.aged E,IsTms.aged h⟩
end
mutual
def IsFm.aged:∀ {f:Fm}{x:IV},IsFm f x->IsFm f (age x)
 | .mk o n U sub,x,h=>by
  obtain⟨t,J,O,ys,rfl,E,G,A,D,hys⟩:=h.mk;simp only[age,ages];exact⟨_,_,_,_,rfl,E,wX G,A.aged,wX D,IsFms.aged hys⟩
def IsFms.aged:∀ {D:List Fm}{A:List IV},IsFms D A->IsFms D (ages A)
 | [],A,h=>by simp only[IsFms] at h;subst h;rfl
 | a::D,A,h=>by
  simp only[IsFms] at h;obtain⟨y,ys,rfl,E,h⟩:=h;exact⟨_,_,rfl,IsFm.aged E,IsFms.aged h⟩
end
def strI (l:List ByteArray):List IV:=l.map λs=>.raw (.string s)
def J2 (l:List ByteArray):(strI l).length=l.length:=by simp[strI]
def Ca {l:List ByteArray}{k:Nat}{s:ByteArray}(h:l[k]?=some s):(strI l)[k]?=some (.raw (.string s)):=by simp[strI,h]
def dE {α:Type}{l:List α}{k:Nat}{x:α}(h:l[k]?=some x):l.take (k+1)=l.take k++[x]:=by
 rw[List.take_succ_eq_append_getElem (lGs h).1];grind
def dB {α:Type}{l:List α}{k:Nat}(h:k<l.length):∃x,l[k]?=some x:=⟨l[k],dO h⟩
def lt_i {a b:Nat}(h:a<b):decide ((a:Int)<(b:Int))=true:=by simp;omega
def dF {a b:Nat}(h:¬ a<b):decide ((a:Int)<(b:Int))=false:=by simp;omega
def dC {k n:Nat}(h:k<n)(A:n<=281474976710656):IntKind.i64.wrap ((k:Int)+1)=((k+1:Nat):Int):=by rw[w64]<;>omega
def inB (lo A:Nat)(c:UInt8):Bool:=decide (lo<=c.toNat)&&decide (c.toNat<=A)
def kW (c:UInt8):Bool:=inB 48 57 c
def mK (c:UInt8):Bool:=inB 97 122 c
def lJ (c:UInt8):Bool:=inB 65 90 c
def ma (c:UInt8):Bool:=mK c || lJ c || kW c
def wAll:ByteArray:=⟨#[97,108,108]⟩
def rj:ByteArray:=⟨#[115,111,109,101]⟩
def rk:ByteArray:=⟨#[102,97,108,115,101]⟩
def rm:ByteArray:=⟨#[110,101,120,116]⟩
def rn:ByteArray:=⟨#[97,108,119,97,121,115]⟩
def rp:ByteArray:=⟨#[117,110,116,105,108]⟩
def nJ (s:ByteArray):Bool:=decide (s=wAll) || decide (s=rj) || decide (s=rk) || decide (s=rm) || decide (s=rn) || decide (s=rp)
def jq (p q:UInt8->Bool)(s:ByteArray):Bool :=
 match s.data.toList with
 | []=>false
 | c::cs=>decide (cs.length<16)&&!nJ s&&p c&&cs.all q
def iy (s:ByteArray):Bool:=jq (inB 117 122) kW s
def tP (s:ByteArray):Bool:=jq (inB 97 116) ma s
def oA (s:ByteArray):Bool:=jq lJ ma s
mutual
def Tm.ok:Tm->Bool
 | .mk true n l=>l.isEmpty&&iy n
 | .mk false n l=>decide (l.length<=4)&&tP n&&jf l
def jf:List Tm->Bool
 | []=>true
 | a::l=>a.ok&&jf l
end
mutual
def Tm.size:Tm->Nat
 | .mk _ _ l=>dP l+1
def dP:List Tm->Nat
 | []=>0
 | a::l=>a.size+dP l
end
mutual
def Tm.deep:Tm->Nat
 | .mk _ _ l=>eu l+1
def eu:List Tm->Nat
 | []=>0
 | a::l=>max a.deep (eu l)
end
def fV (op:Nat)(n:ByteArray)(A ls:Nat):Bool :=
 match op with
 | 1=>oA n&&decide (A<=4)&&decide (ls=0)
 | 2=>decide (n=⟨#[]⟩)&&decide (A=0)&&decide (ls=0)
 | 3|10|11|12|13=>decide (n=⟨#[]⟩)&&decide (A=0)&&decide (ls=1)
 | 4|5|6|7|14=>decide (n=⟨#[]⟩)&&decide (A=0)&&decide (ls=2)
 | 8|9=>iy n&&decide (A=0)&&decide (ls=1)
 | _=>false
mutual
def Fm.ok:Fm->Bool
 | .mk op n l sub=>fV op n l.length sub.length&&jf l&&gj sub
def gj:List Fm->Bool
 | []=>true
 | a::l=>a.ok&&gj l
end
mutual
def Fm.size:Fm->Nat
 | .mk _ _ l sub=>dP l+dL sub+1
def dL:List Fm->Nat
 | []=>0
 | a::l=>a.size+dL l
end
mutual
def Fm.deep:Fm->Nat
 | .mk _ _ l sub=>max (eu l) (eU sub)+1
def eU:List Fm->Nat
 | []=>0
 | a::l=>max a.deep (eU l)
end
def Fm.right (f:Fm):Bool:=f.ok&&decide (f.size<=400)&&decide (f.deep<=40)
def Tm.size_pos (t:Tm):0<t.size:=by cases t;simp[Tm.size]
def Fm.size_pos (f:Fm):0<f.size:=by cases f;simp[Fm.size]
def Tm.deep_pos (t:Tm):0<t.deep:=by cases t;simp[Tm.deep]
def Fm.deep_pos (f:Fm):0<f.deep:=by cases f;simp[Fm.deep]
mutual
def Tm.deep_le:∀t:Tm,t.deep<=t.size
 | .mk _ _ l=>by simp only[Tm.deep,Tm.size];have:=Cb l;omega
def Cb:∀l:List Tm,eu l<=dP l
 | []=>dJ _
 | a::l=>by simp only[eu,dP];have:=Tm.deep_le a;have:=Cb l;omega
end
def wY:∀(l m:List Tm),dP (l++m)=dP l+dP m
 | [],m=>by simp[dP]
 | a::l,m=>by simp only[ed,dP,wY l m];omega
def wZ:∀(l m:List Fm),dL (l++m)=dL l+dL m
 | [],m=>by simp[dL]
 | a::l,m=>by simp only[ed,dL,wZ l m];omega
def w9:∀(l m:List Tm),eu (l++m)=max (eu l) (eu m)
 | [],m=>by simp[eu]
 | a::l,m=>by simp only[ed,eu,w9 l m];omega
def w_:∀(l m:List Fm),eU (l++m)=max (eU l) (eU m)
 | [],m=>by simp[eU]
 | a::l,m=>by simp only[ed,eU,w_ l m];omega
def mc {l:List Tm}{k:Nat}{a:Tm}(h:l[k]?=some a):dP (l.take (k+1))=dP (l.take k)+a.size/\dP (l.take k)+a.size<=dP l:=by
 have h1:dP (l.take (k+1))=dP (l.take k)+a.size:=by rw[dE h,wY];simp[dP]
 refine⟨h1,?_⟩;rw[<- h1]
 conv=>rhs;rw[<- el (k+1) l,wY]
 omega
def jr {l:List Fm}{k:Nat}{a:Fm}(h:l[k]?=some a):dL (l.take (k+1))=dL (l.take k)+a.size/\dL (l.take k)+a.size<=dL l:=by
 have h1:dL (l.take (k+1))=dL (l.take k)+a.size:=by rw[dE h,wZ];simp[dL]
 refine⟨h1,?_⟩;rw[<- h1]
 conv=>rhs;rw[<- el (k+1) l,wZ]
 omega
