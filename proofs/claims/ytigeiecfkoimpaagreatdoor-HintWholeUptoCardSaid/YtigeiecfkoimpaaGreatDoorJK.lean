/- Terms and formulas as plain data, and ho -/
import Derived.Test.YtigeiecfkoimpaaGreatDoorJI
set_option linter.all false
namespace Go.Iv
open Go
inductive Tm where
 | mk (v:Bool) (n:ByteArray) (aL:List Tm)
inductive Fm where
 | mk (op:Nat) (n:ByteArray) (aL:List Tm) (sub:List Fm)
mutual
def IsTm:Tm->IV->Prop
 | .mk v n D,x=>∃t xs,x=.agg [v,n,.sl t xs]/\okEs t 3/\IsTms D xs
def IsTms:List Tm->List IV->Prop
 | [],xs=>xs=[]
 | a::D,xs=>∃y ys,xs=y::ys/\IsTm a y/\IsTms D ys
end
mutual
def IsFm:Fm->IV->Prop
 | .mk op n E sub,x=>∃t xs D ys,x=.agg [.raw (.int .u8 op),n,.sl t xs,.sl D ys]/\op<256/\okEs t 3/\IsTms E xs/\okEs D 4/\IsFms sub ys
def IsFms:List Fm->List IV->Prop
 | [],xs=>xs=[]
 | a::D,xs=>∃y ys,xs=y::ys/\IsFm a y/\IsFms D ys
end
def IsTms.len:∀ {D:List Tm}{xs:List IV},IsTms D xs->xs.length=D.length
 | [],xs,h=>by simp only[IsTms] at h;subst h;rfl
 | a::D,xs,h=>by
  simp only[IsTms] at h;obtain⟨y,ys,rfl,_,h⟩:=h;simp[IsTms.len h]
def IsTms.get:∀ {E:List Tm}{xs:List IV}{k:Nat}{a:Tm},IsTms E xs->E[k]?=some a->∃x,xs[k]?=some x/\IsTm a x
 | [],xs,k,a,h,D=>by simp at D
 | b::E,xs,k,a,h,D=>by
  simp only[IsTms] at h;obtain⟨y,ys,rfl,G,h⟩:=h;cases k with
  | zero=>simp at D;subst D;exact⟨y,rfl,G⟩
  | succ k=>simpa using IsTms.get h (by simpa using D)
def IsFms.len:∀ {D:List Fm}{xs:List IV},IsFms D xs->xs.length=D.length
 | [],xs,h=>by simp only[IsFms] at h;subst h;rfl
 | a::D,xs,h=>by
  simp only[IsFms] at h;obtain⟨y,ys,rfl,_,h⟩:=h;simp[IsFms.len h]
def IsFms.get:∀ {E:List Fm}{xs:List IV}{k:Nat}{a:Fm},IsFms E xs->E[k]?=some a->∃x,xs[k]?=some x/\IsFm a x
 | [],xs,k,a,h,D=>by simp at D
 | b::E,xs,k,a,h,D=>by
  simp only[IsFms] at h;obtain⟨y,ys,rfl,G,h⟩:=h;cases k with
  | zero=>simp at D;subst D;exact⟨y,rfl,G⟩
  | succ k=>simpa using IsFms.get h (by simpa using D)
def IsTm.mk {v:Bool}{n:ByteArray}{D:List Tm}{x:IV}(h:IsTm (.mk v n D) x):∃t xs,x=.agg [v,n,.sl t xs]/\okEs t 3/\IsTms D xs:=by
 simpa only[IsTm] using h
def IsFm.mk {op:Nat}{n:ByteArray}{E:List Tm}{sub:List Fm}{x:IV}(h:IsFm (.mk op n E sub) x) :
  ∃t xs D ys,x=.agg [.raw (.int .u8 op),n,.sl t xs,.sl D ys]/\op<256/\okEs t 3/\IsTms E xs/\okEs D 4/\IsFms sub ys:=by
 simpa only[IsFm] using h
def IsTms.append:∀ {E D:List Tm}{xs ys:List IV},IsTms E xs->IsTms D ys->IsTms (E++D) (xs++ys)
 | [],D,xs,ys,h,k=>by simp only[IsTms] at h;subst h;exact k
 | a::E,D,xs,ys,h,k=>by
  simp only[IsTms] at h;obtain⟨y,zs,rfl,G,h⟩:=h;exact⟨y,zs++ys,rfl,G,IsTms.append h k⟩
def IsFms.append:∀ {E D:List Fm}{xs ys:List IV},IsFms E xs->IsFms D ys->IsFms (E++D) (xs++ys)
 | [],D,xs,ys,h,k=>by simp only[IsFms] at h;subst h;exact k
 | a::E,D,xs,ys,h,k=>by
  simp only[IsFms] at h;obtain⟨y,zs,rfl,G,h⟩:=h;exact⟨y,zs++ys,rfl,G,IsFms.append h k⟩
def IsTms.one {a:Tm}{x:IV}(h:IsTm a x):IsTms [a] [x]:=⟨x,[],rfl,h,rfl⟩
def IsFms.one {a:Fm}{x:IV}(h:IsFm a x):IsFms [a] [x]:=⟨x,[],rfl,h,rfl⟩
def IsTm.cells_one {t:Tm}{x:IV}(h:IsTm t x):∀c∈x.cells,c.one=true:=by
 obtain⟨v,n,D⟩:=t;obtain⟨t,xs,rfl,_⟩:=h.mk;intro c hc;simp only[IV.cells,dF,fJ,eU] at hc;rcases hc with rfl|rfl|rfl<;>rfl
def IsFm.cells_one {f:Fm}{x:IV}(h:IsFm f x):∀c∈x.cells,c.one=true:=by
 obtain⟨o,n,E,sub⟩:=f;obtain⟨t,xs,D,ys,rfl,_⟩:=h.mk;intro c hc;simp only[IV.cells,dF,fJ,eU] at hc;rcases hc with rfl|rfl|rfl|rfl<;>rfl
def IsTms.cells_one:∀ {D:List Tm}{xs:List IV},IsTms D xs->∀c∈xs.flatMap IV.cells,c.one=true
 | [],xs,h,c,hc=>by simp only[IsTms] at h;subst h;cases hc
 | a::D,xs,h,c,hc=>by
  simp only[IsTms] at h;obtain⟨y,ys,rfl,E,h⟩:=h;rw[eo,dQ] at hc;rcases hc with hc|hc
  ·exact E.cells_one c hc
  ·exact IsTms.cells_one h c hc
def IsFms.cells_one:∀ {D:List Fm}{xs:List IV},IsFms D xs->∀c∈xs.flatMap IV.cells,c.one=true
 | [],xs,h,c,hc=>by simp only[IsFms] at h;subst h;cases hc
 | a::D,xs,h,c,hc=>by
  simp only[IsFms] at h;obtain⟨y,ys,rfl,E,h⟩:=h;rw[eo,dQ] at hc;rcases hc with hc|hc
  ·exact E.cells_one c hc
  ·exact IsFms.cells_one h c hc
def IsTmD (t:Tm)(x:IV):Prop:=IsTm t x/\dfr x
def IsTmsD (l:List Tm)(xs:List IV):Prop:=IsTms l xs/\dfrs xs
def IsFmD (f:Fm)(x:IV):Prop:=IsFm f x/\dfr x
def IsFmsD (l:List Fm)(xs:List IV):Prop:=IsFms l xs/\dfrs xs
def IsTmsD.len {D:List Tm}{xs:List IV}(h:IsTmsD D xs):xs.length=D.length:=h.1.len
def IsFmsD.len {D:List Fm}{xs:List IV}(h:IsFmsD D xs):xs.length=D.length:=h.1.len
def IsTmsD.append {E D:List Tm}{xs ys:List IV}(h:IsTmsD E xs)(k:IsTmsD D ys):IsTmsD (E++D) (xs++ys):=⟨h.1.append k.1,xg h.2 k.2⟩
def IsFmsD.append {E D:List Fm}{xs ys:List IV}(h:IsFmsD E xs)(k:IsFmsD D ys):IsFmsD (E++D) (xs++ys):=⟨h.1.append k.1,xg h.2 k.2⟩
def IsTmsD.one {a:Tm}{x:IV}(h:IsTmD a x):IsTmsD [a] [x]:=⟨IsTms.one h.1,h.2,trivial⟩
def IsFmsD.one {a:Fm}{x:IV}(h:IsFmD a x):IsFmsD [a] [x]:=⟨IsFms.one h.1,h.2,trivial⟩
def IsTmsD.nil:IsTmsD [] []:=⟨rfl,trivial⟩
def IsFmsD.nil:IsFmsD [] []:=⟨rfl,trivial⟩
def IsTmD.mk {v:Bool}{n:ByteArray}{D:List Tm}{x:IV}(h:IsTmD (.mk v n D) x):∃t xs,x=.agg [v,n,.sl t xs]/\okEs t 3/\IsTms D xs:=h.1.mk
def IsFmD.mk {op:Nat}{n:ByteArray}{E:List Tm}{sub:List Fm}{x:IV}(h:IsFmD (.mk op n E sub) x) :
  ∃t xs D ys,x=.agg [.raw (.int .u8 op),n,.sl t xs,.sl D ys]/\op<256/\okEs t 3/\IsTms E xs/\okEs D 4/\IsFms sub ys:=h.1.mk
def IsTmD.intro {v:Bool}{n:ByteArray}{us:List Tm}{t:Tag}{xs:List IV}(D:okEs t 3)(E:appT us.length t)(h:IsTmsD us xs):IsTmD (.mk v n us) (.agg [v,n,.sl t xs]):=by
 have h1:IsTm (.mk v n us) (.agg [v,n,.sl t xs]):=⟨t,xs,rfl,D,h.1⟩
 refine⟨h1,?_⟩;simp only[dfr,dfrs,and_true,true_and];exact⟨⟨(E.to h.1.len).up,h.2,h.1.cells_one⟩,h1.cells_one⟩
def IsFmD.intro {op:Nat}{n:ByteArray}{us:List Tm}{sub:List Fm}{t D:Tag}{xs ys:List IV}(O:op<256)(he:okEs t 3)(ha:appT us.length t)(h:IsTmsD us xs)(G:okEs D 4)(J:appT sub.length D)(E:IsFmsD sub ys) :
  IsFmD (.mk op n us sub) (.agg [.raw (.int .u8 op),n,.sl t xs,.sl D ys]):=by
 have h1:IsFm (.mk op n us sub) (.agg [.raw (.int .u8 op),n,.sl t xs,.sl D ys]):=⟨t,xs,D,ys,rfl,O,he,h.1,G,E.1⟩
 refine⟨h1,?_⟩;simp only[dfr,dfrs,and_true,true_and];exact⟨⟨⟨(ha.to h.1.len).up,h.2,h.1.cells_one⟩,(J.to E.1.len).up,E.2,E.1.cells_one⟩,h1.cells_one⟩
def pL {t:Tag}{n:Nat}(h:okEs t n):okEs ⟨false,t.cap,t.es⟩ n:=h
mutual
def IsTm.aged:∀ {t:Tm}{x:IV},IsTm t x->IsTm t (age x)
 | .mk v n G,x,h=>by
  obtain⟨t,xs,rfl,E,D⟩:=h.mk;simp only[age,ages];exact⟨_,_,rfl,pL E,IsTms.aged D⟩
def IsTms.aged:∀ {D:List Tm}{xs:List IV},IsTms D xs->IsTms D (ages xs)
 | [],xs,h=>by simp only[IsTms] at h;subst h;rfl
 | a::D,xs,h=>by
  simp only[IsTms] at h;obtain⟨y,ys,rfl,E,h⟩:=h;exact⟨_,_,rfl,IsTm.aged E,IsTms.aged h⟩
end
mutual
def IsFm.aged:∀ {f:Fm}{x:IV},IsFm f x->IsFm f (age x)
 | .mk o n aL sub,x,h=>by
  obtain⟨t,xs,O,ys,rfl,G,J,D,E,hys⟩:=h.mk;simp only[age,ages];exact⟨_,_,_,_,rfl,G,pL J,D.aged,pL E,IsFms.aged hys⟩
def IsFms.aged:∀ {D:List Fm}{xs:List IV},IsFms D xs->IsFms D (ages xs)
 | [],xs,h=>by simp only[IsFms] at h;subst h;rfl
 | a::D,xs,h=>by
  simp only[IsFms] at h;obtain⟨y,ys,rfl,E,h⟩:=h;exact⟨_,_,rfl,IsFm.aged E,IsFms.aged h⟩
end
def strI (l:List ByteArray):List IV:=l.map λs=>.raw (.string s)
def Ka (l:List ByteArray):(strI l).length=l.length:=by simp[strI]
def Cn {l:List ByteArray}{k:Nat}{s:ByteArray}(h:l[k]?=some s):(strI l)[k]?=some (.raw (.string s)):=by simp[strI,h]
def dM {α:Type}{l:List α}{k:Nat}{x:α}(h:l[k]?=some x):l.take (k+1)=l.take k++[x]:=by
 rw[List.take_succ_eq_append_getElem (lGs h).1];grind
def dD {α:Type}{l:List α}{k:Nat}(h:k<l.length):∃x,l[k]?=some x:=⟨l[k],dT h⟩
def lt_i {a b:Nat}(h:a<b):decide ((a:Int)<(b:Int))=true:=by simp;omega
def dS {a b:Nat}(h:¬ a<b):decide ((a:Int)<(b:Int))=false:=by simp;omega
def dL {k n:Nat}(h:k<n)(D:n<=281474976710656):IntKind.i64.wrap ((k:Int)+1)=((k+1:Nat):Int):=by rw[w64]<;>omega
def inB (lo D:Nat)(c:UInt8):Bool:=decide (lo<=c.toNat)&&decide (c.toNat<=D)
def pM (c:UInt8):Bool:=inB 48 57 c
def rD (c:UInt8):Bool:=inB 97 122 c
def oG (c:UInt8):Bool:=inB 65 90 c
def nO (c:UInt8):Bool:=rD c || oG c || pM c
def wAll:ByteArray:=⟨#[97,108,108]⟩
def xm:ByteArray:=⟨#[115,111,109,101]⟩
def xn:ByteArray:=⟨#[102,97,108,115,101]⟩
def xo:ByteArray:=⟨#[110,101,120,116]⟩
def xp:ByteArray:=⟨#[97,108,119,97,121,115]⟩
def xq:ByteArray:=⟨#[117,110,116,105,108]⟩
def rE (s:ByteArray):Bool:=decide (s=wAll) || decide (s=xm) || decide (s=xn) || decide (s=xo) || decide (s=xp) || decide (s=xq)
def lg (p q:UInt8->Bool)(s:ByteArray):Bool :=
 match s.data.toList with
 | []=>false
 | c::cs=>decide (cs.length<16)&&!rE s&&p c&&cs.all q
def jQ (s:ByteArray):Bool:=lg (inB 117 122) pM s
def ud (s:ByteArray):Bool:=lg (inB 97 116) nO s
def xx (s:ByteArray):Bool:=lg oG nO s
mutual
def Tm.ok:Tm->Bool
 | .mk true n l=>l.isEmpty&&jQ n
 | .mk false n l=>decide (l.length<=4)&&ud n&&jq l
def jq:List Tm->Bool
 | []=>true
 | a::l=>a.ok&&jq l
end
mutual
def Tm.size:Tm->Nat
 | .mk _ _ l=>el l+1
def el:List Tm->Nat
 | []=>0
 | a::l=>a.size+el l
end
mutual
def Tm.deep:Tm->Nat
 | .mk _ _ l=>fB l+1
def fB:List Tm->Nat
 | []=>0
 | a::l=>max a.deep (fB l)
end
def gB (op:Nat)(n:ByteArray)(D ls:Nat):Bool :=
 match op with
 | 1=>xx n&&decide (D<=4)&&decide (ls=0)
 | 2=>decide (n=⟨#[]⟩)&&decide (D=0)&&decide (ls=0)
 | 3|10|11|12|13=>decide (n=⟨#[]⟩)&&decide (D=0)&&decide (ls=1)
 | 4|5|6|7|14=>decide (n=⟨#[]⟩)&&decide (D=0)&&decide (ls=2)
 | 8|9=>jQ n&&decide (D=0)&&decide (ls=1)
 | _=>false
mutual
def Fm.ok:Fm->Bool
 | .mk op n l sub=>gB op n l.length sub.length&&jq l&&iU sub
def iU:List Fm->Bool
 | []=>true
 | a::l=>a.ok&&iU l
end
mutual
def Fm.size:Fm->Nat
 | .mk _ _ l sub=>el l+dV sub+1
def dV:List Fm->Nat
 | []=>0
 | a::l=>a.size+dV l
end
mutual
def Fm.deep:Fm->Nat
 | .mk _ _ l sub=>max (fB l) (fX sub)+1
def fX:List Fm->Nat
 | []=>0
 | a::l=>max a.deep (fX l)
end
def Fm.right (f:Fm):Bool:=f.ok&&decide (f.size<=400)&&decide (f.deep<=40)
def Tm.size_pos (t:Tm):0<t.size:=by cases t;simp[Tm.size]
def Fm.size_pos (f:Fm):0<f.size:=by cases f;simp[Fm.size]
def Tm.deep_pos (t:Tm):0<t.deep:=by cases t;simp[Tm.deep]
def Fm.deep_pos (f:Fm):0<f.deep:=by cases f;simp[Fm.deep]
mutual
def Tm.deep_le:∀t:Tm,t.deep<=t.size
 | .mk _ _ l=>by simp only[Tm.deep,Tm.size];have:=Co l;omega
def Co:∀l:List Tm,fB l<=el l
 | []=>dG _
 | a::l=>by simp only[fB,el];have:=Tm.deep_le a;have:=Co l;omega
end
def xy:∀(l m:List Tm),el (l++m)=el l+el m
 | [],m=>by simp[el]
 | a::l,m=>by simp only[eu,el,xy l m];omega
def xA:∀(l m:List Fm),dV (l++m)=dV l+dV m
 | [],m=>by simp[dV]
 | a::l,m=>by simp only[eu,dV,xA l m];omega
def xB:∀(l m:List Tm),fB (l++m)=max (fB l) (fB m)
 | [],m=>by simp[fB]
 | a::l,m=>by simp only[eu,fB,xB l m];omega
def xC:∀(l m:List Fm),fX (l++m)=max (fX l) (fX m)
 | [],m=>by simp[fX]
 | a::l,m=>by simp only[eu,fX,xC l m];omega
def mP {l:List Tm}{k:Nat}{a:Tm}(h:l[k]?=some a):el (l.take (k+1))=el (l.take k)+a.size/\el (l.take k)+a.size<=el l:=by
 have h1:el (l.take (k+1))=el (l.take k)+a.size:=by rw[dM h,xy];simp[el]
 refine⟨h1,?_⟩;rw[<- h1]
 conv=>rhs;rw[<- eA (k+1) l,xy]
 omega
def j8 {l:List Fm}{k:Nat}{a:Fm}(h:l[k]?=some a):dV (l.take (k+1))=dV (l.take k)+a.size/\dV (l.take k)+a.size<=dV l:=by
 have h1:dV (l.take (k+1))=dV (l.take k)+a.size:=by rw[dM h,xA];simp[dV]
 refine⟨h1,?_⟩;rw[<- h1]
 conv=>rhs;rw[<- eA (k+1) l,xA]
 omega
