/- Terms and formulas as plain data, and ho -/
import Derived.Test.YtofmbookakncjabGreatDoorJI
set_option linter.all false
namespace Go.Iv
open Go
inductive Tm where
 | mk (v:Bool) (n:ByteArray) (aL:List Tm)
inductive Fm where
 | mk (op:Nat) (n:ByteArray) (aL:List Tm) (sub:List Fm)
mutual
def IsTm:Tm->IV->Prop
 | .mk v n D,x=>∃t A,x=.agg [v,n,.sl t A]/\okEs t 3/\IsTms D A
def IsTms:List Tm->List IV->Prop
 | [],A=>A=[]
 | a::D,A=>∃y ys,A=y::ys/\IsTm a y/\IsTms D ys
end
mutual
def IsFm:Fm->IV->Prop
 | .mk op n E sub,x=>∃t A D ys,x=.agg [.raw (.int .u8 op),n,.sl t A,.sl D ys]/\op<256/\okEs t 3/\IsTms E A/\okEs D 4/\IsFms sub ys
def IsFms:List Fm->List IV->Prop
 | [],A=>A=[]
 | a::D,A=>∃y ys,A=y::ys/\IsFm a y/\IsFms D ys
end
def IsTms.len:∀ {D:List Tm}{A:List IV},IsTms D A->A.length=D.length
 | [],A,h=>by simp only[IsTms] at h;subst h;rfl
 | a::D,A,h=>by
  simp only[IsTms] at h;obtain⟨y,ys,rfl,_,h⟩:=h;simp[IsTms.len h]
def IsTms.get:∀ {E:List Tm}{D:List IV}{k:Nat}{a:Tm},IsTms E D->E[k]?=some a->∃x,D[k]?=some x/\IsTm a x
 | [],D,k,a,h,A=>by simp at A
 | b::E,D,k,a,h,A=>by
  simp only[IsTms] at h;obtain⟨y,ys,rfl,G,h⟩:=h;cases k with
  | zero=>simp at A;subst A;exact⟨y,rfl,G⟩
  | succ k=>simpa using IsTms.get h (by simpa using A)
def IsFms.len:∀ {D:List Fm}{A:List IV},IsFms D A->A.length=D.length
 | [],A,h=>by simp only[IsFms] at h;subst h;rfl
 | a::D,A,h=>by
  simp only[IsFms] at h;obtain⟨y,ys,rfl,_,h⟩:=h;simp[IsFms.len h]
def IsFms.get:∀ {E:List Fm}{D:List IV}{k:Nat}{a:Fm},IsFms E D->E[k]?=some a->∃x,D[k]?=some x/\IsFm a x
 | [],D,k,a,h,A=>by simp at A
 | b::E,D,k,a,h,A=>by
  simp only[IsFms] at h;obtain⟨y,ys,rfl,G,h⟩:=h;cases k with
  | zero=>simp at A;subst A;exact⟨y,rfl,G⟩
  | succ k=>simpa using IsFms.get h (by simpa using A)
def IsTm.mk {v:Bool}{n:ByteArray}{D:List Tm}{x:IV}(h:IsTm (.mk v n D) x):∃t A,x=.agg [v,n,.sl t A]/\okEs t 3/\IsTms D A:=by
 simpa only[IsTm] using h
def IsFm.mk {op:Nat}{n:ByteArray}{E:List Tm}{sub:List Fm}{x:IV}(h:IsFm (.mk op n E sub) x) :
  ∃t A D ys,x=.agg [.raw (.int .u8 op),n,.sl t A,.sl D ys]/\op<256/\okEs t 3/\IsTms E A/\okEs D 4/\IsFms sub ys:=by
 simpa only[IsFm] using h
def IsTms.append:∀ {E D:List Tm}{A ys:List IV},IsTms E A->IsTms D ys->IsTms (E++D) (A++ys)
 | [],D,A,ys,h,k=>by simp only[IsTms] at h;subst h;exact k
 | a::E,D,A,ys,h,k=>by
  simp only[IsTms] at h;obtain⟨y,zs,rfl,G,h⟩:=h;exact⟨y,zs++ys,rfl,G,IsTms.append h k⟩
def IsFms.append:∀ {E D:List Fm}{A ys:List IV},IsFms E A->IsFms D ys->IsFms (E++D) (A++ys)
 | [],D,A,ys,h,k=>by simp only[IsFms] at h;subst h;exact k
 | a::E,D,A,ys,h,k=>by
  simp only[IsFms] at h;obtain⟨y,zs,rfl,G,h⟩:=h;exact⟨y,zs++ys,rfl,G,IsFms.append h k⟩
def IsTms.one {a:Tm}{x:IV}(h:IsTm a x):IsTms [a] [x]:=⟨x,[],rfl,h,rfl⟩
def IsFms.one {a:Fm}{x:IV}(h:IsFm a x):IsFms [a] [x]:=⟨x,[],rfl,h,rfl⟩
def IsTm.cells_one {t:Tm}{x:IV}(h:IsTm t x):∀c∈x.cells,c.one=true:=by
 obtain⟨v,n,D⟩:=t;obtain⟨t,A,rfl,_⟩:=h.mk;intro c hc;simp only[IV.cells,eK,h_,gq] at hc;rcases hc with rfl|rfl|rfl<;>rfl
def IsFm.cells_one {f:Fm}{x:IV}(h:IsFm f x):∀c∈x.cells,c.one=true:=by
 obtain⟨o,n,E,sub⟩:=f;obtain⟨t,A,D,ys,rfl,_⟩:=h.mk;intro c hc;simp only[IV.cells,eK,h_,gq] at hc;rcases hc with rfl|rfl|rfl|rfl<;>rfl
def IsTms.cells_one:∀ {D:List Tm}{A:List IV},IsTms D A->∀c∈A.flatMap IV.cells,c.one=true
 | [],A,h,c,hc=>by simp only[IsTms] at h;subst h;cases hc
 | a::D,A,h,c,hc=>by
  simp only[IsTms] at h;obtain⟨y,ys,rfl,E,h⟩:=h;rw[fE,eQ] at hc;rcases hc with hc|hc
  ·exact E.cells_one c hc
  ·exact IsTms.cells_one h c hc
def IsFms.cells_one:∀ {D:List Fm}{A:List IV},IsFms D A->∀c∈A.flatMap IV.cells,c.one=true
 | [],A,h,c,hc=>by simp only[IsFms] at h;subst h;cases hc
 | a::D,A,h,c,hc=>by
  simp only[IsFms] at h;obtain⟨y,ys,rfl,E,h⟩:=h;rw[fE,eQ] at hc;rcases hc with hc|hc
  ·exact E.cells_one c hc
  ·exact IsFms.cells_one h c hc
def IsTmD (t:Tm)(x:IV):Prop:=IsTm t x/\dfr x
def IsTmsD (l:List Tm)(A:List IV):Prop:=IsTms l A/\dfrs A
def IsFmD (f:Fm)(x:IV):Prop:=IsFm f x/\dfr x
def IsFmsD (l:List Fm)(A:List IV):Prop:=IsFms l A/\dfrs A
def IsTmsD.len {D:List Tm}{A:List IV}(h:IsTmsD D A):A.length=D.length:=h.1.len
def IsFmsD.len {D:List Fm}{A:List IV}(h:IsFmsD D A):A.length=D.length:=h.1.len
def IsTmsD.append {E D:List Tm}{A ys:List IV}(h:IsTmsD E A)(k:IsTmsD D ys):IsTmsD (E++D) (A++ys):=⟨h.1.append k.1,zD h.2 k.2⟩
def IsFmsD.append {E D:List Fm}{A ys:List IV}(h:IsFmsD E A)(k:IsFmsD D ys):IsFmsD (E++D) (A++ys):=⟨h.1.append k.1,zD h.2 k.2⟩
def IsTmsD.one {a:Tm}{x:IV}(h:IsTmD a x):IsTmsD [a] [x]:=⟨IsTms.one h.1,h.2,trivial⟩
def IsFmsD.one {a:Fm}{x:IV}(h:IsFmD a x):IsFmsD [a] [x]:=⟨IsFms.one h.1,h.2,trivial⟩
def IsTmsD.nil:IsTmsD [] []:=⟨rfl,trivial⟩
def IsFmsD.nil:IsFmsD [] []:=⟨rfl,trivial⟩
def IsTmD.mk {v:Bool}{n:ByteArray}{D:List Tm}{x:IV}(h:IsTmD (.mk v n D) x):∃t A,x=.agg [v,n,.sl t A]/\okEs t 3/\IsTms D A:=h.1.mk
def IsFmD.mk {op:Nat}{n:ByteArray}{E:List Tm}{sub:List Fm}{x:IV}(h:IsFmD (.mk op n E sub) x) :
  ∃t A D ys,x=.agg [.raw (.int .u8 op),n,.sl t A,.sl D ys]/\op<256/\okEs t 3/\IsTms E A/\okEs D 4/\IsFms sub ys:=h.1.mk
def IsTmD.intro {v:Bool}{n:ByteArray}{us:List Tm}{t:Tag}{A:List IV}(D:okEs t 3)(E:appT us.length t)(h:IsTmsD us A):IsTmD (.mk v n us) (.agg [v,n,.sl t A]):=by
 have h1:IsTm (.mk v n us) (.agg [v,n,.sl t A]):=⟨t,A,rfl,D,h.1⟩
 refine⟨h1,?_⟩;simp only[dfr,dfrs,and_true,true_and];exact⟨⟨(E.to h.1.len).up,h.2,h.1.cells_one⟩,h1.cells_one⟩
def IsFmD.intro {op:Nat}{n:ByteArray}{us:List Tm}{sub:List Fm}{t A:Tag}{D ys:List IV}(O:op<256)(U:okEs t 3)(ha:appT us.length t)(h:IsTmsD us D)(G:okEs A 4)(J:appT sub.length A)(E:IsFmsD sub ys) :
  IsFmD (.mk op n us sub) (.agg [.raw (.int .u8 op),n,.sl t D,.sl A ys]):=by
 have h1:IsFm (.mk op n us sub) (.agg [.raw (.int .u8 op),n,.sl t D,.sl A ys]):=⟨t,D,A,ys,rfl,O,U,h.1,G,E.1⟩
 refine⟨h1,?_⟩;simp only[dfr,dfrs,and_true,true_and];exact⟨⟨⟨(ha.to h.1.len).up,h.2,h.1.cells_one⟩,(J.to E.1.len).up,E.2,E.1.cells_one⟩,h1.cells_one⟩
def zI {t:Tag}{n:Nat}(h:okEs t n):okEs ⟨false,t.cap,t.es⟩ n:=h
mutual
def IsTm.aged:∀ {t:Tm}{x:IV},IsTm t x->IsTm t (age x)
 | .mk v n G,x,h=>by
  obtain⟨t,E,rfl,D,A⟩:=h.mk;simp only[age,ages];exact⟨_,_,rfl,zI D,IsTms.aged A⟩
def IsTms.aged:∀ {D:List Tm}{A:List IV},IsTms D A->IsTms D (ages A)
 | [],A,h=>by simp only[IsTms] at h;subst h;rfl
 | a::D,A,h=>by
  simp only[IsTms] at h;obtain⟨y,ys,rfl,E,h⟩:=h;exact⟨_,_,rfl,IsTm.aged E,IsTms.aged h⟩
end
mutual
def IsFm.aged:∀ {f:Fm}{x:IV},IsFm f x->IsFm f (age x)
 | .mk o n U sub,x,h=>by
  obtain⟨t,J,O,ys,rfl,E,G,A,D,hys⟩:=h.mk;simp only[age,ages];exact⟨_,_,_,_,rfl,E,zI G,A.aged,zI D,IsFms.aged hys⟩
def IsFms.aged:∀ {D:List Fm}{A:List IV},IsFms D A->IsFms D (ages A)
 | [],A,h=>by simp only[IsFms] at h;subst h;rfl
 | a::D,A,h=>by
  simp only[IsFms] at h;obtain⟨y,ys,rfl,E,h⟩:=h;exact⟨_,_,rfl,IsFm.aged E,IsFms.aged h⟩
end
def strI (l:List ByteArray):List IV:=l.map λs=>.raw (.string s)
def Ly (l:List ByteArray):(strI l).length=l.length:=by simp[strI]
def D_ {l:List ByteArray}{k:Nat}{s:ByteArray}(h:l[k]?=some s):(strI l)[k]?=some (.raw (.string s)):=by simp[strI,h]
def en {α:Type}{l:List α}{k:Nat}{x:α}(h:l[k]?=some x):l.take (k+1)=l.take k++[x]:=by
 rw[List.take_succ_eq_append_getElem (lGs h).1];grind
def ed {α:Type}{l:List α}{k:Nat}(h:k<l.length):∃x,l[k]?=some x:=⟨l[k],eN h⟩
def lt_i {a b:Nat}(h:a<b):decide ((a:Int)<(b:Int))=true:=by simp;omega
def eI {a b:Nat}(h:¬ a<b):decide ((a:Int)<(b:Int))=false:=by simp;omega
def ek {k n:Nat}(h:k<n)(A:n<=281474976710656):IntKind.i64.wrap ((k:Int)+1)=((k+1:Nat):Int):=by rw[w64]<;>omega
def inB (lo A:Nat)(c:UInt8):Bool:=decide (lo<=c.toNat)&&decide (c.toNat<=A)
def qX (c:UInt8):Bool:=inB 48 57 c
def t_ (c:UInt8):Bool:=inB 97 122 c
def pV (c:UInt8):Bool:=inB 65 90 c
def o_ (c:UInt8):Bool:=t_ c || pV c || qX c
def wAll:ByteArray:=⟨#[97,108,108]⟩
def zJ:ByteArray:=⟨#[115,111,109,101]⟩
def zK:ByteArray:=⟨#[102,97,108,115,101]⟩
def zN:ByteArray:=⟨#[110,101,120,116]⟩
def zO:ByteArray:=⟨#[97,108,119,97,121,115]⟩
def zP:ByteArray:=⟨#[117,110,116,105,108]⟩
def ud (s:ByteArray):Bool:=decide (s=wAll) || decide (s=zJ) || decide (s=zK) || decide (s=zN) || decide (s=zO) || decide (s=zP)
def l8 (p q:UInt8->Bool)(s:ByteArray):Bool :=
 match s.data.toList with
 | []=>false
 | c::cs=>decide (cs.length<16)&&!ud s&&p c&&cs.all q
def kJ (s:ByteArray):Bool:=l8 (inB 117 122) qX s
def vU (s:ByteArray):Bool:=l8 (inB 97 116) o_ s
def zQ (s:ByteArray):Bool:=l8 pV o_ s
mutual
def Tm.ok:Tm->Bool
 | .mk true n l=>l.isEmpty&&kJ n
 | .mk false n l=>decide (l.length<=4)&&vU n&&ka l
def ka:List Tm->Bool
 | []=>true
 | a::l=>a.ok&&ka l
end
mutual
def Tm.size:Tm->Nat
 | .mk _ _ l=>fp l+1
def fp:List Tm->Nat
 | []=>0
 | a::l=>a.size+fp l
end
mutual
def Tm.deep:Tm->Nat
 | .mk _ _ l=>gA l+1
def gA:List Tm->Nat
 | []=>0
 | a::l=>max a.deep (gA l)
end
def iE (op:Nat)(n:ByteArray)(A ls:Nat):Bool :=
 match op with
 | 1=>zQ n&&decide (A<=4)&&decide (ls=0)
 | 2=>decide (n=⟨#[]⟩)&&decide (A=0)&&decide (ls=0)
 | 3|10|11|12|13=>decide (n=⟨#[]⟩)&&decide (A=0)&&decide (ls=1)
 | 4|5|6|7|14=>decide (n=⟨#[]⟩)&&decide (A=0)&&decide (ls=2)
 | 8|9=>kJ n&&decide (A=0)&&decide (ls=1)
 | _=>false
mutual
def Fm.ok:Fm->Bool
 | .mk op n l sub=>iE op n l.length sub.length&&ka l&&jR sub
def jR:List Fm->Bool
 | []=>true
 | a::l=>a.ok&&jR l
end
mutual
def Fm.size:Fm->Nat
 | .mk _ _ l sub=>fp l+eS sub+1
def eS:List Fm->Nat
 | []=>0
 | a::l=>a.size+eS l
end
mutual
def Fm.deep:Fm->Nat
 | .mk _ _ l sub=>max (gA l) (gZ sub)+1
def gZ:List Fm->Nat
 | []=>0
 | a::l=>max a.deep (gZ l)
end
def Fm.right (f:Fm):Bool:=f.ok&&decide (f.size<=400)&&decide (f.deep<=40)
def Tm.size_pos (t:Tm):0<t.size:=by cases t;simp[Tm.size]
def Fm.size_pos (f:Fm):0<f.size:=by cases f;simp[Fm.size]
def Tm.deep_pos (t:Tm):0<t.deep:=by cases t;simp[Tm.deep]
def Fm.deep_pos (f:Fm):0<f.deep:=by cases f;simp[Fm.deep]
mutual
def Tm.deep_le:∀t:Tm,t.deep<=t.size
 | .mk _ _ l=>by simp only[Tm.deep,Tm.size];have:=Ea l;omega
def Ea:∀l:List Tm,gA l<=fp l
 | []=>eu _
 | a::l=>by simp only[gA,fp];have:=Tm.deep_le a;have:=Ea l;omega
end
def zR:∀(l m:List Tm),fp (l++m)=fp l+fp m
 | [],m=>by simp[fp]
 | a::l,m=>by simp only[fq,fp,zR l m];omega
def zT:∀(l m:List Fm),eS (l++m)=eS l+eS m
 | [],m=>by simp[eS]
 | a::l,m=>by simp only[fq,eS,zT l m];omega
def zU:∀(l m:List Tm),gA (l++m)=max (gA l) (gA m)
 | [],m=>by simp[gA]
 | a::l,m=>by simp only[fq,gA,zU l m];omega
def zV:∀(l m:List Fm),gZ (l++m)=max (gZ l) (gZ m)
 | [],m=>by simp[gZ]
 | a::l,m=>by simp only[fq,gZ,zV l m];omega
def oe {l:List Tm}{k:Nat}{a:Tm}(h:l[k]?=some a):fp (l.take (k+1))=fp (l.take k)+a.size/\fp (l.take k)+a.size<=fp l:=by
 have h1:fp (l.take (k+1))=fp (l.take k)+a.size:=by rw[en h,zR];simp[fp]
 refine⟨h1,?_⟩;rw[<- h1]
 conv=>rhs;rw[<- fh (k+1) l,zR]
 omega
def kW {l:List Fm}{k:Nat}{a:Fm}(h:l[k]?=some a):eS (l.take (k+1))=eS (l.take k)+a.size/\eS (l.take k)+a.size<=eS l:=by
 have h1:eS (l.take (k+1))=eS (l.take k)+a.size:=by rw[en h,zT];simp[eS]
 refine⟨h1,?_⟩;rw[<- h1]
 conv=>rhs;rw[<- fh (k+1) l,zT]
 omega
