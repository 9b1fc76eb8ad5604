/- Walks: Free, FreeTerm, Bound, Fresh. -/
import Derived.Test.YtakbihknkdpmgaaGreatDoorJX
set_option linter.all false
open Nat renaming reduceEqDiff → zE,reduceAdd → zA,reduceLeDiff → zL
namespace Go.Proofs.Tryz
open Go Go.Iv
set_option maxRecDepth 4000
variable (gl:Nat->Option IV)
def Lv (G:Gt gl)(f:Fm)(x:IV)(O:IsFm f x)(hs:f.size<=1099511627776)(hn:∀s∈frF f,s.size<=281474976710656)(st:ISt) :
  ICall prog gl 139 [x] st (λr st'=>∃J l,r=.sl J (strI l)/\okEs J 1/\xH (frF f) l/\st'=st):=by
 have A:=λst=>tX gl f x O st;have D:=λst=>tY gl 229 [.cptr x] (oC f) st (by simp only[go_sem]) (λI=>t_ gl f x O (by omega) I);rw[uh] at D;obtain⟨ks,aa,E,ah⟩:=Lr (frF f);have ai:=um f;obtain⟨o,n,us,sub⟩:=f;obtain⟨t1,x1,t2,x2,rfl,_⟩:=O.mk;refine iI func139 ?_;simp only[go_sem,zE,zA,zL];refine (A _).q ?_;simp only[go_sem,zA];refine (D _).mono ?_;rintro _ _ ⟨m,hm,rfl,rfl⟩;simp only[go_sem,zA];refine (Ls gl m _).mono ?_;rintro _ _ ⟨b,hb,rfl,rfl⟩;have ab:m≠b:=mJ (b_ st m _) hb;have hc:=Lt gl G m b _ ks aa (λk h=>hn k ((E k).1 h)) (by omega) _ (b_ (st.put m _) b _) (by rw[dw ab,b_]);unfold xI at hc ⊢;simp only[go_sem,zA];refine hc.mono ?_;rintro _ _ ⟨J,l,rfl,U,hl,rfl⟩;simp only[go_sem];refine ez (st':=st) ?_ ⟨J,l,rfl,U,⟨hl.1,λy=>(hl.2 y).trans (E y)⟩,rfl⟩;exact (ff hm).trans (ff hb)
def addE (es:List (Value×IV))(l:List ByteArray):List (Value×IV):=l.foldl (λes s=>updI (.string s) true es) es
def Dg (es:List (Value×IV))(l m:List ByteArray):addE es (l++m)=addE (addE es l) m:=by simp[addE]
