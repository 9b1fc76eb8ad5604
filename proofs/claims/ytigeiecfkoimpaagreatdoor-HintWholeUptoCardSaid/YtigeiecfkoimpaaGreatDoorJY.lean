/- Walks: Free, FreeTerm, Bound, Fresh. -/
import Derived.Test.YtigeiecfkoimpaaGreatDoorJX
set_option linter.all false
open Nat renaming reduceEqDiff → zE,reduceAdd → zA,reduceLeDiff → zL
namespace Go.Proofs.Tryz
open Go Go.Iv
set_option maxRecDepth 4000
variable (gl:Nat->Option IV)
def LG (G:Gt gl)(f:Fm)(x:IV)(hx:IsFm f x)(hs:f.size<=1099511627776)(hn:∀s∈frF f,s.size<=281474976710656)(st:ISt) :
  ICall prog gl 124 [x] st (λr st'=>∃O l,r=.sl O (strI l)/\okEs O 1/\xV (frF f) l/\st'=st):=by
 have D:=λst=>uj gl f x hx st;have E:=λst=>uk gl 194 [.cptr x] (oI f) st (by simp only[go_sem]) (λI=>uo gl f x hx (by omega) I);rw[ux] at E;obtain⟨ks,ac,J,aj⟩:=LB (frF f);have ak:=uB f;obtain⟨o,n,us,sub⟩:=f;obtain⟨t1,x1,t2,x2,rfl,_⟩:=hx.mk;refine iI func124 ?_;simp only[go_sem,zE,zA,zL];refine (D _).q ?_;simp only[go_sem,zA];refine (E _).mono ?_;rintro _ _ ⟨m,hm,rfl,rfl⟩;simp only[go_sem,zA];refine (LC gl m _).mono ?_;rintro _ _ ⟨b,hb,rfl,rfl⟩;have ae:m≠b:=mO (b_ st m _) hb;have hc:=LD gl G m b _ ks ac (λk h=>hn k ((J k).1 h)) (by omega) _ (b_ (st.put m _) b _) (by rw[dz ae,b_]);unfold xW at hc ⊢;simp only[go_sem,zA];refine hc.mono ?_;rintro _ _ ⟨O,l,rfl,ab,hl,rfl⟩;simp only[go_sem];refine eI (st':=st) ?_ ⟨O,l,rfl,ab,⟨hl.1,λy=>(hl.2 y).trans (J y)⟩,rfl⟩;exact (fb hm).trans (fb hb)
def addE (es:List (Value×IV))(l:List ByteArray):List (Value×IV):=l.foldl (λes s=>updI (.string s) true es) es
def Du (es:List (Value×IV))(l m:List ByteArray):addE es (l++m)=addE (addE es l) m:=by simp[addE]
