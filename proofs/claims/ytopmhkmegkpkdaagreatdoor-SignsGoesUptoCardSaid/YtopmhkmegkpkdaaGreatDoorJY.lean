/- Walks: Free, FreeTerm, Bound, Fresh. -/
import Derived.Test.YtopmhkmegkpkdaaGreatDoorJX
set_option linter.all false
open Nat renaming reduceEqDiff → zE,reduceAdd → zA,reduceLeDiff → zL
namespace Go.Proofs.Tryz
open Go Go.Iv
set_option maxRecDepth 4000
variable (gl:Nat->Option IV)
def K_ (G:Gt gl)(f:Fm)(x:IV)(hx:IsFm f x)(hs:f.size<=1099511627776)(hn:∀s∈frF f,s.size<=281474976710656)(st:ISt) :
  ICall prog gl 205 [x] st (λr st'=>∃O l,r=.sl O (strI l)/\okEs O 1/\wK (frF f) l/\st'=st):=by
 have A:=λst=>wq gl f x hx st;have D:=λst=>wt gl 270 [.cptr x] (pY f) st (by simp only[go_sem]) (λI=>wu gl f x hx (by omega) I);rw[wB] at D;obtain⟨ks,W,E,ah⟩:=K5 (frF f);have ai:=wG f;obtain⟨o,n,us,sub⟩:=f;obtain⟨t1,x1,t2,x2,rfl,_⟩:=hx.mk;refine iI func205 ?_;simp only[go_sem,zE,zA,zL];refine (A _).q ?_;simp only[go_sem,zA];refine (D _).mono ?_;rintro _ _ ⟨m,hm,rfl,rfl⟩;simp only[go_sem,zA];refine (K6 gl m _).mono ?_;rintro _ _ ⟨b,hb,rfl,rfl⟩;have aa:m≠b:=rk (cT st m _) hb;have hc:=K7 gl G m b _ ks W (λk h=>hn k ((E k).1 h)) (by omega) _ (cT (st.put m _) b _) (by rw[de aa,cT]);unfold wL at hc ⊢;simp only[go_sem,zA];refine hc.mono ?_;rintro _ _ ⟨O,l,rfl,U,hl,rfl⟩;simp only[go_sem];refine dZ (st':=st) ?_ ⟨O,l,rfl,U,⟨hl.1,λy=>(hl.2 y).trans (E y)⟩,rfl⟩;exact (fj hm).trans (fj hb)
def addE (es:List (Value×IV))(l:List ByteArray):List (Value×IV):=l.foldl (λes s=>updI (.string s) true es) es
def CM (es:List (Value×IV))(l m:List ByteArray):addE es (l++m)=addE (addE es l) m:=by simp[addE]
