/- Walks: Free, FreeTerm, Bound, Fresh. -/
import Derived.Test.YtofmbookakncjaaGreatDoorJX
set_option linter.all false
open Nat renaming reduceEqDiff → zE,reduceAdd → zA,reduceLeDiff → zL
namespace Go.Proofs.Tryz
open Go Go.Iv
set_option maxRecDepth 4000
variable (gl:Nat->Option IV)
theorem vU9 (G:Gt gl)(f:Fm)(x:IV)(O:IsFm f x)(hs:f.size<=1099511627776)(hn:∀s∈frF f,s.size<=281474976710656)(st:ISt) :
  ICall prog gl 151 [x] st (λr st'=>∃J l,r=.sl J (strI l)/\okEs J 1/\zUp (frF f) l/\st'=st):=by
 have A:=λst=>yWv gl f x O st;have D:=λst=>wWi gl 217 [.cptr x] (xKe f) st (by simp only[go_sem]) (λI=>yVj gl f x O (by omega) I);rw[zJ4] at D;obtain⟨ks,aa,E,ah⟩:=wJd (frF f);have ai:=xYl f;obtain⟨o,n,us,sub⟩:=f;obtain⟨t1,x1,t2,x2,rfl,_⟩:=O.mk;refine iI func151 ?_;simp only[go_sem,zE,zA,zL];refine (A _).mono ?_;rintro _ st ⟨rfl,rfl⟩;simp only[go_sem,zA];refine (D _).mono ?_;rintro _ _ ⟨m,hm,rfl,rfl⟩;simp only[go_sem,zA];refine (vU2 gl m _).mono ?_;rintro _ _ ⟨b,hb,rfl,rfl⟩;have ab:m≠b:=yKe (ISt.put_same st m _) hb;have hc:=wGi gl G m b _ ks aa (λk h=>hn k ((E k).1 h)) (by omega) _ (ISt.put_same (st.put m _) b _) (by rw[yQ7 ab,ISt.put_same]);unfold vZu at hc ⊢;simp only[go_sem,zA];refine hc.mono ?_;rintro _ _ ⟨J,l,rfl,U,hl,rfl⟩;simp only[go_sem];refine yQg (st':=st) ?_ ⟨J,l,rfl,U,⟨hl.1,λy=>(hl.2 y).trans (E y)⟩,rfl⟩;exact (yQh hm).trans (yQh hb)
def addE (es:List (Value×IV))(l:List ByteArray):List (Value×IV):=l.foldl (λes s=>updI (.string s) (.raw (.bool true)) es) es
theorem zVp (es:List (Value×IV))(l m:List ByteArray):addE es (l++m)=addE (addE es l) m:=by simp[addE]
