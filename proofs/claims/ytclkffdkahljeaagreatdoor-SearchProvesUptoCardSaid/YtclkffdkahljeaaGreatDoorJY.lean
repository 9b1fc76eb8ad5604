/- Walks: Free, FreeTerm, Bound, Fresh. -/
import Derived.Test.YtclkffdkahljeaaGreatDoorJX
set_option linter.all false
open Nat renaming reduceEqDiff → zE,reduceAdd → zA,reduceLeDiff → zL
namespace Go.Proofs.Tryz
open Go Go.Iv
set_option maxRecDepth 4000
variable (gl:Nat->Option IV)
theorem vYs (G:Gt gl)(f:Fm)(x:IV)(hx:IsFm f x)(hs:f.size<=1099511627776)(hn:∀s∈frF f,s.size<=281474976710656)(st:ISt) :
  ICall prog gl 179 [x] st (λr st'=>∃J l,r=.sl J (strI l)/\okEs J 1/\zU9 (frF f) l/\st'=st):=by
 have A:=λst=>yWy gl f x hx st;have D:=λst=>wV5 gl 152 [.cptr x] (xJs f) st (by simp only[go_sem]) (λI=>yVi gl f x hx (by omega) I);rw[zJ3] at D;obtain⟨ks,U,E,ag⟩:=wXd (frF f);have ah:=xWk f;obtain⟨o,n,us,sub⟩:=f;obtain⟨t1,x1,t2,x2,rfl,_⟩:=hx.mk;refine iI func179 ?_;simp only[go_sem,zE,zA,zL];refine (A _).mono ?_;rintro _ st ⟨rfl,rfl⟩;simp only[go_sem,zA];refine (D _).mono ?_;rintro _ _ ⟨m,hm,rfl,rfl⟩;simp only[go_sem,zA];refine (vYm gl m _).mono ?_;rintro _ _ ⟨b,hb,rfl,rfl⟩;have aa:m≠b:=yXu (ISt.put_same st m _) hb;have hc:=wYi gl G m b _ ks U (λk h=>hn k ((E k).1 h)) (by omega) _ (ISt.put_same (st.put m _) b _) (by rw[yQ5 aa,ISt.put_same]);unfold vQx at hc ⊢;simp only[go_sem,zA];refine hc.mono ?_;rintro _ _ ⟨J,l,rfl,O,hl,rfl⟩;simp only[go_sem];refine yQg (st':=st) ?_ ⟨J,l,rfl,O,⟨hl.1,λy=>(hl.2 y).trans (E y)⟩,rfl⟩;exact (yQa hm).trans (yQa hb)
def addE (es:List (Value×IV))(l:List ByteArray):List (Value×IV):=l.foldl (λes s=>updI (.string s) (.raw (.bool true)) es) es
theorem zV5 (es:List (Value×IV))(l m:List ByteArray):addE es (l++m)=addE (addE es l) m:=by simp[addE]
