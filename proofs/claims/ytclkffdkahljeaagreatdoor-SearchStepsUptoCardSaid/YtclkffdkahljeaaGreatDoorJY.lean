/- Walks: Free, FreeTerm, Bound, Fresh. -/
import Derived.Test.YtclkffdkahljeaaGreatDoorJX
set_option linter.all false
open Nat renaming reduceEqDiff → zE,reduceAdd → zA,reduceLeDiff → zL
namespace Go.Proofs.Tryz
open Go Go.Iv
set_option maxRecDepth 4000
variable (gl:Nat->Option IV)
theorem vYo (G:Gt gl)(f:Fm)(x:IV)(hx:IsFm f x)(hs:f.size<=1099511627776)(hn:∀s∈frF f,s.size<=281474976710656)(st:ISt) :
  ICall prog gl 179 [x] st (λr st'=>∃J l,r=.sl J (strI l)/\okEs J 1/\zU7 (frF f) l/\st'=st):=by
 have A:=λst=>yWu gl f x hx st;have D:=λst=>wV0 gl 152 [.cptr x] (xJl f) st (by simp only[go_sem]) (λI=>yVg gl f x hx (by omega) I);rw[zXx] at D;obtain⟨ks,U,E,ag⟩:=wX6 (frF f);have ah:=xWb f;obtain⟨o,n,us,sub⟩:=f;obtain⟨t1,x1,t2,x2,rfl,_⟩:=hx.mk;refine iI func179 ?_;simp only[go_sem,zE,zA,zL];refine (A _).mono ?_;rintro _ st ⟨rfl,rfl⟩;simp only[go_sem,zA];refine (D _).mono ?_;rintro _ _ ⟨m,hm,rfl,rfl⟩;simp only[go_sem,zA];refine (vYi gl m _).mono ?_;rintro _ _ ⟨b,hb,rfl,rfl⟩;have aa:m≠b:=yXt (ISt.put_same st m _) hb;have hc:=wY7 gl G m b _ ks U (λk h=>hn k ((E k).1 h)) (by omega) _ (ISt.put_same (st.put m _) b _) (by rw[yQ5 aa,ISt.put_same]);unfold vQj at hc ⊢;simp only[go_sem,zA];refine hc.mono ?_;rintro _ _ ⟨J,l,rfl,O,hl,rfl⟩;simp only[go_sem];refine yQf (st':=st) ?_ ⟨J,l,rfl,O,⟨hl.1,λy=>(hl.2 y).trans (E y)⟩,rfl⟩;exact (yQa hm).trans (yQa hb)
def addE (es:List (Value×IV))(l:List ByteArray):List (Value×IV):=l.foldl (λes s=>updI (.string s) (.raw (.bool true)) es) es
theorem zV2 (es:List (Value×IV))(l m:List ByteArray):addE es (l++m)=addE (addE es l) m:=by simp[addE]
