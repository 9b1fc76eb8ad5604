/- Walks: Free, FreeTerm, Bound, Fresh. -/
import Derived.Test.YtabhgbojkjcfjaaGreatDoorJX
set_option linter.all false
open Nat renaming reduceEqDiff → zE,reduceAdd → zA,reduceLeDiff → zL
namespace Go.Proofs.Tryz
open Go Go.Iv
set_option maxRecDepth 4000
variable (gl:Nat->Option IV)
theorem vYi (G:Gt gl)(f:Fm)(x:IV)(J:IsFm f x)(hs:f.size<=1099511627776)(hn:∀s∈frF f,s.size<=281474976710656)(st:ISt) :
  ICall prog gl 122 [x] st (λr st'=>∃F l,r=.sl F (strI l)/\okEs F 1/\SortedOf (frF f) l/\st'=st):=by
 have A:=λst=>yG2 gl f x J st;have D:=λst=>wW2 gl 231 [.cptr x] (xVu f) st (by simp only[go_sem]) (λI=>yWs gl f x J (by omega) I);rw[zK8] at D;obtain⟨ks,U,E,ag⟩:=wJk (frF f);have ah:=zJk f;obtain⟨o,n,us,sub⟩:=f;obtain⟨t1,x1,t2,x2,rfl,_⟩:=J.mk;refine iI func122 ?_;simp only[go_sem,zE,zA,zL];refine (A _).mono ?_;rintro _ st ⟨rfl,rfl⟩;simp only[go_sem,zA];refine (D _).mono ?_;rintro _ _ ⟨m,hm,rfl,rfl⟩;simp only[go_sem,zA];refine (vYe gl m _).mono ?_;rintro _ _ ⟨b,hb,rfl,rfl⟩;have W:m≠b:=yVt (ISt.put_same st m _) hb;have hc:=wGd gl G m b _ ks U (λk h=>hn k ((E k).1 h)) (by omega) _ (ISt.put_same (st.put m _) b _) (by rw[yZ7 W,ISt.put_same]);unfold vZs at hc ⊢;simp only[go_sem,zA];refine hc.mono ?_;rintro _ _ ⟨F,l,rfl,O,hl,rfl⟩;simp only[go_sem];refine yQc (st':=st) ?_ ⟨F,l,rfl,O,⟨hl.1,λy=>(hl.2 y).trans (E y)⟩,rfl⟩;exact (yQe hm).trans (yQe hb)
def addE (es:List (Value×IV))(l:List ByteArray):List (Value×IV):=l.foldl (λes s=>updI (.string s) (.raw (.bool true)) es) es
theorem zWo (es:List (Value×IV))(l m:List ByteArray):addE es (l++m)=addE (addE es l) m:=by simp[addE]
