/- Walks: Free, FreeTerm, Bound, Fresh. -/
import Derived.Test.YtnknaopjcifoaaaGreatDoorJX
set_option linter.all false
open Nat renaming reduceEqDiff → zE,reduceAdd → zA,reduceLeDiff → zL
namespace Go.Proofs.Tryz
open Go Go.Iv
set_option maxRecDepth 4000
variable (gl:Nat->Option IV)
theorem vK6 (G:Gt gl)(f:Fm)(x:IV)(hx:IsFm f x)(hs:f.size<=1099511627776)(hn:∀s∈frF f,s.size<=281474976710656)(st:ISt) :
  ICall prog gl 90 [x] st (λr st'=>∃tg l,r=.sl tg (strI l)/\okEs tg 1/\SortedOf (frF f) l/\st'=st):=by
 have hnames:=λst=>yYa gl f x hx st;have hset:=λst=>wJj gl 137 [.cptr x] (xJa f) st (by simp only[go_sem]) (λI=>yW6 gl f x hx (by omega) I);rw[zXo] at hset;obtain⟨ks,hk1,hk2,hk3⟩:=wZ6 (frF f);have hfl:=zKa f;obtain⟨o,n,us,sub⟩:=f;obtain⟨t1,x1,t2,x2,rfl,_⟩:=hx.mk;refine iI func90 ?_;simp only[go_sem,zE,zA,zL];refine (hnames _).mono ?_;rintro _ st ⟨rfl,rfl⟩;simp only[go_sem,zA];refine (hset _).mono ?_;rintro _ _ ⟨m,hm,rfl,rfl⟩;simp only[go_sem,zA];refine (vK2 gl m _).mono ?_;rintro _ _ ⟨b,hb,rfl,rfl⟩;have hbm:m≠b:=yVc (ISt.put_same st m _) hb;have hc:=wVp gl G m b _ ks hk1 (λk h=>hn k ((hk2 k).1 h)) (by omega) _ (ISt.put_same (st.put m _) b _) (by rw[yZe hbm,ISt.put_same]);unfold wGs at hc ⊢;simp only[go_sem,zA];refine hc.mono ?_;rintro _ _ ⟨tg,l,rfl,htg,hl,rfl⟩;simp only[go_sem];refine yQa (st':=st) ?_ ⟨tg,l,rfl,htg,⟨hl.1,λy=>(hl.2 y).trans (hk2 y)⟩,rfl⟩;exact (yQe hm).trans (yQe hb)
def addE (es:List (Value×IV))(l:List ByteArray):List (Value×IV):=l.foldl (λes s=>updI (.string s) (.raw (.bool true)) es) es
theorem zKz (es:List (Value×IV))(l m:List ByteArray):addE es (l++m)=addE (addE es l) m:=by simp[addE]
