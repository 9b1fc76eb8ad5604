/- Walks: Free, FreeTerm, Bound, Fresh. -/
import Derived.Test.YtdbmgeebmfpmpaaGreatDoorJX
set_option linter.all false
open Nat renaming reduceEqDiff → zE,reduceAdd → zA,reduceLeDiff → zL
namespace Go.Proofs.Tryz
open Go Go.Iv
set_option maxRecDepth 4000
variable (gl:Nat->Option IV)
theorem vYj (G:Gt gl)(f:Fm)(x:IV)(hx:IsFm f x)(hs:f.size<=1099511627776)(hn:∀s∈frF f,s.size<=281474976710656)(st:ISt) :
  ICall prog gl 118 [x] st (λr st'=>∃tg l,r=.sl tg (strI l)/\okEs tg 1/\zU2 (frF f) l/\st'=st):=by
 have hnames:=λst=>yWr gl f x hx st;have hset:=λst=>wV5 gl 190 [.cptr x] (xJh f) st (by simp only[go_sem]) (λI=>yVc gl f x hx (by omega) I);rw[zXo] at hset;obtain⟨ks,hk1,hk2,hk3⟩:=wX9 (frF f);have hfl:=xWn f;obtain⟨o,n,us,sub⟩:=f;obtain⟨t1,x1,t2,x2,rfl,_⟩:=hx.mk;refine iI func118 ?_;simp only[go_sem,zE,zA,zL];refine (hnames _).mono ?_;rintro _ st ⟨rfl,rfl⟩;simp only[go_sem,zA];refine (hset _).mono ?_;rintro _ _ ⟨m,hm,rfl,rfl⟩;simp only[go_sem,zA];refine (vYc gl m _).mono ?_;rintro _ _ ⟨b,hb,rfl,rfl⟩;have hbm:m≠b:=yKb (ISt.put_same st m _) hb;have hc:=wY4 gl G m b _ ks hk1 (λk h=>hn k ((hk2 k).1 h)) (by omega) _ (ISt.put_same (st.put m _) b _) (by rw[yQ7 hbm,ISt.put_same]);unfold vQ9 at hc ⊢;simp only[go_sem,zA];refine hc.mono ?_;rintro _ _ ⟨tg,l,rfl,htg,hl,rfl⟩;simp only[go_sem];refine yQg (st':=st) ?_ ⟨tg,l,rfl,htg,⟨hl.1,λy=>(hl.2 y).trans (hk2 y)⟩,rfl⟩;exact (yQh hm).trans (yQh hb)
def addE (es:List (Value×IV))(l:List ByteArray):List (Value×IV):=l.foldl (λes s=>updI (.string s) (.raw (.bool true)) es) es
theorem zV6 (es:List (Value×IV))(l m:List ByteArray):addE es (l++m)=addE (addE es l) m:=by simp[addE]
