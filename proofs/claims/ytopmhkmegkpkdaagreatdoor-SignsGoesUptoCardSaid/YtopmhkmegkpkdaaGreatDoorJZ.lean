/- Walks: Alpha; normal's closure. -/
import Derived.Test.YtopmhkmegkpkdaaGreatDoorJY
set_option linter.all false
open Nat renaming reduceEqDiff → zE,reduceAdd → zA,reduceLeDiff → zL
namespace Go.Proofs.Tryz
open Go Go.Iv
set_option maxRecDepth 4000
variable (gl:Nat->Option IV)
def La (G:Gl gl)(f g:Fm)(x y:IV)(hx:IsFm f x)(O:IsFm g y)(hs:f.size<=1000000)(U:g.size<=1000000)(st:ISt) :
  ICall prog gl 240 [x,y] st (λr st'=>r=(p_ f g:Bool)/\st'=st):=by
 have h1:=λst=>rz gl G f x hx st hs;have h2:=λst=>rz gl G g y O st U;have h3:=λhf hg st=>KR gl f g [] ⟨true,.nil,0⟩ (.inl ⟨rfl,rfl⟩) (by simp;omega) x y hx O hf hg st;obtain⟨o,n,us,sub⟩:=f;obtain⟨t1,x1,t2,x2,rfl,_⟩:=hx.mk;obtain⟨o',n',E,D⟩:=g;obtain⟨t3,x3,t4,x4,rfl,_⟩:=O.mk;refine iI func240 ?_;simp only[go_sem,zE,zA,zL];refine (h1 _).q ?_;cases W:(Fm.mk o n us sub).right
 ·simp only[go_sem,zE];exact cO ⟨by simp[p_,W],rfl⟩
 ·simp only[go_sem,zE,zA,zL];refine (h2 _).q ?_;cases A:(Fm.mk o' n' E D).right
  ·simp only[go_sem,zE];exact cO ⟨by simp[p_,A],rfl⟩
  ·simp only[go_sem,zE,zA,zL];refine (h3 (oT W).1 (oT A).1 _).q ?_;simp only[go_sem,zE];exact cO ⟨by simp[p_,W,A],rfl⟩
def CO {st s:ISt}{b:Nat}{o:Option IObj}(h:subSt st s)(D:st b=none):subSt st (s.put b o):=λc x hc=>by
 rw[ISt.put_apply];split
 ·rename_i A;rw[A,D] at hc;cases hc
 ·exact h c x hc
def _root_.Go.Iv.IsFmD.of {f:Fm}{a b:Value}{t D:Tag}{A ys:List IV}(h:IsFm f (.agg [.raw a,.raw b,.sl t A,.sl D ys]))(ha:appT A.length t)(hx:dfrs A)(E:appT ys.length D)(U:dfrs ys) :
  IsFmD f (.agg [.raw a,.raw b,.sl t A,.sl D ys]):=by
 obtain⟨o,n,us,sub⟩:=f;obtain⟨_,_,_,_,he,W,h1,h2,h3,O⟩:=h.mk;cases he;exact IsFmD.intro W h1 (ha.to h2.len.symm) ⟨h2,hx⟩ h3 (E.to O.len.symm) ⟨O,U⟩
