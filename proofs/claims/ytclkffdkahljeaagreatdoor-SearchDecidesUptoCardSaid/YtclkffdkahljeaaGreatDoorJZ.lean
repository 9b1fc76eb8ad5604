/- Walks: Alpha; normal's closure. -/
import Derived.Test.YtclkffdkahljeaaGreatDoorJY
set_option linter.all false
open Nat renaming reduceEqDiff → zE,reduceAdd → zA,reduceLeDiff → zL
namespace Go.Proofs.Tryz
open Go Go.Iv
set_option maxRecDepth 4000
variable (gl:Nat->Option IV)
theorem wYl (G:Gl gl)(f g:Fm)(x y:IV)(hx:IsFm f x)(hy:IsFm g y)(hs:f.size<=1000000)(hs':g.size<=1000000)(st:ISt) :
  ICall prog gl 88 [x,y] st (λr st'=>r=.raw (.bool (zJ1 f g))/\st'=st):=by
 have h1:=λst=>zWu gl G f x hx st hs;have h2:=λst=>zWu gl G g y hy st hs';have h3:=λhf hg st=>wYa gl f g [] ⟨true,.nil,0⟩ (.inl ⟨rfl,rfl⟩) (by simp;omega) x y hx hy hf hg st;obtain⟨o,n,us,sub⟩:=f;obtain⟨t1,x1,t2,x2,rfl,_⟩:=hx.mk;obtain⟨o',n',us',sub'⟩:=g;obtain⟨t3,x3,t4,x4,rfl,_⟩:=hy.mk;refine iI func88 ?_;simp only[go_sem,zE,zA,zL];refine (h1 _).mono ?_;rintro _ st ⟨rfl,rfl⟩;cases hr:(Fm.mk o n us sub).right
 ·simp only[go_sem,zE];exact yQ0 ⟨by simp[zJ1,hr],rfl⟩
 ·simp only[go_sem,zE,zA,zL];refine (h2 _).mono ?_;rintro _ st ⟨rfl,rfl⟩;cases hr':(Fm.mk o' n' us' sub').right
  ·simp only[go_sem,zE];exact yQ0 ⟨by simp[zJ1,hr'],rfl⟩
  ·simp only[go_sem,zE,zA,zL];refine (h3 (zQw hr).1 (zQw hr').1 _).mono ?_;rintro _ st ⟨rfl,rfl⟩;simp only[go_sem,zE];exact yQ0 ⟨by simp[zJ1,hr,hr'],rfl⟩
theorem zJt {st s:ISt}{b:Nat}{o:Option IObj}(h:subSt st s)(hb:st b=none):subSt st (s.put b o):=λc x hc=>by
 rw[ISt.put_apply];split
 ·rename_i hcb;rw[hcb,hb] at hc;cases hc
 ·exact h c x hc
theorem _root_.Go.Iv.IsFmD.of {f:Fm}{a b:Value}{t t':Tag}{xs ys:List IV}(h:IsFm f (.agg [.raw a,.raw b,.sl t xs,.sl t' ys]))(ha:appT xs.length t)(hx:dfrs xs)(ha':appT ys.length t')(hy:dfrs ys) :
  IsFmD f (.agg [.raw a,.raw b,.sl t xs,.sl t' ys]):=by
 obtain⟨o,n,us,sub⟩:=f;obtain⟨_,_,_,_,he,ho,h1,h2,h3,h4⟩:=h.mk;cases he;exact IsFmD.intro ho h1 (ha.to h2.len.symm) ⟨h2,hx⟩ h3 (ha'.to h4.len.symm) ⟨h4,hy⟩
