/-  -/
import Derived.Test.YtebjhmlmdjnkgaaGreatDoorJW
set_option linter.all false
namespace Go.Proofs.Tryz
open Go Go.Iv
set_option maxRecDepth 4000
variable (gl:Nat->Option IV)
theorem xGi {cs l:List IV}{off k:Nat}(h:off+l.length<=cs.length):(yX8 cs off l)[k]?=if off<=k/\k<off+l.length then l[k-off]? else cs[k]?:=by
 unfold yX8;have ht:(cs.take off).length=off:=by rw[List.length_take];omega
 by_cases h1:k<off
 ·rw[if_neg (by omega),List.append_assoc,List.getElem?_append_left (by omega),List.getElem?_take,if_pos h1]
 ·by_cases h2:k<off+l.length
  ·rw[if_pos ⟨by omega,h2⟩,List.append_assoc,List.getElem?_append_right (by omega),ht,List.getElem?_append_left (by omega)]
  ·rw[if_neg (by omega),List.getElem?_append_right (by rw[lLa,ht];omega),lLa,ht,List.getElem?_drop];congr 1;omega
theorem xGh {cs l:List IV}{off:Nat}(h:off+l.length<=cs.length):(yX8 cs off l).length=cs.length:=by
 unfold yX8;simp only[lLa,List.length_take,List.length_drop];omega
theorem _root_.Go.Iv.OI.raw_eq {st:ISt}{y:IV}{v:Value}(h:OI st y (.raw v)):y=.raw v:=by cases h;rfl
theorem yKu {s:Nat}{xs:List IV}(hs:∀x∈xs,x.cells.length=s){i j:Nat}{x:IV}(hx:xs[i]?=some x)(hj:j<s):(xs.flatMap IV.cells)[s*i+j]?=x.cells[j]?:=by
 have h1:(xs.flatMap IV.cells)[s*i+j]?=((xs.flatMap IV.cells).drop (i*s))[j]?:=by rw[List.getElem?_drop,Nat.mul_comm]
 rw[h1,<- zJs xs i hs];have hlt:=(lGs hx).1;rw[List.drop_eq_getElem_cons hlt,(lGs hx).2,List.flatMap_cons,List.getElem?_append_left];rw[hs x (lMg hx)];exact hj
theorem yUu {P:Nat->Nat->Prop}(hm:∀d i,P d i->P (d+1) i):∀n,(∀i,i<n->∃d,P d i)->∃d,∀i,i<n->P d i
 | 0,_=>⟨0,λi hi=>by omega⟩
 | n+1,h=>by
  obtain⟨d,hd⟩:=yUu hm n λi hi=>h i (by omega);obtain⟨e,he⟩:=h n (by omega);have up:∀i k a,P a i->P (a+k) i:=λi k a ha=>by
   induction k with
   | zero=>exact ha
   | succ k ih=>exact hm _ _ ih
  refine⟨d+e,λi hi=>?_⟩;by_cases hin:i<n
  ·exact up i e d (hd i hin)
  ·obtain rfl:i=n:=by omega
   rw[Nat.add_comm];exact up i d e he
theorem zZw {t:Tag}{g s:Nat}(h:okEs t s)(hc:t.cap=.app g):t.es=s:=h.resolve_left (by rw[hc];intro h;cases h)
theorem _root_.Go.Iv.IsFms.mem {us:List Fm}{xs:List IV}(h:IsFms us xs){i:Nat}{x:IV}(hx:xs[i]?=some x):∃a,us[i]?=some a/\IsFm a x:=by
 have hi:=(lGs hx).1;rw[h.len] at hi;obtain⟨a,ha⟩:=yQ3 hi;obtain⟨y,hy,hay⟩:=h.get ha;rw[hx] at hy;cases hy;exact⟨a,ha,hay⟩
theorem yGv {st:ISt}{r:IV}{t:Tag}{xs:List IV}(h:rawC r)(ho:OI st r (.sl t xs)):∃v,r=.raw v:=by
 rcases h with h|rfl
 ·exact h
 ·cases ho
