/- Walks: OverTerms, Over: what is owned is -/
import Derived.Test.YtabhgbojkjcfjaaGreatDoorKQ
set_option linter.all false
namespace Go.Proofs.Tryz
open Go Go.Iv
set_option maxRecDepth 4000
variable (gl:Nat->Option IV)
theorem wZz {cs l:List IV}{off k:Nat}(h:off+l.length<=cs.length):(yXb cs off l)[k]?=if off<=k/\k<off+l.length then l[k-off]? else cs[k]?:=by
 unfold yXb;have A:(cs.take off).length=off:=by rw[List.length_take];omega
 by_cases h1:k<off
 ·rw[if_neg (by omega),List.append_assoc,List.getElem?_append_left (by omega),List.getElem?_take,if_pos h1]
 ·by_cases h2:k<off+l.length
  ·rw[if_pos ⟨by omega,h2⟩,List.append_assoc,List.getElem?_append_right (by omega),A,List.getElem?_append_left (by omega)]
  ·rw[if_neg (by omega),List.getElem?_append_right (by rw[lLa,A];omega),lLa,A,List.getElem?_drop];congr 1;omega
theorem xZx {cs l:List IV}{off:Nat}(h:off+l.length<=cs.length):(yXb cs off l).length=cs.length:=by
 unfold yXb;simp only[lLa,List.length_take,List.length_drop];omega
theorem _root_.Go.Iv.OI.raw_eq {st:ISt}{y:IV}{v:Value}(h:OI st y (.raw v)):y=.raw v:=by cases h;rfl
theorem yVw {s:Nat}{A:List IV}(F:∀x∈A,x.cells.length=s){i j:Nat}{x:IV}(D:A[i]?=some x)(G:j<s):(A.flatMap IV.cells)[s*i+j]?=x.cells[j]?:=by
 have h1:(A.flatMap IV.cells)[s*i+j]?=((A.flatMap IV.cells).drop (i*s))[j]?:=by rw[List.getElem?_drop,Nat.mul_comm]
 rw[h1,<- zW0 A i F];have E:=(lGs D).1;rw[List.drop_eq_getElem_cons E,(lGs D).2,List.flatMap_cons,List.getElem?_append_left];rw[F x (lMg D)];exact G
theorem zZx {P:Nat->Nat->Prop}(D:∀d i,P d i->P (d+1) i):∀n,(∀i,i<n->∃d,P d i)->∃d,∀i,i<n->P d i
 | 0,_=>⟨0,λi E=>by omega⟩
 | n+1,h=>by
  obtain⟨d,hd⟩:=zZx D n λi E=>h i (by omega);obtain⟨e,G⟩:=h n (by omega);have up:∀i k a,P a i->P (a+k) i:=λi k a J=>by
   induction k with
   | zero=>exact J
   | succ k F=>exact D _ _ F
  refine⟨d+e,λi E=>?_⟩;by_cases A:i<n
  ·exact up i e d (hd i A)
  ·obtain rfl:i=n:=by omega
   rw[Nat.add_comm];exact up i d e G
theorem xQ3 {t:Tag}{g s:Nat}(h:okEs t s)(hc:t.cap=.app g):t.es=s:=h.resolve_left (by rw[hc];intro h;cases h)
theorem _root_.Go.Iv.IsTms.mem {us:List Tm}{D:List IV}(h:IsTms us D){i:Nat}{x:IV}(F:D[i]?=some x):∃a,us[i]?=some a/\IsTm a x:=by
 have G:=(lGs F).1;rw[h.len] at G;obtain⟨a,J⟩:=yQ3 G;obtain⟨y,E,A⟩:=h.get J;rw[F] at E;cases E;exact⟨a,J,A⟩
theorem _root_.Go.Iv.IsFms.mem {us:List Fm}{D:List IV}(h:IsFms us D){i:Nat}{x:IV}(F:D[i]?=some x):∃a,us[i]?=some a/\IsFm a x:=by
 have G:=(lGs F).1;rw[h.len] at G;obtain⟨a,J⟩:=yQ3 G;obtain⟨y,E,A⟩:=h.get J;rw[F] at E;cases E;exact⟨a,J,A⟩
theorem yGp {st:ISt}{r:IV}{t:Tag}{A:List IV}(h:rawC r)(D:OI st r (.sl t A)):∃v,r=.raw v:=by
 rcases h with h|rfl
 ·exact h
 ·cases D
