/- Walks: OverTerms, Over: what is owned is -/
import Derived.Test.YtopmhkmegkpkdaaGreatDoorKQ
set_option linter.all false
namespace Go.Proofs.Tryz
open Go Go.Iv
set_option maxRecDepth 4000
variable (gl:Nat->Option IV)
def Ly {cs l:List IV}{off k:Nat}(h:off+l.length<=cs.length):(eV cs off l)[k]?=if off<=k/\k<off+l.length then l[k-off]? else cs[k]?:=by
 unfold eV;have A:(cs.take off).length=off:=by rw[dO];omega
 by_cases h1:k<off
 ·rw[a_ (by omega),fA,fP (by omega),fl,b_ h1]
 ·by_cases h2:k<off+l.length
  ·rw[b_ ⟨by omega,h2⟩,fA,gh (by omega),A,fP (by omega)]
  ·rw[a_ (by omega),gh (by rw[lLa,A];omega),lLa,A,ix];congr 1;omega
def Lz {cs l:List IV}{off:Nat}(h:off+l.length<=cs.length):(eV cs off l).length=cs.length:=by
 unfold eV;simp only[lLa,dO,fp];omega
def _root_.Go.Iv.OI.raw_eq {st:ISt}{y:IV}{v:Value}(h:OI st y (.raw v)):y=.raw v:=by cases h;rfl
def mz {s:Nat}{A:List IV}(E:∀x∈A,x.cells.length=s){i j:Nat}{x:IV}(hx:A[i]?=some x)(O:j<s):(A.flatMap IV.cells)[s*i+j]?=x.cells[j]?:=by
 have h1:(A.flatMap IV.cells)[s*i+j]?=((A.flatMap IV.cells).drop (i*s))[j]?:=by rw[ix,jU]
 rw[h1,<- vk A i E];have D:=(lGs hx).1;rw[fM D,(lGs hx).2,ff,fP];rw[E x (lMg hx)];exact O
def tJ {P:Nat->Nat->Prop}(D:∀d i,P d i->P (d+1) i):∀n,(∀i,i<n->∃d,P d i)->∃d,∀i,i<n->P d i
 | 0,_=>⟨0,λi E=>by omega⟩
 | n+1,h=>by
  obtain⟨d,hd⟩:=tJ D n λi E=>h i (by omega);obtain⟨e,U⟩:=h n (by omega);have up:∀i k a,P a i->P (a+k) i:=λi k a W=>by
   induction k with
   | zero=>exact W
   | succ k O=>exact D _ _ O
  refine⟨d+e,λi E=>?_⟩;by_cases A:i<n
  ·exact up i e d (hd i A)
  ·obtain rfl:i=n:=by omega
   rw[Nat.add_comm];exact up i d e U
def wZ {t:Tag}{g s:Nat}(h:okEs t s)(hc:t.cap=.app g):t.es=s:=h.resolve_left (by rw[hc];intro h;cases h)
def _root_.Go.Iv.IsTms.mem {us:List Tm}{D:List IV}(h:IsTms us D){i:Nat}{x:IV}(hx:D[i]?=some x):∃a,us[i]?=some a/\IsTm a x:=by
 have O:=(lGs hx).1;rw[h.len] at O;obtain⟨a,U⟩:=dd O;obtain⟨y,E,A⟩:=h.get U;rw[hx] at E;cases E;exact⟨a,U,A⟩
def _root_.Go.Iv.IsFms.mem {us:List Fm}{D:List IV}(h:IsFms us D){i:Nat}{x:IV}(hx:D[i]?=some x):∃a,us[i]?=some a/\IsFm a x:=by
 have O:=(lGs hx).1;rw[h.len] at O;obtain⟨a,U⟩:=dd O;obtain⟨y,E,A⟩:=h.get U;rw[hx] at E;cases E;exact⟨a,U,A⟩
def nX {st:ISt}{r:IV}{t:Tag}{A:List IV}(h:rawC r)(D:OI st r (.sl t A)):∃v,r=.raw v:=by
 rcases h with h|rfl
 ·exact h
 ·cases D
