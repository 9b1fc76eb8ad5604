/- One putting behind another: plain data. -/
import Derived.Test.YtabhgbojkjcfjaaGreatDoorKJ
set_option linter.all false
namespace Go.Proofs.Tryz
open Go Go.Iv
mutual
theorem wZn {σ τ:ByteArray->NlT}:∀d:NlT,(∀n∈frT d,σ n=τ n)->dsub σ d=dsub τ d
 | .bv i,_=>rfl
 | .fv n,h=>h n (by simp[frT])
 | .ap n l,h=>by simp only[dsub,zQq l (by simpa[frT] using h)]
theorem zQq {σ τ:ByteArray->NlT}:∀l:List NlT,(∀n∈frTs l,σ n=τ n)->zKp σ l=zKp τ l
 | [],_=>rfl
 | a::l,h=>by
  simp only[frTs,List.mem_append] at h;simp only[zKp,wZn a (λn hn=>h n (.inl hn)),zQq l (λn hn=>h n (.inr hn))]
end
mutual
theorem zVz {σ τ:ByteArray->NlT}:∀d:NlF,(∀n∈frD d,σ n=τ n)->zJn σ d=zJn τ d
 | .mk op n us sub,h=>by
  simp only[frD,List.mem_append] at h;simp only[zJn,zQq us (λn hn=>h n (.inl hn)),zJm sub (λn hn=>h n (.inr hn))]
theorem zJm {σ τ:ByteArray->NlT}:∀l:List NlF,(∀n∈frDs l,σ n=τ n)->yUw σ l=yUw τ l
 | [],_=>rfl
 | a::l,h=>by
  simp only[frDs,List.mem_append] at h;simp only[yUw,zVz a (λn hn=>h n (.inl hn)),zJm l (λn hn=>h n (.inr hn))]
end
def sub1 (x:ByteArray)(t:Tm)(n:ByteArray):NlT:=if x=n then db [] t else .fv n
theorem wKb {f:Fm}(hf:f.ok=true)(x:ByteArray)(t:Tm):dbF [] (yXr (yKh [(x,t)] (frF f)) f)=zJn (sub1 x t) (dbF [] f):=by
 rw[zUy f _ hf];refine zVz _ λn hn=>?_;rw[zYl hf] at hn;unfold sgm sub1;rw[wKa];by_cases h:x=n
 ·subst h;rw[if_pos (yZo.2 hn),xKc,if_pos rfl,if_pos rfl];rfl
 ·rw[if_neg h];have:(yZh (if memB (frF f) x=true then [(x,t)] else []) n).getD (.mk true n [])=.mk true n []:=by
   split
   ·rw[xKc,if_neg h];rfl
   ·rfl
  rw[this];simp[db,yJa,yGf]
