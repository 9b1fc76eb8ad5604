/- One putting behind another: plain data. -/
import Derived.Test.YtgiilhcddbhffaaGreatDoorKJ
set_option linter.all false
namespace Go.Proofs.Tryz
open Go Go.Iv
mutual
theorem wZk {σ τ:ByteArray→NlT}:∀ d:NlT,(∀ n∈frT d,σ n=τ n)→dsub σ d=dsub τ d
 | .bv i,_=>rfl
 | .fv n,h=>h n (by simp[frT])
 | .ap n l,h=>by simp only[dsub,zQm l (by simpa[frT] using h)]
theorem zQm {σ τ:ByteArray→NlT}:∀ l:List NlT,(∀ n∈frTs l,σ n=τ n)→zKm σ l=zKm τ l
 | [],_=>rfl
 | a::l,h=>by
  simp only[frTs,List.mem_append] at h
  simp only[zKm,wZk a (fun n hn=>h n (.inl hn)),zQm l (fun n hn=>h n (.inr hn))]
end
mutual
theorem zVv {σ τ:ByteArray→NlT}:∀ d:NlF,(∀ n∈frD d,σ n=τ n)→zJk σ d=zJk τ d
 | .mk op n us sub,h=>by
  simp only[frD,List.mem_append] at h
  simp only[zJk,zQm us (fun n hn=>h n (.inl hn)),zJj sub (fun n hn=>h n (.inr hn))]
theorem zJj {σ τ:ByteArray→NlT}:∀ l:List NlF,(∀ n∈frDs l,σ n=τ n)→yUt σ l=yUt τ l
 | [],_=>rfl
 | a::l,h=>by
  simp only[frDs,List.mem_append] at h
  simp only[yUt,zVv a (fun n hn=>h n (.inl hn)),zJj l (fun n hn=>h n (.inr hn))]
end
def sub1 (x:ByteArray)(t:Tm)(n:ByteArray):NlT:=if x=n then db [] t else .fv n
theorem wK8 {f:Fm}(hf:f.ok=true)(x:ByteArray)(t:Tm):dbF [] (yXr (yKg [(x,t)] (frF f)) f)=zJk (sub1 x t) (dbF [] f):=by
 rw[zUx f _ hf]
 refine zVv _ fun n hn=>?_
 rw[zYi hf] at hn
 unfold sgm sub1
 rw[wK7]
 by_cases h:x=n
 ·subst h
  rw[if_pos (yZo.2 hn),xKa,if_pos rfl,if_pos rfl]; rfl
 ·rw[if_neg h]
  have:(yZi (if memB (frF f) x=true then [(x,t)] else []) n).getD (.mk true n [])=.mk true n []:=by
   split
   ·rw[xKa,if_neg h]; rfl
   ·rfl
  rw[this]
  simp[db,yJa,yGc]
end Go.Proofs.Tryz
