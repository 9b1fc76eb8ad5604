/- Small words: bulk and size, few terms, w -/
import Derived.Test.YtabhgbojkjcfjaaGreatDoorJW
set_option linter.all false
namespace Go.Proofs.Tryz
open Go Go.Iv
theorem zVr {l:List ByteArray}{s:ByteArray}:hasB l s=true↔s∈l:=by simp[hasB]
theorem zGo {l:List ByteArray}{s:ByteArray}:hasB l s=false↔s ∉ l:=by simp[hasB]
theorem zX9:∀ {r l:List ByteArray},r.Pairwise ltN->(∀x∈r,x∈l)->r.length<=l.length
 | [],l,_,_=>Nat.zero_le _
 | a::r,l,hp,h=>by
  obtain⟨F,E,rfl⟩:=List.append_of_mem (h a (by simp));obtain⟨h1,h2⟩:=List.pairwise_cons.1 hp;have:=zX9 (l:=F++E) h2 (λx D=>by
   have hm:=h x (List.mem_cons_of_mem _ D);have A:x≠a:=λe=>xVg a (e▸h1 x D);simp only[List.mem_append,List.mem_cons] at hm ⊢;rcases hm with hm|hm|hm
   ·exact .inl hm
   ·exact absurd hm A
   ·exact .inr hm)
  simp only[List.length_cons,lLa] at this ⊢;omega
theorem zVx:∀l m:List Fm,frFs (l++m)=frFs l++frFs m
 | [],m=>by simp[frFs]
 | a::l,m=>by simp only[List.cons_append,frFs,zVx l m,List.append_assoc]
