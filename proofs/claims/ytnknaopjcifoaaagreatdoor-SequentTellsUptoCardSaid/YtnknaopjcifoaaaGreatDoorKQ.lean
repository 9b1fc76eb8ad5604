/- Small words: bulk and size, few terms, w -/
import Derived.Test.YtnknaopjcifoaaaGreatDoorJW
set_option linter.all false
namespace Go.Proofs.Tryz
open Go Go.Iv
theorem zK4 {l:List ByteArray}{s:ByteArray}:hasB l s=true↔s∈l:=by simp[hasB]
theorem zWk {l:List ByteArray}{s:ByteArray}:hasB l s=false↔s ∉ l:=by simp[hasB]
theorem zZ0:∀ {r l:List ByteArray},r.Pairwise ltN->(∀x∈r,x∈l)->r.length<=l.length
 | [],l,_,_=>Nat.zero_le _
 | a::r,l,hp,h=>by
  obtain⟨l1,l2,rfl⟩:=List.append_of_mem (h a (by simp));obtain⟨h1,h2⟩:=List.pairwise_cons.1 hp;have:=zZ0 (l:=l1++l2) h2 (λx hx=>by
   have hm:=h x (List.mem_cons_of_mem _ hx);have hne:x≠a:=λe=>wQo a (e▸h1 x hx);simp only[List.mem_append,List.mem_cons] at hm ⊢;rcases hm with hm|hm|hm
   ·exact .inl hm
   ·exact absurd hm hne
   ·exact .inr hm)
  grind
theorem zK9:∀l m:List Fm,frFs (l++m)=frFs l++frFs m
 | [],m=>by simp[frFs]
 | a::l,m=>by simp only[List.cons_append,frFs,zK9 l m,List.append_assoc]
