/- Small words: bulk and size, few terms, w -/
import Derived.Test.YtjbhofcbleepiaaGreatDoorJT
import Derived.Test.YtjbhofcbleepiaaGreatDoorJU
import Derived.Test.YtjbhofcbleepiaaGreatDoorKF
import Derived.Test.YtjbhofcbleepiaaGreatDoorJW
set_option linter.all false
namespace Go.Proofs.Tryz
open Go Go.Iv
theorem zKq {l:List ByteArray}{s:ByteArray}:hasB l s=true↔s∈l:=by simp[hasB]
theorem zYe {l:List ByteArray}{s:ByteArray}:hasB l s=false↔s ∉ l:=by simp[hasB]
theorem zZl:∀ {r l:List ByteArray},r.Pairwise ltN→(∀ x∈r,x∈l)→r.length≤l.length
 | [],l,_,_=>Nat.zero_le _
 | a::r,l,hp,h=>by
  obtain⟨l1,l2,rfl⟩:=List.append_of_mem (h a (by simp))
  obtain⟨h1,h2⟩:=List.pairwise_cons.1 hp
  have:=zZl (l:=l1++l2) h2 (fun x hx=>by
   have hm:=h x (List.mem_cons_of_mem _ hx)
   have hne:x≠a:=fun e=>xJu a (e▸h1 x hx)
   simp only[List.mem_append,List.mem_cons] at hm ⊢
   rcases hm with hm | hm | hm
   ·exact .inl hm
   ·exact absurd hm hne
   ·exact .inr hm)
  simp only[List.length_cons,lLa] at this ⊢
  omega
theorem zKv:∀ l m:List Fm,frFs (l++m)=frFs l++frFs m
 | [],m=>by simp[frFs]
 | a::l,m=>by simp only[List.cons_append,frFs,zKv l m,List.append_assoc]
end Go.Proofs.Tryz
