/- Lemmas. -/
import Derived.Test.YtmfpbafpnoomeaaGreatMAE
set_option linter.unusedVariables false
set_option linter.unusedSimpArgs false
namespace Go.Proofs.YtmfpbafpnoomeaaGreat
open Go.RowKit
namespace S
end S
theorem nextF_of : ∀ {js : List Jn} {j : Jn}, (js.map Jn.first).Nodup -> j ∈ js -> S.nextF js j.first = some j.second := by
 intro js
 induction js using snoc_ind with
 | h0 => intro j _ h; cases h
 | h1 l a ih =>
  intro j hn h
  rw [List.map_append, List.nodup_append] at hn
  obtain ⟨h1, _, h3⟩ := hn
  rw [nextF_snoc]
  simp only []
  rcases List.mem_append.1 h with h | h
  ·rw [if_neg]
   ·exact ih h1 h
   ·exact fun e => h3 _ (List.mem_map_of_mem h) _ (by simp) e
  ·rw [List.mem_singleton] at h
   subst h
   rw [if_pos rfl]
variable {js : List Jn} {n : Nat} {rank : Int -> Nat}
namespace S
end S
namespace S
end S
end Go.Proofs.YtmfpbafpnoomeaaGreat
