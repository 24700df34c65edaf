/- Part of a proof: what functions of the program compute. Conditions: as each theorem says. -/
import Derived.Test.YteggpddlkkjmjaaGreatDoorQ66
set_option linter.unusedSimpArgs false
set_option linter.unusedVariables false
namespace Go.Proofs.YteggpddlkkjmjaaGreatDoor
open Go Go.RowKit
theorem playedOf_sess {n : Nat} (hn : 0 < n ∧ n ≤ 8) (l : List Int) (vs : List Mv8) (hv : ∀ v ∈ vs, v.In) : ∃ G, Sess G (base8 l (min l.length 20)) (playedOf n l vs) ∧ G.length ≤ 40 := by
 have hl : (vs.take 40).length ≤ 40 := by rw [List.length_take]; omega
 have hbl := base8_length l (min l.length 20)
 obtain ⟨G, h1, -, h2⟩ := Sess.fold hn (by omega) (vs.take 40) [] (newSites n l) 0 (Sess.new n l) (newSites_gd n l) (by omega) (Nat.le_refl _) fun v h => hv v (List.mem_of_mem_take h)
 exact ⟨G, h1, by simp at h2; omega⟩
end Go.Proofs.YteggpddlkkjmjaaGreatDoor
