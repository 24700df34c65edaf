/- Part of a proof: what functions of the program compute. Conditions: as each theorem says. -/
import Derived.Deep.DeepCutAuto
import Derived.LaidEql
import Derived.Laws.StructEq
import Derived.Test.YteggpddlkkjmjaaGreatDoorQ0
set_option linter.unusedSimpArgs false
set_option linter.unusedVariables false
namespace Go.Proofs.YteggpddlkkjmjaaGreatDoor
open Go Go.RowKit
theorem within_any (n m : Int) (hm : 0 < m) (hm2 : m ≤ 4611686018427387904) (w : World) :
 Calls Tryz.prog 19 #[.int .i64 n, .int .i64 m] w fun e w' => e = .returned (.int .i64 (n % m)) ∧ w = w' := by
 have h0 : ¬ m = 0 := by omega
 have h1 := Int.tmod_lt_of_pos n hm
 have h2 : -m < n.tmod m := by
  have := Int.lt_tmod_of_pos n hm
  omega
 have h3 : n % m = if n.tmod m < 0 then n.tmod m + m else n.tmod m := by
  rw [Int.tmod_eq_emod]
  have := Int.emod_nonneg n h0
  have := Int.emod_lt_of_pos n hm
  split <;> split <;> omega
 have H3 := hid h3
 clear h3
 have hw : wrap64 (n.tmod m) = n.tmod m := IntWalk.wrap64_in _ ⟨by omega, by omega⟩
 by_cases hlt : n.tmod m < 0
 · go_enter Tryz.func19, Tryz.ntmps19
   go_wp2
   go_ret
   exact ⟨by rw [H3.out, if_pos hlt]; rfl, rfl⟩
 · go_enter Tryz.func19, Tryz.ntmps19
   go_wp2
   go_ret
   exact ⟨by rw [H3.out, if_neg (by omega)]; rfl, rfl⟩
end Go.Proofs.YteggpddlkkjmjaaGreatDoor
