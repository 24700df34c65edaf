/- Part of a proof: what functions of the program compute. Conditions: as each theorem says. -/
import Derived.Test.YteggpddlkkjmjaaGreatDoorQ10
import Derived.Test.YteggpddlkkjmjaaGreatDoorQ9
set_option linter.unusedSimpArgs false
set_option linter.unusedVariables false
namespace Go.Proofs.YteggpddlkkjmjaaGreatDoor
open Go Go.RowKit
theorem refLive_any (e : El) (w : World) : Calls Tryz.prog 121 #[.agg #[.int .i64 e.epoch, .int .i64 e.rep, .int .i64 e.num, .int .i32 e.char, .int .i64 e.hides]] w fun r w' => r = .returned (.bool (decide (e.hides ≤ 0))) ∧ Below w.heap.size w w' := by
 go_enter Tryz.func121, Tryz.ntmps121
 repeat' (first | go_step)
 go_ret
 exact ⟨rfl, balloc (Below.refl _ _)⟩
end Go.Proofs.YteggpddlkkjmjaaGreatDoor
namespace Go.Proofs.YteggpddlkkjmjaaGreatDoor
open Go Go.RowKit Go.Maps
theorem IsIds.del {w : World} {b K : Nat} {s : List Nm} (h : IsIds w b K s) (i : Nm) (hi : i.In) (ty : TypeId) : ∃ w', (Builtin.delete_ #[98, 70] ty #[.map (some b), i.val]).run Tryz.prog w = .ok (.tuple #[]) w' ∧ IsIds w' b K (s.filter (· ≠ i)) ∧ w.mapTurned w' b := by
 obtain ⟨n, D, ho, hn, hs⟩ := h
 obtain ⟨w', hrun, ho', hT⟩ := ho.drop Tryz.idKeyed Tryz.underlying98 (i.lit_key hi) ty
 refine ⟨w', hrun, ⟨n, _, ho', hn, fun j hj => ?_⟩, hT⟩
 by_cases e : j = i
 · subst e
   rw [has_del_same]
   simp
 · rw [has_del_other (fun h => e (Nm.lit_inj h)), hs j hj]
   simp [e]
end Go.Proofs.YteggpddlkkjmjaaGreatDoor
namespace Go.Proofs.YteggpddlkkjmjaaGreatDoor
open Go Go.RowKit
variable {a : Nat → Addr}
theorem mlive_any (w : World) (S : Nat → Prop) (mb : Nat) (l : List El) (K : Nat) (h : Mdl w S mb l K) : Calls Tryz.prog 48 #[.pointer (some ⟨mb, 0, none⟩)] w fun e w' => e = .returned (.int .i64 (liveOf l)) ∧ Below w.heap.size w w' := by
 obtain ⟨gt, gm, p, T, h1, h2, h3, rfl, h5, h6, h7, h8, h9⟩ := h
 have m0 := h1.cell 0
 simp at m0
 have ml := h1.lt
 have HL := hid (tweight_any T p gt 64 w h2 h3)
 clear h9 h5
 go_enter Tryz.func48, Tryz.ntmps48
 repeat' (first | (go_at_call 87; go_must ((with_reducible refine Calls.mono HL.out ?_); rintro _ w1 ⟨rfl, hb1⟩; dsimp only)) | go_step)
 go_ret
 exact ⟨rfl, by (repeat' (first | (with_reducible assumption)))⟩
end Go.Proofs.YteggpddlkkjmjaaGreatDoor
