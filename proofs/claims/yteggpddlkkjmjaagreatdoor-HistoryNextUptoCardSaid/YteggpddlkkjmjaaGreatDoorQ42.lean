/- Part of a proof: what functions of the program compute. Conditions: as each theorem says. -/
import Derived.Test.YteggpddlkkjmjaaGreatDoorQ32
set_option linter.unusedSimpArgs false
set_option linter.unusedVariables false
namespace Go.Proofs.YteggpddlkkjmjaaGreatDoor
open Go Go.RowKit
variable {a : Nat → Addr}
theorem hclock_any (w : World) (S : Nat → Prop) (gb K : Nat) (s : Lg) (h : LogAt w S gb s K) : Calls Tryz.prog 23 #[.pointer (some ⟨gb, 0, none⟩)] w fun e w' => e = .returned s.clk.agg ∧ Below w.heap.size w w' := by
 obtain ⟨bm, mb, A, c, B, d, SM, h, -⟩ := h
 have e0 : Below w.heap.size w (w.alloc (.cells s.clk.vals 44)) := balloc (Below.refl _ _)
 have hx := Blk.new w 44 s.clk.vals
 have hg := h.g.step (w' := w.alloc (.cells #[.int .i64 0, .int .i64 0, .int .i64 0, .int .i64 0, .int .i64 0, .int .i64 0, .int .i64 0, .int .i64 0] 44)) (balloc (Below.refl _ _))
 have g5 : (w.alloc (.cells #[.int .i64 0, .int .i64 0, .int .i64 0, .int .i64 0, .int .i64 0, .int .i64 0, .int .i64 0, .int .i64 0] 44)).cell? ⟨gb, 5, none⟩ = some (.int .i64 s.clk.c0) := (hg).cell 5; have g6 : (w.alloc (.cells #[.int .i64 0, .int .i64 0, .int .i64 0, .int .i64 0, .int .i64 0, .int .i64 0, .int .i64 0, .int .i64 0] 44)).cell? ⟨gb, 6, none⟩ = some (.int .i64 s.clk.c1) := (hg).cell 6; have g7 : (w.alloc (.cells #[.int .i64 0, .int .i64 0, .int .i64 0, .int .i64 0, .int .i64 0, .int .i64 0, .int .i64 0, .int .i64 0] 44)).cell? ⟨gb, 7, none⟩ = some (.int .i64 s.clk.c2) := (hg).cell 7; have g8 : (w.alloc (.cells #[.int .i64 0, .int .i64 0, .int .i64 0, .int .i64 0, .int .i64 0, .int .i64 0, .int .i64 0, .int .i64 0] 44)).cell? ⟨gb, 8, none⟩ = some (.int .i64 s.clk.c3) := (hg).cell 8; have g9 : (w.alloc (.cells #[.int .i64 0, .int .i64 0, .int .i64 0, .int .i64 0, .int .i64 0, .int .i64 0, .int .i64 0, .int .i64 0] 44)).cell? ⟨gb, 9, none⟩ = some (.int .i64 s.clk.c4) := (hg).cell 9; have g10 : (w.alloc (.cells #[.int .i64 0, .int .i64 0, .int .i64 0, .int .i64 0, .int .i64 0, .int .i64 0, .int .i64 0, .int .i64 0] 44)).cell? ⟨gb, 10, none⟩ = some (.int .i64 s.clk.c5) := (hg).cell 10; have g11 : (w.alloc (.cells #[.int .i64 0, .int .i64 0, .int .i64 0, .int .i64 0, .int .i64 0, .int .i64 0, .int .i64 0, .int .i64 0] 44)).cell? ⟨gb, 11, none⟩ = some (.int .i64 s.clk.c6) := (hg).cell 11; have g12 : (w.alloc (.cells #[.int .i64 0, .int .i64 0, .int .i64 0, .int .i64 0, .int .i64 0, .int .i64 0, .int .i64 0, .int .i64 0] 44)).cell? ⟨gb, 12, none⟩ = some (.int .i64 s.clk.c7) := (hg).cell 12; have gl := (hg).lt
 simp only [Clk.agg] at *
 unfold Clk.vals at *
 clear h hg
 go_enter Tryz.func23, Tryz.ntmps23
 repeat' (first | go_step)
 have v0 := hx.cell 0
 have v1 := hx.cell 1
 have v2 := hx.cell 2
 have v3 := hx.cell 3
 have v4 := hx.cell 4
 have v5 := hx.cell 5
 have v6 := hx.cell 6
 have v7 := hx.cell 7
 clear g5 g6 g7 g8 g9 g10 g11 g12 gl
 generalize w.alloc (.cells #[.int .i64 s.clk.c0, .int .i64 s.clk.c1, .int .i64 s.clk.c2, .int .i64 s.clk.c3, .int .i64 s.clk.c4, .int .i64 s.clk.c5, .int .i64 s.clk.c6, .int .i64 s.clk.c7] 44) = X at *
 simp at v0 v1 v2 v3 v4 v5 v6 v7
 exact bodyPost_ret (v := .agg #[.int .i64 s.clk.c0, .int .i64 s.clk.c1, .int .i64 s.clk.c2, .int .i64 s.clk.c3, .int .i64 s.clk.c4, .int .i64 s.clk.c5, .int .i64 s.clk.c6, .int .i64 s.clk.c7]) (by simp [results, Tryz.results23, go_sem, v0, v1, v2, v3, v4, v5, v6, v7]) rfl ⟨rfl, e0⟩
end Go.Proofs.YteggpddlkkjmjaaGreatDoor
