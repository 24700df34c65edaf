/- The statements' own Within; literal rows; parts of a weight. No condition but room for the numbers. -/
import Derived.Test.YtfihjajllfihjaaDoorTree12
namespace Go.Proofs.YtfihjajllfihjaaDoor
set_option linter.unusedSimpArgs false
set_option linter.unusedVariables false
open Go Go.RowKit
theorem within_any (n m : Int) (hm : 0 < m) (hm2 : m ≤ 4611686018427387904) (w : World) :
    Calls Tryd.prog 26 #[.int .i64 n, .int .i64 m] w fun e w' => e = .returned (.int .i64 (n % m)) ∧ w = w' := by
  have h0 : ¬ m = 0 := by omega
  have h1 := Int.tmod_lt_of_pos n hm
  have h2 : -m < n.tmod m := by
    have := Int.lt_tmod_of_pos n hm
    omega
  have h3 : n % m = if n.tmod m < 0 then n.tmod m + m else n.tmod m := by
    rw [Int.tmod_eq_emod]
    have := Int.emod_nonneg n h0
    have := Int.emod_lt_of_pos n hm
    split <;> split <;> omega
  have H3 := hid h3
  clear h3
  have hw : wrap64 (n.tmod m) = n.tmod m := IntWalk.wrap64_in _ ⟨by omega, by omega⟩
  by_cases hlt : n.tmod m < 0
  · go_enter Tryd.func26, Tryd.ntmps26
    go_wp2
    go_ret
    exact ⟨by rw [H3.out, if_pos hlt]; rfl, rfl⟩
  · go_enter Tryd.func26, Tryd.ntmps26
    go_wp2
    go_ret
    exact ⟨by rw [H3.out, if_neg (by omega)]; rfl, rfl⟩
theorem Row.lit (w : World) (cs : Array Value) (es : List El) (n : Nat) (S : Nat → Prop) (hS : S w.heap.size) (hn : es.length = n) (hm : n ≤ maxLen) (hc : cs.toList = cellsOf es) : Row (w.alloc (.cells cs 42)) S (some ⟨w.heap.size, 0, none⟩) n n es := by
  refine ⟨hn, Nat.le_refl _, hm, fun _ => ⟨w.heap.size, 0, rfl, hS, fun j u hu => ?_⟩⟩
  rw [Nat.zero_add, (Blk.new w 42 cs).cell j, ← hu, ← hc]
  simp
@[go_sem] theorem field_w0 (x y : Value) (w : World) : (Instr.field 54 (.agg #[x, y]) 0).run Tryd.prog w = .ok x w := by kernel_rfl
@[go_sem] theorem field_w1 (x y : Value) (w : World) : (Instr.field 54 (.agg #[x, y]) 1).run Tryd.prog w = .ok y w := by kernel_rfl
theorem But.blk {w w' : World} {bt g : Nat} {t : TypeId} {cs : Array Value} (h : But bt w w') (hb : Blk w g t cs) (hne : g ≠ bt) : Blk w' g t cs := (h.block g hb.lt hne).trans hb
end Go.Proofs.YtfihjajllfihjaaDoor
