/- What a node of the tree tells, and what elements weigh: walks of size, high, weighs, plus, Weight, weigh. Conditions: the tree or the row lies in memory; sums stay far below the word. -/
import Derived.Test.YtfihjajllfihjaaDoorProg
import Derived.Test.YtfihjajllfihjaaDoorRegion
import Derived.Test.YtfihjajllfihjaaDoorBase
import Derived.WalkKit
import Derived.WalkSpells
import Derived.WalkLawsBesides
namespace Go.Proofs.YtfihjajllfihjaaDoor
set_option linter.unusedSimpArgs false
set_option linter.unusedVariables false
open Go Go.RowKit

theorem plus_any (a b c d : Int) (w : World) :
    Calls Tryd.prog 132 #[.agg #[.int .i64 a, .int .i64 b], .agg #[.int .i64 c, .int .i64 d]] w fun e w' => e = .returned (.agg #[.int .i64 (wrap64 (a + c)), .int .i64 (wrap64 (b + d))]) ∧ Below w.heap.size w w' := by
  go_enter Tryd.func132, Tryd.ntmps132
  go_wp2
  exact bodyPost_ret (v := .agg #[.int .i64 (wrap64 (a + c)), .int .i64 (wrap64 (b + d))]) (by simp [results, Tryd.results132, go_sem]) rfl ⟨rfl, (((Below.refl _ _).alloc (Nat.le_refl _) _).alloc (by simp) _).alloc (by simp; omega) _⟩
/-- two weights of which the sums do not wrap -/
theorem plus_in (a b c d : Int) (w : World) (h1 : 0 ≤ a) (h2 : 0 ≤ b) (h3 : 0 ≤ c) (h4 : 0 ≤ d) (h5 : a + c ≤ 4611686018427387904) (h6 : b + d ≤ 4611686018427387904) :
    Calls Tryd.prog 132 #[.agg #[.int .i64 a, .int .i64 b], .agg #[.int .i64 c, .int .i64 d]] w fun e w' => e = .returned (.agg #[.int .i64 (a + c), .int .i64 (b + d)]) ∧ Below w.heap.size w w' := by
  have h := plus_any a b c d w
  rw [IntWalk.wrap64_in _ ⟨by omega, by omega⟩, IntWalk.wrap64_in _ ⟨by omega, by omega⟩] at h
  exact h
theorem weight_any (e : El) (w : World) :
    Calls Tryd.prog 74 #[.agg #[.int .i64 e.epoch, .int .i64 e.rep, .int .i64 e.num, .int .i32 e.char, .int .i64 e.hides]] w fun en w' => en = .returned (.agg #[.int .i64 e.live, .int .i64 e.lines]) ∧ Below w.heap.size w w' := by
  go_enter Tryd.func74, Tryd.ntmps74
  go_wp2
  · have h : 0 < e.hides := by assumption
    exact bodyPost_ret (v := .agg #[.int .i64 0, .int .i64 0]) (by simp [results, Tryd.results74, go_sem]) rfl ⟨by simp [El.live, El.lines, h], (((Below.refl _ _).alloc (Nat.le_refl _) _).alloc (by simp) _)⟩
  · have h : e.hides ≤ 0 := by assumption
    have hc : (e.char == 10) = true := by assumption
    have hc' : e.char = 10 := by simpa using hc
    have h' : ¬ 0 < e.hides := by omega
    exact bodyPost_ret (v := .agg #[.int .i64 1, .int .i64 1]) (by simp [results, Tryd.results74, go_sem]) rfl ⟨by simp [El.live, El.lines, h', hc'], (((Below.refl _ _).alloc (Nat.le_refl _) _).alloc (by simp) _)⟩
  · have h : e.hides ≤ 0 := by assumption
    have hc : (e.char == 10) = false := by assumption
    have hc' : ¬ e.char = 10 := by simpa using hc
    have h' : ¬ 0 < e.hides := by omega
    exact bodyPost_ret (v := .agg #[.int .i64 1, .int .i64 0]) (by simp [results, Tryd.results74, go_sem]) rfl ⟨by simp [El.live, El.lines, h', hc'], (((Below.refl _ _).alloc (Nat.le_refl _) _).alloc (by simp) _)⟩

theorem size_any (t : Tr) (p : Option Addr) (S : Nat → Prop) (w : World) (h : IsTree w S t p) :
    Calls Tryd.prog 128 #[.pointer p] w fun e w' => e = .returned (.int .i64 t.all.length) ∧ w = w' := by
  cases t with
  | nil =>
    obtain rfl := h
    go_enter Tryd.func128, Tryd.ntmps128
    go_wp2
    go_ret
    exact ⟨rfl, rfl⟩
  | node l row r =>
    obtain ⟨hne, b, A, n, c, pl, pr, rfl, hs, hr, hl, hr', c0, c1, c2, c3, c4, c5, c6⟩ := h
    clear hr hl hr' c0 c1 c2 c4 c5 c6
    go_enter Tryd.func128, Tryd.ntmps128
    go_wp2
    go_ret
    exact ⟨rfl, rfl⟩
theorem high_any (t : Tr) (p : Option Addr) (S : Nat → Prop) (w : World) (h : IsTree w S t p) :
    Calls Tryd.prog 168 #[.pointer p] w fun e w' => e = .returned (.int .i64 t.high) ∧ w = w' := by
  cases t with
  | nil =>
    obtain rfl := h
    go_enter Tryd.func168, Tryd.ntmps168
    go_wp2
    go_ret
    exact ⟨rfl, rfl⟩
  | node l row r =>
    obtain ⟨hne, b, A, n, c, pl, pr, rfl, hs, hr, hl, hr', c0, c1, c2, c3, c4, c5, c6⟩ := h
    clear hr hl hr' c0 c1 c2 c3 c5 c6
    go_enter Tryd.func168, Tryd.ntmps168
    go_wp2
    go_ret
    exact ⟨rfl, rfl⟩
theorem weighs_any (t : Tr) (p : Option Addr) (S : Nat → Prop) (w : World) (h : IsTree w S t p) :
    Calls Tryd.prog 127 #[.pointer p] w fun e w' => e = .returned (.agg #[.int .i64 (liveOf t.all), .int .i64 (linesOf t.all)]) ∧ Below w.heap.size w w' := by
  cases t with
  | nil =>
    obtain rfl := h
    go_enter Tryd.func127, Tryd.ntmps127
    go_wp2
    exact bodyPost_ret (v := .agg #[.int .i64 0, .int .i64 0]) (by simp [results, Tryd.results127, go_sem]) rfl ⟨rfl, ((Below.refl _ _).alloc (Nat.le_refl _) _)⟩
  | node l row r =>
    obtain ⟨hne, b, A, n, c, pl, pr, rfl, hs, hr, hl, hr', c0, c1, c2, c3, c4, c5, c6⟩ := h
    clear hr hl hr' c0 c1 c2 c3 c4
    have hb := lt_of_cell' c5
    go_enter Tryd.func127, Tryd.ntmps127
    go_wp2
    exact bodyPost_ret (v := .agg #[.int .i64 (liveOf (Tr.node l row r).all), .int .i64 (linesOf (Tr.node l row r).all)]) (by simp [results, Tryd.results127, go_sem]) rfl ⟨rfl, ((Below.refl _ _).alloc (Nat.le_refl _) _)⟩
end Go.Proofs.YtfihjajllfihjaaDoor
