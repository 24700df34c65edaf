/- Rows of elements that may lie in a model, or the first that may not: plain. No condition. No program in sight. -/
import Derived.Test.YtfihjajllfihjaaDoorMOf
namespace Go.Proofs.YtfihjajllfihjaaDoor
set_option linter.unusedSimpArgs false
set_option linter.unusedVariables false
open Go Go.RowKit
/-- all of them may come in, one behind the other -/
def AllRight (ls : List El) : Prop := ∀ k e, ls[k]? = some e → wrongS ((ls.take k).map El.nm) e = 0
theorem AllRight.take {ls : List El} (h : AllRight ls) (n : Nat) : AllRight (ls.take n) := by
  intro k e he
  rw [List.getElem?_take] at he
  split at he
  · next hk =>
    rw [List.take_take, Nat.min_eq_left (by omega)]
    exact h k e he
  · cases he
theorem allRight_or (ls : List El) : AllRight ls ∨ ∃ j e, ls[j]? = some e ∧ AllRight (ls.take j) ∧ wrongS ((ls.take j).map El.nm) e ≠ 0 := by
  have key : ∀ n, n ≤ ls.length → AllRight (ls.take n) ∨ ∃ j e, ls[j]? = some e ∧ AllRight (ls.take j) ∧ wrongS ((ls.take j).map El.nm) e ≠ 0 := by
    intro n
    induction n with
    | zero =>
      intro _
      left
      intro k e he
      simp at he
    | succ n ih =>
      intro hn
      rcases ih (by omega) with h | h
      · have he : ls[n]? = some ls[n] := List.getElem?_eq_getElem (by omega)
        by_cases hw : wrongS ((ls.take n).map El.nm) ls[n] = 0
        · left
          intro k e hk
          rw [List.getElem?_take] at hk
          split at hk
          · next hkn =>
            rw [List.take_take, Nat.min_eq_left (by omega)]
            by_cases hk2 : k = n
            · subst hk2
              rw [he] at hk
              injection hk with hk
              subst hk
              exact hw
            · have := h k e (by rw [List.getElem?_take, if_pos (by omega)]; exact hk)
              rw [List.take_take, Nat.min_eq_left (by omega)] at this
              exact this
          · cases hk
        · exact .inr ⟨n, ls[n], he, h, hw⟩
      · exact .inr h
  have := key ls.length (Nat.le_refl _)
  rwa [List.take_of_length_le (Nat.le_refl _)] at this
theorem AllRight.good {ls : List El} (h : AllRight ls) (hin : ∀ e ∈ ls, e.nm.In) : ∀ e ∈ ls, e.Good := by
  intro e he
  obtain ⟨k, hk, rfl⟩ := List.getElem_of_mem he
  have hw := h k _ (List.getElem?_eq_getElem hk)
  rcases wrongS_cases ((ls.take k).map El.nm) ls[k] with ⟨h1, _⟩ | ⟨h1, _⟩ | ⟨h1, _⟩ | ⟨_, h2, h3, _⟩
  · omega
  · omega
  · omega
  · exact ⟨h2, h3, hin _ he⟩
theorem AllRight.nodup {ls : List El} (h : AllRight ls) : (ls.map El.nm).Nodup := by
  have key : ∀ n, n ≤ ls.length → ((ls.take n).map El.nm).Nodup := by
    intro n
    induction n with
    | zero => intro _; simp
    | succ n ih =>
      intro hn
      have he : ls[n]? = some ls[n] := List.getElem?_eq_getElem (by omega)
      have hw := h n _ he
      have hnot : El.nm ls[n] ∉ (ls.take n).map El.nm := by
        rcases wrongS_cases ((ls.take n).map El.nm) ls[n] with ⟨h1, _⟩ | ⟨h1, _⟩ | ⟨h1, _⟩ | ⟨_, _, _, h4⟩
        · omega
        · omega
        · omega
        · exact h4
      rw [take_snoc_el he, List.map_append, List.nodup_append]
      refine ⟨ih (by omega), by simp, ?_⟩
      intro x hx y hy e
      simp only [List.map_cons, List.map_nil, List.mem_cons, List.not_mem_nil, or_false] at hy
      subst hy
      subst e
      exact hnot hx
  have := key ls.length (Nat.le_refl _)
  rwa [List.take_of_length_le (Nat.le_refl _)] at this
theorem wrongS_le (s : List Nm) (e : El) : wrongS s e ≤ 13 := by
  unfold wrongS
  split
  · omega
  · split
    · omega
    · split <;> omega
end Go.Proofs.YtfihjajllfihjaaDoor
