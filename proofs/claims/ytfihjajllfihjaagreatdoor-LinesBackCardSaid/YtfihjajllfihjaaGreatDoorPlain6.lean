/- Chapter 6, plain: lines of a row of characters; the lines of a model's row are those of its characters seen. -/
import Derived.Test.YtfihjajllfihjaaGreatDoorMAsk3
namespace Go.Proofs.YtfihjajllfihjaaGreatDoor
set_option linter.unusedSimpArgs false
set_option linter.unusedVariables false
open Go Go.RowKit
/-- the characters seen -/
def seenOf (l : List El) : List Int := (purgeOf l).map El.char
theorem seenOf_length (l : List El) : (seenOf l).length = liveOf l := by rw [seenOf, List.length_map, purgeOf_live]
theorem seenOf_append (a b : List El) : seenOf (a ++ b) = seenOf a ++ seenOf b := by simp [seenOf, purgeOf]
theorem seenOf_one_live {e : El} (h : e.hides ≤ 0) : seenOf [e] = [e.char] := by simp [seenOf, purgeOf, h]
theorem seenOf_one_not {e : El} (h : ¬ e.hides ≤ 0) : seenOf [e] = [] := by simp [seenOf, purgeOf, h]
theorem linesOf_seen (l : List El) : linesOf l = (seenOf l).count 10 := by
  induction l with
  | nil => rfl
  | cons e l ih =>
    rw [linesOf_cons, ih, show e :: l = [e] ++ l from rfl, seenOf_append, List.count_append]
    congr 1
    unfold El.lines
    by_cases h : e.hides ≤ 0
    · rw [seenOf_one_live h, if_neg (by omega)]
      by_cases h2 : e.char = 10 <;> simp [h2]
    · rw [seenOf_one_not h, if_pos (by omega)]
      rfl
theorem seenOf_take (l : List El) (m : Nat) : seenOf (l.take m) = (seenOf l).take (liveOf (l.take m)) := by
  have h : seenOf l = seenOf (l.take m) ++ seenOf (l.drop m) := by rw [← seenOf_append, List.take_append_drop]
  rw [h, ← seenOf_length (l.take m), List.take_left' rfl]
theorem seenOf_get {l : List El} {m : Nat} {e : El} (he : l[m]? = some e) (h1 : e.live = 1) : (seenOf l)[liveOf (l.take m)]? = some e.char := by
  unfold seenOf
  rw [List.getElem?_map, live_purge he h1]
  rfl
/-- the k-th line end lies at q -/
def EolAt (s : List Int) (k q : Nat) : Prop := s[q]? = some 10 ∧ (s.take q).count 10 = k
theorem EolAt.same {s : List Int} {k q q' : Nat} (h : EolAt s k q) (h' : EolAt s k q') : q = q' := by
  have key : ∀ {a b : Nat}, EolAt s k a → EolAt s k b → ¬ a < b := by
    intro a b ha hb hlt
    have h1 : (s.take (a + 1)).count 10 = k + 1 := by
      rw [List.take_add_one, ha.1, List.count_append, ha.2]
      rfl
    have h2 : (s.take (a + 1)).count 10 ≤ (s.take b).count 10 := (List.take_sublist_take_left hlt).count_le 10
    rw [h1, hb.2] at h2
    omega
  rcases Nat.lt_trichotomy q q' with h1 | h1 | h1
  · exact absurd h1 (key h h')
  · exact h1
  · exact absurd h1 (key h' h)
theorem lineEnd_eol {l : List El} {m k : Nat} {e : El} (he : l[m]? = some e) (h1 : e.lines = 1) (hk : linesOf (l.take m) = k) : EolAt (seenOf l) k (liveOf (l.take m)) := by
  have hl : e.live = 1 ∧ e.char = 10 := by
    unfold El.lines at h1
    unfold El.live
    split at h1
    · omega
    · split at h1
      · next h2 h3 => exact ⟨if_neg h2, h3⟩
      · omega
  refine ⟨by rw [seenOf_get he hl.1, hl.2], ?_⟩
  rw [← seenOf_take, ← linesOf_seen, hk]
/-- cut at the line ends: the lines that are ended, and the one that is not -/
def cutStep (x : List (List Int) × List Int) (c : Int) : List (List Int) × List Int := if c = 10 then (x.1 ++ [x.2], []) else (x.1, x.2 ++ [c])
def cutOf (s : List Int) : List (List Int) × List Int := s.foldl cutStep ([], [])
theorem cutOf_snoc (s : List Int) (c : Int) : cutOf (s ++ [c]) = cutStep (cutOf s) c := by simp [cutOf]
def splitS (s : List Int) : List (List Int) := (cutOf s).1 ++ [(cutOf s).2]
theorem splitS_eol (s : List Int) : splitS (s ++ [10]) = splitS s ++ [[]] := by
  unfold splitS
  rw [cutOf_snoc]
  unfold cutStep
  rw [if_pos rfl]
theorem splitS_char (s : List Int) {c : Int} (h : c ≠ 10) : splitS (s ++ [c]) = (splitS s).set ((splitS s).length - 1) ((cutOf s).2 ++ [c]) := by
  unfold splitS
  rw [cutOf_snoc]
  unfold cutStep
  rw [if_neg h]
  simp
theorem splitS_last (s : List Int) : (splitS s)[(splitS s).length - 1]? = some (cutOf s).2 := by
  unfold splitS
  simp
/-- lines with their ends behind them -/
def endedS (ls : List (List Int)) : List Int := ls.flatMap (· ++ [10])
theorem endedS_append (a b : List (List Int)) : endedS (a ++ b) = endedS a ++ endedS b := by simp [endedS]
theorem endedS_one (x : List Int) : endedS [x] = x ++ [10] := by simp [endedS]
theorem cutOf_joined (s : List Int) : endedS (cutOf s).1 ++ (cutOf s).2 = s ∧ (∀ x ∈ (cutOf s).1, 10 ∉ x) ∧ 10 ∉ (cutOf s).2 := by
  suffices h : ∀ r : List Int, endedS (cutOf r.reverse).1 ++ (cutOf r.reverse).2 = r.reverse ∧ (∀ x ∈ (cutOf r.reverse).1, 10 ∉ x) ∧ 10 ∉ (cutOf r.reverse).2 by
    have := h s.reverse
    rwa [List.reverse_reverse] at this
  intro r
  induction r with
  | nil => exact ⟨rfl, fun x hx => absurd hx (by simp [cutOf]), by simp [cutOf]⟩
  | cons c r ih =>
    rw [List.reverse_cons, cutOf_snoc]
    unfold cutStep
    obtain ⟨h1, h2, h3⟩ := ih
    by_cases hc : c = 10
    · rw [if_pos hc]
      subst hc
      refine ⟨?_, fun x hx => ?_, by simp⟩
      · dsimp only
        rw [endedS_append, endedS_one, List.append_nil, ← List.append_assoc, h1]
      · rcases List.mem_append.1 hx with hx | hx
        · exact h2 x hx
        · have : x = (cutOf r.reverse).2 := by simpa using hx
          rw [this]
          exact h3
    · rw [if_neg hc]
      refine ⟨?_, h2, ?_⟩
      · dsimp only
        rw [← List.append_assoc, h1]
      · simp only [List.mem_append, List.mem_singleton, not_or]
        exact ⟨h3, fun h => hc h.symm⟩
theorem splitS_joined (s : List Int) : endedS (splitS s) = s ++ [10] := by
  unfold splitS
  rw [endedS_append, endedS_one, ← List.append_assoc, (cutOf_joined s).1]
theorem splitS_none {s x : List Int} (h : x ∈ splitS s) : 10 ∉ x := by
  unfold splitS at h
  rcases List.mem_append.1 h with h | h
  · exact (cutOf_joined s).2.1 x h
  · have : x = (cutOf s).2 := by simpa using h
    rw [this]
    exact (cutOf_joined s).2.2
theorem endedS_count (ls : List (List Int)) (h : ∀ x ∈ ls, 10 ∉ x) : (endedS ls).count 10 = ls.length := by
  induction ls with
  | nil => rfl
  | cons x ls ih =>
    rw [show x :: ls = [x] ++ ls from rfl, endedS_append, endedS_one, List.count_append, List.count_append, ih fun y hy => h y (List.mem_cons_of_mem _ hy), List.count_eq_zero.2 (h x List.mem_cons_self)]
    simp
    omega
theorem splitS_length (s : List Int) : (splitS s).length = s.count 10 + 1 := by
  rw [← endedS_count _ fun x hx => splitS_none hx, splitS_joined, List.count_append]
  rfl
/-- where a line begins -/
def startS (ls : List (List Int)) (k : Nat) : Nat := (endedS (ls.take k)).length
theorem startS_zero (ls : List (List Int)) : startS ls 0 = 0 := rfl
theorem startS_succ {ls : List (List Int)} {k : Nat} {x : List Int} (h : ls[k]? = some x) : startS ls (k + 1) = startS ls k + x.length + 1 := by
  unfold startS
  rw [List.take_add_one, h, endedS_append, show (some x).toList = [x] from rfl, endedS_one]
  simp
  omega
theorem splitS_at {s x : List Int} {k : Nat} (h : (splitS s)[k]? = some x) : s ++ [10] = endedS ((splitS s).take k) ++ (x ++ ([10] ++ endedS ((splitS s).drop (k + 1)))) := by
  rw [← splitS_joined]
  conv => lhs; rw [← List.take_append_drop k (splitS s)]
  rw [endedS_append]
  congr 1
  obtain ⟨hk, rfl⟩ := List.getElem?_eq_some_iff.1 h
  rw [List.drop_eq_getElem_cons hk, show (splitS s)[k] :: (splitS s).drop (k + 1) = [(splitS s)[k]] ++ (splitS s).drop (k + 1) from rfl, endedS_append, endedS_one, List.append_assoc]
theorem endedS_le (ls : List (List Int)) : ls.length ≤ (endedS ls).length := by
  induction ls with
  | nil => exact Nat.zero_le _
  | cons x ls ih =>
    rw [show x :: ls = [x] ++ ls from rfl, endedS_append, endedS_one]
    simp
    omega
/-- a line's end -/
theorem splitS_end {s x : List Int} {k : Nat} (h : (splitS s)[k]? = some x) : startS (splitS s) k + x.length ≤ s.length ∧ (k + 1 < (splitS s).length → EolAt s k (startS (splitS s) k + x.length)) ∧ (k + 1 = (splitS s).length → startS (splitS s) k + x.length = s.length) := by
  have hj := splitS_at h
  have hlen := congrArg List.length hj
  simp only [List.length_append, List.length_singleton] at hlen
  have hk := (List.getElem?_eq_some_iff.1 h).1
  have hst : (endedS ((splitS s).take k)).length = startS (splitS s) k := rfl
  rw [hst] at hlen
  refine ⟨by omega, fun hlt => ?_, fun heq => ?_⟩
  · have hd := endedS_le ((splitS s).drop (k + 1))
    rw [List.length_drop] at hd
    have hle : startS (splitS s) k + x.length < s.length := by omega
    have hcnt : (endedS ((splitS s).take k)).count 10 = k := by
      rw [endedS_count _ fun y hy => splitS_none (List.mem_of_mem_take hy), List.length_take]
      omega
    have hx := List.count_eq_zero.2 (splitS_none (List.mem_of_getElem? h))
    constructor
    · have : (s ++ [10])[startS (splitS s) k + x.length]? = some 10 := by
        rw [hj, List.getElem?_append_right (by omega), List.getElem?_append_right (by omega)]
        rw [show startS (splitS s) k + x.length - (endedS ((splitS s).take k)).length - x.length = 0 by omega]
        rfl
      rwa [List.getElem?_append_left hle] at this
    · have : (s ++ [10]).take (startS (splitS s) k + x.length) = endedS ((splitS s).take k) ++ x := by
        rw [hj, ← List.append_assoc]
        exact List.take_left' (by rw [List.length_append, hst])
      rw [List.take_append_of_le_length (by omega)] at this
      rw [this, List.count_append, hcnt, hx, Nat.add_zero]
  · have hd : (splitS s).drop (k + 1) = [] := List.drop_eq_nil_of_le (by omega)
    rw [hd, show (endedS []).length = 0 from rfl] at hlen
    omega
/-- a line's characters -/
theorem splitS_text {s x : List Int} {k : Nat} (h : (splitS s)[k]? = some x) : (s.drop (startS (splitS s) k)).take x.length = x := by
  have hj := splitS_at h
  have he := (splitS_end h).1
  have h1 : (s ++ [10]).drop (startS (splitS s) k) = x ++ ([10] ++ endedS ((splitS s).drop (k + 1))) := by
    rw [hj]
    exact List.drop_left' rfl
  rw [List.drop_append_of_le_length (by omega)] at h1
  have h2 := congrArg (List.take x.length) h1
  rw [List.take_append_of_le_length (by rw [List.length_drop]; omega), List.take_left' rfl] at h2
  exact h2
/-- the lines of a model's row -/
def rowsOf (l : List El) : List (List Int) := splitS (seenOf l)
theorem rowsOf_length (l : List El) : (rowsOf l).length = linesOf l + 1 := by rw [rowsOf, splitS_length, linesOf_seen]
def utf8S (s : List Int) : List UInt8 := s.flatMap Lib.encodeRune
theorem viewOf_seen (l : List El) : viewOf l = utf8S (seenOf l) := by
  rw [← purgeOf_view]
  unfold viewOf utf8S seenOf
  unfold purgeOf
  induction l with
  | nil => rfl
  | cons e l ih =>
    by_cases h : e.hides ≤ 0
    · rw [List.filter_cons_of_pos (by simpa using h), List.flatMap_cons, List.map_cons, List.flatMap_cons, ih]
      congr 1
      unfold El.says
      rw [if_neg (by omega)]
    · rw [List.filter_cons_of_neg (by simpa using h), ih]
theorem saidOf_seen (l : List El) (p n : Nat) : saidOf l p n = utf8S (((seenOf l).drop p).take n) := by
  unfold saidOf
  rw [viewOf_seen]
  congr 1
  unfold seenOf
  rw [← List.map_drop, ← List.map_take]
  congr 1
  unfold purgeOf
  rw [List.filter_eq_self.2]
  intro e he
  exact (List.mem_filter.1 (List.mem_of_mem_drop (List.mem_of_mem_take he))).2
theorem rowsOf_end {l : List El} {x : List Int} {k : Nat} (h : (rowsOf l)[k]? = some x) : startS (rowsOf l) k + x.length ≤ liveOf l ∧ (k + 1 < (rowsOf l).length → EolAt (seenOf l) k (startS (rowsOf l) k + x.length)) ∧ (k + 1 = (rowsOf l).length → startS (rowsOf l) k + x.length = liveOf l) := by
  have := splitS_end h
  rw [seenOf_length] at this
  exact this
theorem rowsOf_said {l : List El} {x : List Int} {k : Nat} (h : (rowsOf l)[k]? = some x) : saidOf l (startS (rowsOf l) k) x.length = utf8S x := by
  rw [saidOf_seen, show startS (rowsOf l) k = startS (splitS (seenOf l)) k from rfl, splitS_text h]
end Go.Proofs.YtfihjajllfihjaaGreatDoor
