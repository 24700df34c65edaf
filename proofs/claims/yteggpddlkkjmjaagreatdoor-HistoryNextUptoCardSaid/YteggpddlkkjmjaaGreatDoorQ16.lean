/- Part of a proof: what functions of the program compute. Conditions: as each theorem says. -/
import Derived.Test.YteggpddlkkjmjaaGreatDoorQ14
import Derived.Test.YteggpddlkkjmjaaGreatDoorQ15
set_option linter.unusedSimpArgs false
set_option linter.unusedVariables false
set_option maxHeartbeats 2000000
set_option maxRecDepth 20000
namespace Go.Proofs.YteggpddlkkjmjaaGreatDoor
open Go Go.RowKit
def purgeOf (l : List El) : List El := l.filter fun e => decide (e.hides ≤ 0)
def deadOf (l : List El) : List El := l.filter fun e => decide (0 < e.hides)
theorem purgeOf_snoc (l : List El) (e : El) : purgeOf (l ++ [e]) = purgeOf l ++ if e.hides ≤ 0 then [e] else [] := by
 unfold purgeOf
 rw [List.filter_append]
 congr 1
 by_cases h : e.hides ≤ 0 <;> simp [h]
theorem deadOf_snoc (l : List El) (e : El) : deadOf (l ++ [e]) = deadOf l ++ if 0 < e.hides then [e] else [] := by
 unfold deadOf
 rw [List.filter_append]
 congr 1
 by_cases h : 0 < e.hides <;> simp [h]
theorem purgeOf_le (l : List El) : (purgeOf l).length ≤ l.length := List.length_filter_le _ _
theorem purgeOf_live (l : List El) : (purgeOf l).length = liveOf l := by
 induction l with
 | nil => rfl
 | cons e l ih =>
  unfold purgeOf at ih ⊢
  by_cases h : e.hides ≤ 0
  · rw [List.filter_cons_of_pos (by simpa using h)]
    have : liveOf (e :: l) = e.live + liveOf l := by simp [liveOf]
    rw [this, List.length_cons, ih]
    unfold El.live
    rw [if_neg (by omega)]
    omega
  · rw [List.filter_cons_of_neg (by simpa using h)]
    have : liveOf (e :: l) = e.live + liveOf l := by simp [liveOf]
    rw [this, ih]
    unfold El.live
    rw [if_pos (by omega)]
    omega
theorem purgeOf_full {l : List El} (h : (purgeOf l).length = l.length) : purgeOf l = l := by
 unfold purgeOf at h ⊢
 exact List.filter_eq_self.2 (List.length_filter_eq_length_iff.1 h)
theorem purgeOf_view (l : List El) : viewOf (purgeOf l) = viewOf l := by
 induction l with
 | nil => rfl
 | cons e l ih =>
  have h : viewOf (e :: l) = e.says ++ viewOf l := rfl
  rw [h, ← ih]
  unfold purgeOf
  by_cases hh : e.hides ≤ 0
  · rw [List.filter_cons_of_pos (by simpa using hh)]
    rfl
  · rw [List.filter_cons_of_neg (by simpa using hh)]
    unfold El.says
    rw [if_pos (by omega)]
    rfl
theorem purgeOf_mem {l : List El} {e : El} (h : e ∈ purgeOf l) : e ∈ l := (List.mem_filter.1 h).1
theorem purge_names {l : List El} (h : (l.map El.nm).Nodup) (j : Nm) : (j ∈ l.map El.nm ∧ j ∉ (deadOf l).map El.nm) ↔ j ∈ (purgeOf l).map El.nm := by
 constructor
 · rintro ⟨h1, h2⟩
   obtain ⟨e, he, rfl⟩ := List.mem_map.1 h1
   refine List.mem_map.2 ⟨e, List.mem_filter.2 ⟨he, ?_⟩, rfl⟩
   by_cases hh : e.hides ≤ 0
   · simpa using hh
   · exact absurd (List.mem_map.2 ⟨e, List.mem_filter.2 ⟨he, by simpa using (by omega : 0 < e.hides)⟩, rfl⟩) h2
 · intro h1
   obtain ⟨e, he, rfl⟩ := List.mem_map.1 h1
   obtain ⟨he, hh⟩ := List.mem_filter.1 he
   refine ⟨List.mem_map.2 ⟨e, he, rfl⟩, fun h2 => ?_⟩
   obtain ⟨f, hf, hn⟩ := List.mem_map.1 h2
   obtain ⟨hf, hd⟩ := List.mem_filter.1 hf
   obtain ⟨i, hi, rfl⟩ := List.getElem_of_mem he
   obtain ⟨k, hk, rfl⟩ := List.getElem_of_mem hf
   have hik : i = k := by
    rcases Nat.lt_trichotomy i k with h5 | h5 | h5
    · have h6 := List.pairwise_iff_getElem.1 h i k (by simpa using hi) (by simpa using hk) h5; simp [hn] at h6
    · exact h5
    · have h6 := List.pairwise_iff_getElem.1 h k i (by simpa using hk) (by simpa using hi) h5; simp [hn] at h6
   subst hik
   have h3 : l[i].hides ≤ 0 := by simpa using hh
   have h4 : 0 < l[i].hides := by simpa using hd
   omega
theorem refPurge_any (A : Option Addr) (n c : Nat) (ls : List El) (S : Nat → Prop) (w : World) (h : Row w S A n c ls) (hn : n ≤ 1073741824) :
 Calls Tryz.prog 86 #[.slice A n c] w fun r w' => ∃ A' c', r = .returned (.slice A' (purgeOf ls).length c') ∧ Own w' w.heap.size A' (purgeOf ls).length c' (purgeOf ls) ∧ Below w.heap.size w w' := by
 have Hr := hid h
 have hnl := h.1
 have hnm := h.len_le
 unfold maxLen at hnm
 clear h
 go_enter Tryz.func86, Tryz.ntmps86
 repeat' (first | go_step)
 go_loopw [3, 4] (fun o i wr => ∃ (k m : Nat) (A' : Option Addr) (c' : Nat), i = .int .i64 k ∧ o = .slice A' m c' ∧ k ≤ n ∧ m ≤ k ∧ Own wr w.heap.size A' m c' (purgeOf (ls.take k)) ∧ Below w.heap.size w wr) (fun _ i _ => n - (intOf i).toNat)
 case atStart => exact ⟨0, 0, none, 0, rfl, rfl, Nat.zero_le _, Nat.zero_le _, Own.nil _ _, Below.refl _ _⟩
 case round =>
  obtain ⟨k, m, A', c', rfl, rfl, hk, hmk, hown, hbr⟩ := hrel
  by_cases hlt : k < n
  · obtain ⟨b, off, e, rfl, hS, he, c0, c1, c2, c3, c4⟩ := (Hr.out.step hbr).at_ hlt
    have hbl := lt_of_cell' c0
    dsimp only at hbl
    have hsn := take_snoc_el he
    have HL := hid (fun W => refLive_any e W)
    have Hs := hid (And.intro hsn hown)
    clear hsn he hown
    by_cases hh : e.hides ≤ 0
    · have dh : decide (e.hides ≤ 0) = true := decide_eq_true hh
      rw [dh] at HL
      have Hh := hid hh
      clear hh dh
      repeat' (first | (go_at_call 121; go_must ((with_reducible refine Calls.mono (HL.out _) ?_); rintro _ w2 ⟨rfl, hb2⟩; have c0 := kc hb2 c0; have c1 := kc hb2 c1; have c2 := kc hb2 c2; have c3 := kc hb2 c3; have c4 := kc hb2 c4; have hbl := Nat.lt_of_lt_of_le hbl hb2.size; have eX : Below w2.heap.size w2 (w2.alloc (.cells #[.int .i64 e.epoch, .int .i64 e.rep, .int .i64 e.num, .int .i32 e.char, .int .i64 e.hides] 113)) := balloc (Below.refl _ _); have hownX := (Hs.out.2.step hb2).step eX; have hrow1 := Row.one w2 e; have hbX := bvia (bvia hbr hb2) eX; dsimp only)) | ((with_reducible refine append_here ?_); refine wp_append_el w.heap.size A' _ m c' 1 1 (purgeOf (ls.take k)) [e] (fun _ => True) (by rfl) (by rfl) hownX hrow1 (by have := hbX.size; omega) (by omega) ?_; intro A2 c2' w4 hown4 hb4 hsm4 hat4 hz4) | go_step)
      go_roundw
      case rel =>
       refine ⟨k + 1, m + 1, A2, c2', by go_num, rfl, by omega, by omega, ?_, hbX.trans hb4⟩
       rw [Hs.out.1, purgeOf_snoc, if_pos Hh.out]
       exact hown4
      case measure => simp [intOf]; omega
    · have dh : decide (e.hides ≤ 0) = false := decide_eq_false hh
      rw [dh] at HL
      have Hh := hid hh
      clear hh dh
      repeat' (first | (go_at_call 121; go_must ((with_reducible refine Calls.mono (HL.out _) ?_); rintro _ w2 ⟨rfl, hb2⟩; dsimp only)) | go_step)
      go_roundw
      case rel =>
       refine ⟨k + 1, m, A', c', by go_num, rfl, by omega, by omega, ?_, bvia hbr hb2⟩
       rw [Hs.out.1, purgeOf_snoc, if_neg Hh.out, List.append_nil]
       exact Hs.out.2.step hb2
      case measure => simp [intOf]; omega
  · obtain rfl : k = n := by omega
    have hl : ls.take k = ls := List.take_of_length_le (by omega)
    rw [hl] at hown
    obtain rfl := hown.1
    repeat' (first | go_step)
    go_ret
    exact ⟨A', c', rfl, hown, hbr⟩
end Go.Proofs.YteggpddlkkjmjaaGreatDoor
