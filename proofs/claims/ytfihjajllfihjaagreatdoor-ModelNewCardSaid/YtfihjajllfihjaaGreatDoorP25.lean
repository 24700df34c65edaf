/- Rows of elements that may lie in a model, or the first that may not: plain. No condition. No program in sight. The document's Of: the walks. Conditions: the row lies in memory, fewer than 2^20 elements. What a tree refuses: the walks of Remove, Set, At, Before, Find and FindLine out of range. Conditions: the tree and the reasons lie in memory, fewer than 2^30 elements. -/
import Derived.Test.YtfihjajllfihjaaGreatDoorP22
import Derived.Test.YtfihjajllfihjaaGreatDoorSRefApply
import Derived.Test.YtfihjajllfihjaaGreatDoorSLend
import Derived.Test.YtfihjajllfihjaaGreatDoorSTree12
import Derived.Test.YtfihjajllfihjaaGreatDoorP18
namespace Go.Proofs.YtfihjajllfihjaaGreatDoor
set_option linter.unusedSimpArgs false
set_option linter.unusedVariables false
open Go Go.RowKit
/-- all of them may come in, one behind the other -/
def AllRight (ls : List El) : Prop := ∀ k e, ls[k]? = some e → wrongS ((ls.take k).map El.nm) e = 0
theorem AllRight.take {ls : List El} (h : AllRight ls) (n : Nat) : AllRight (ls.take n) := by
  intro k e he
  rw [List.getElem?_take] at he
  split at he
  · next hk =>
    rw [List.take_take, Nat.min_eq_left (by omega)]
    exact h k e he
  · cases he
theorem allRight_or (ls : List El) : AllRight ls ∨ ∃ j e, ls[j]? = some e ∧ AllRight (ls.take j) ∧ wrongS ((ls.take j).map El.nm) e ≠ 0 := by
  have key : ∀ n, n ≤ ls.length → AllRight (ls.take n) ∨ ∃ j e, ls[j]? = some e ∧ AllRight (ls.take j) ∧ wrongS ((ls.take j).map El.nm) e ≠ 0 := by
    intro n
    induction n with
    | zero =>
      intro _
      left
      intro k e he
      simp at he
    | succ n ih =>
      intro hn
      rcases ih (by omega) with h | h
      · have he : ls[n]? = some ls[n] := List.getElem?_eq_getElem (by omega)
        by_cases hw : wrongS ((ls.take n).map El.nm) ls[n] = 0
        · left
          intro k e hk
          rw [List.getElem?_take] at hk
          split at hk
          · next hkn =>
            rw [List.take_take, Nat.min_eq_left (by omega)]
            by_cases hk2 : k = n
            · subst hk2
              rw [he] at hk
              injection hk with hk
              subst hk
              exact hw
            · have := h k e (by rw [List.getElem?_take, if_pos (by omega)]; exact hk)
              rw [List.take_take, Nat.min_eq_left (by omega)] at this
              exact this
          · cases hk
        · exact .inr ⟨n, ls[n], he, h, hw⟩
      · exact .inr h
  have := key ls.length (Nat.le_refl _)
  rwa [List.take_of_length_le (Nat.le_refl _)] at this
theorem AllRight.good {ls : List El} (h : AllRight ls) (hin : ∀ e ∈ ls, e.nm.In) : ∀ e ∈ ls, e.Good := by
  intro e he
  obtain ⟨k, hk, rfl⟩ := List.getElem_of_mem he
  have hw := h k _ (List.getElem?_eq_getElem hk)
  rcases wrongS_cases ((ls.take k).map El.nm) ls[k] with ⟨h1, _⟩ | ⟨h1, _⟩ | ⟨h1, _⟩ | ⟨_, h2, h3, _⟩
  · omega
  · omega
  · omega
  · exact ⟨h2, h3, hin _ he⟩
theorem AllRight.nodup {ls : List El} (h : AllRight ls) : (ls.map El.nm).Nodup := by
  have key : ∀ n, n ≤ ls.length → ((ls.take n).map El.nm).Nodup := by
    intro n
    induction n with
    | zero => intro _; simp
    | succ n ih =>
      intro hn
      have he : ls[n]? = some ls[n] := List.getElem?_eq_getElem (by omega)
      have hw := h n _ he
      have hnot : El.nm ls[n] ∉ (ls.take n).map El.nm := by
        rcases wrongS_cases ((ls.take n).map El.nm) ls[n] with ⟨h1, _⟩ | ⟨h1, _⟩ | ⟨h1, _⟩ | ⟨_, _, _, h4⟩
        · omega
        · omega
        · omega
        · exact h4
      rw [take_snoc_el he, List.map_append, List.nodup_append]
      refine ⟨ih (by omega), by simp, ?_⟩
      intro x hx y hy e
      simp only [List.map_cons, List.map_nil, List.mem_cons, List.not_mem_nil, or_false] at hy
      subst hy
      subst e
      exact hnot hx
  have := key ls.length (Nat.le_refl _)
  rwa [List.take_of_length_le (Nat.le_refl _)] at this
theorem wrongS_le (s : List Nm) (e : El) : wrongS s e ≤ 13 := by
  unfold wrongS
  split
  · omega
  · split
    · omega
    · split <;> omega
end Go.Proofs.YtfihjajllfihjaaGreatDoor
namespace Go.Proofs.YtfihjajllfihjaaGreatDoor
set_option linter.unusedSimpArgs false
set_option linter.unusedVariables false
open Go Go.RowKit
theorem wrongOf_eq (l : List El) (e : El) : wrongOf l e = wrongS (l.map El.nm) e := rfl
set_option maxRecDepth 20000 in
set_option maxHeartbeats 2000000 in
theorem refOf_ok (A : Option Addr) (n c : Nat) (ls : List El) (S : Nat → Prop) (w : World) (h : Row w S A n c ls) (hn : n ≤ 1048576) (hr : AllRight ls) :
    Calls Tryz.prog 28 #[.slice A n c] w fun r w' => ∃ A' c', r = .returned (.tuple #[.slice A' n c', noNone]) ∧ Own w' (w.heap.size + 1) A' n c' ls ∧ Below w.heap.size w w' := by
  have Hr := hid h
  have hnl := h.1
  have hnm := h.len_le
  unfold maxLen at hnm
  clear h
  have b1 : Below w.heap.size w (w.alloc (.cells #[.int .i64 0, .slice none 0 0, .slice none 0 0] 69)) := balloc (Below.refl _ _)
  have hN := Blk.new w 69 #[.int .i64 0, .slice none 0 0, .slice none 0 0]
  have hz1 : (w.alloc (.cells #[.int .i64 0, .slice none 0 0, .slice none 0 0] 69)).heap.size = w.heap.size + 1 := boxSz _ _
  go_enter Tryz.func28, Tryz.ntmps28
  repeat' (first | go_values | go_skip | go_guarded | go_step | go_upon | go_back)
  generalize w.alloc (.cells #[.int .i64 0, .slice none 0 0, .slice none 0 0] 69) = W1 at *
  have HA := hid hr
  clear hr
  go_loopw [4, 5] (fun o i wr => ∃ (k : Nat) (A' : Option Addr) (c' : Nat), i = .int .i64 k ∧ o = .slice A' k c' ∧ k ≤ n ∧ Own wr (w.heap.size + 1) A' k c' (ls.take k) ∧ Blk wr w.heap.size 69 #[.int .i64 0, .slice none 0 0, .slice none 0 0] ∧ Below w.heap.size w wr) (fun _ i _ => n - (intOf i).toNat)
  case atStart => exact ⟨0, none, 0, rfl, rfl, Nat.zero_le _, Own.nil _ _, hN, b1⟩
  case round =>
    have hz1' := hz1
    clear hN b1 hz1
    obtain ⟨k, A', c', rfl, rfl, hk, hown, hN, hbr⟩ := hrel
    by_cases hlt : k < n
    · obtain ⟨b, off, e, rfl, hS, he, c0, c1, c2, c3, c4⟩ := (Hr.out.step hbr).at_ hlt
      have hbl := lt_of_cell' c0
      dsimp only at hbl
      have hw0 : wrongOf (ls.take k) e = 0 := HA.out k e he
      have hNl := hN.lt
      have hsn := take_snoc_el he
      have HW := hid (wrong_any A' k c' (ls.take k) (fun _ => True) e wr (hown.row fun _ _ _ => trivial) (by omega))
      rw [hw0] at HW
      have hsz := hbr.size
      have Hs := hid (And.intro hsn (And.intro hown hN))
      clear hw0 hsn he hown hN
      repeat' (first | (go_at_call 72; go_must ((with_reducible refine Calls.mono HW.out ?_); rintro _ w2 ⟨rfl, hb2⟩; have c0 := kc hb2 c0; have c1 := kc hb2 c1; have c2 := kc hb2 c2; have c3 := kc hb2 c3; have c4 := kc hb2 c4; have hbl := Nat.lt_of_lt_of_le hbl hb2.size; have eX : Below w2.heap.size w2 (w2.alloc (.cells #[.int .i64 e.epoch, .int .i64 e.rep, .int .i64 e.num, .int .i32 e.char, .int .i64 e.hides] 32)) := balloc (Below.refl _ _); have hownX := (Hs.out.2.1.step hb2).step eX; have hNX := (Hs.out.2.2.step hb2).step eX; have hrow1 := Row.one w2 e; have hbX := bvia (bvia hbr hb2) eX; dsimp only)) | ((with_reducible refine append_here ?_); refine wp_append_el (w.heap.size + 1) A' _ k c' 1 1 (ls.take k) [e] (fun _ => True) (by rfl) (by rfl) hownX hrow1 (by have := hb2.size; have := eX.size; omega) (by omega) ?_; intro A2 c2' w4 hown4 hb4 hsm4 hat4 hz4) | go_values | go_skip | go_guarded | go_step | go_upon | go_back)
      go_roundw
      case rel =>
        refine ⟨k + 1, A2, c2', by go_num, rfl, by omega, ?_, hownX.other hsm4 hNX (fun cs z e' => by injection e' with _ e'; revert e'; decide), hbX.trans (hb4.mono (by omega))⟩
        rw [Hs.out.1]
        exact hown4
      case measure => simp [intOf]; omega
    · obtain rfl : k = n := by omega
      have hl : ls.take k = ls := List.take_of_length_le (by omega)
      rw [hl] at hown
      have f0 := hN.frozen 0
      have f1 := hN.frozen 1
      have f2 := hN.frozen 2
      have r0 := hN.cell 0
      have r1 := hN.cell 1
      have r2 := hN.cell 2
      have rl := hN.lt
      simp at r0 r1 r2
      repeat' (first | go_values | go_skip | go_guarded | go_step | go_upon | go_back)
      refine bodyPost_ret (v := .tuple #[.slice A' k c', .agg #[.int .i64 0, .slice none 0 0, .slice none 0 0]]) (by simp [results, Tryz.results28, go_sem, r0, r1, r2, rl, size_set]) rfl ⟨A', c', rfl, ?_, ?_⟩
      · have hne : ∀ a, A' = some a → a.block ≠ w.heap.size := fun a ha => by have := (hown.block a ha).1; omega
        exact ((hown.keep (S := fun b => b ≠ w.heap.size) (Same.setCell (p := ⟨w.heap.size, 0, none⟩) _ (fun h => h rfl) _) hne).keep (S := fun b => b ≠ w.heap.size) (Same.setCell (p := ⟨w.heap.size, 1, none⟩) _ (fun h => h rfl) _) hne).keep (S := fun b => b ≠ w.heap.size) (Same.setCell (p := ⟨w.heap.size, 2, none⟩) _ (fun h => h rfl) _) hne
      · exact bset (bset (bset hbr (Nat.le_refl _)) (Nat.le_refl _)) (Nat.le_refl _)
set_option maxRecDepth 20000 in
set_option maxHeartbeats 2000000 in
theorem refOf_no (A : Option Addr) (n c j code : Nat) (ls : List El) (ej : El) (S S' : Nat → Prop) (w : World) (h : Row w S A n c ls) (hn : n ≤ 1048576) (hr : AllRight (ls.take j)) (hj : ls[j]? = some ej) (hw : wrongS ((ls.take j).map El.nm) ej = code) (h0 : code ≠ 0) (h13 : code ≤ 13) :
    Calls Tryz.prog 28 #[.slice A n c] w fun r w' => ∃ v, r = .returned (.tuple #[.slice none 0 0, v]) ∧ IsNo w' (Fr w S') [⟨({ data := #[109, 111, 100, 101, 108] } : ByteArray), ({ data := #[79, 102] } : ByteArray), atOf j⟩] code v ∧ Below w.heap.size w w' := by
  have hjl : j < n := by rw [← h.1]; exact (List.getElem?_eq_some_iff.1 hj).1
  have Hr := hid h
  have hnl := h.1
  have hnm := h.len_le
  unfold maxLen at hnm
  clear h
  have b1 : Below w.heap.size w (w.alloc (.cells #[.int .i64 0, .slice none 0 0, .slice none 0 0] 69)) := balloc (Below.refl _ _)
  have hN := Blk.new w 69 #[.int .i64 0, .slice none 0 0, .slice none 0 0]
  have hz1 : (w.alloc (.cells #[.int .i64 0, .slice none 0 0, .slice none 0 0] 69)).heap.size = w.heap.size + 1 := boxSz _ _
  go_enter Tryz.func28, Tryz.ntmps28
  repeat' (first | go_values | go_skip | go_guarded | go_step | go_upon | go_back)
  generalize w.alloc (.cells #[.int .i64 0, .slice none 0 0, .slice none 0 0] 69) = W1 at *
  have HA := hid (And.intro hr (And.intro hj hw))
  have HS := hid (fun W => say_any ({ data := #[109, 111, 100, 101, 108] } : ByteArray) ({ data := #[79, 102] } : ByteArray) j code (by omega) h13 (fun b => S' b ∧ b < w.heap.size) W)
  clear hr hj hw
  go_loopw [4, 5] (fun o i wr => ∃ (k : Nat) (A' : Option Addr) (c' : Nat), i = .int .i64 k ∧ o = .slice A' k c' ∧ k ≤ j ∧ Own wr (w.heap.size + 1) A' k c' (ls.take k) ∧ Blk wr w.heap.size 69 #[.int .i64 0, .slice none 0 0, .slice none 0 0] ∧ Below w.heap.size w wr) (fun _ i _ => n - (intOf i).toNat)
  case atStart => exact ⟨0, none, 0, rfl, rfl, Nat.zero_le _, Own.nil _ _, hN, b1⟩
  case round =>
    have hz1' := hz1
    clear hN b1 hz1
    obtain ⟨k, A', c', rfl, rfl, hk, hown, hN, hbr⟩ := hrel
    have hltn : k < n := by omega
    obtain ⟨b, off, e, rfl, hS, he, c0, c1, c2, c3, c4⟩ := (Hr.out.step hbr).at_ hltn
    have hbl := lt_of_cell' c0
    dsimp only at hbl
    have hNl := hN.lt
    by_cases hlt : k < j
    · have hw0 : wrongOf (ls.take k) e = 0 := by
        have := HA.out.1 k e (by rw [List.getElem?_take, if_pos hlt]; exact he)
        rw [List.take_take, Nat.min_eq_left (by omega)] at this
        exact this
      have hsn := take_snoc_el he
      have HW := hid (wrong_any A' k c' (ls.take k) (fun _ => True) e wr (hown.row fun _ _ _ => trivial) (by omega))
      rw [hw0] at HW
      have hsz := hbr.size
      have Hs := hid (And.intro hsn (And.intro hown hN))
      clear hw0 hsn he hown hN
      repeat' (first | (go_at_call 72; go_must ((with_reducible refine Calls.mono HW.out ?_); rintro _ w2 ⟨rfl, hb2⟩; have c0 := kc hb2 c0; have c1 := kc hb2 c1; have c2 := kc hb2 c2; have c3 := kc hb2 c3; have c4 := kc hb2 c4; have hbl := Nat.lt_of_lt_of_le hbl hb2.size; have eX : Below w2.heap.size w2 (w2.alloc (.cells #[.int .i64 e.epoch, .int .i64 e.rep, .int .i64 e.num, .int .i32 e.char, .int .i64 e.hides] 32)) := balloc (Below.refl _ _); have hownX := (Hs.out.2.1.step hb2).step eX; have hNX := (Hs.out.2.2.step hb2).step eX; have hrow1 := Row.one w2 e; have hbX := bvia (bvia hbr hb2) eX; dsimp only)) | ((with_reducible refine append_here ?_); refine wp_append_el (w.heap.size + 1) A' _ k c' 1 1 (ls.take k) [e] (fun _ => True) (by rfl) (by rfl) hownX hrow1 (by have := hb2.size; have := eX.size; omega) (by omega) ?_; intro A2 c2' w4 hown4 hb4 hsm4 hat4 hz4) | go_values | go_skip | go_guarded | go_step | go_upon | go_back)
      go_roundw
      case rel =>
        refine ⟨k + 1, A2, c2', by go_num, rfl, by omega, ?_, hownX.other hsm4 hNX (fun cs z e' => by injection e' with _ e'; revert e'; decide), hbX.trans (hb4.mono (by omega))⟩
        rw [Hs.out.1]
        exact hown4
      case measure => simp [intOf]; omega
    · obtain rfl : k = j := by omega
      obtain rfl := Option.some.inj (he.symm.trans HA.out.2.1)
      have HW := hid (wrong_any A' k c' (ls.take k) (fun _ => True) e wr (hown.row fun _ _ _ => trivial) (by omega))
      rw [wrongOf_eq, HA.out.2.2] at HW
      have n0 : ¬ ((code : Int) = 0) := by omega
      have n0' : ((code : Int) == 0) = false := by simpa using n0
      clear he hown
      repeat' (first | (go_at_call 72; go_must ((with_reducible refine Calls.mono HW.out ?_); rintro _ w2 ⟨rfl, hb2⟩; dsimp only)) | (go_at_call 67; go_must ((with_reducible refine Calls.mono (HS.out _) ?_); rintro _ w3 ⟨v, rfl, hno, hb3⟩; have HNo := hid hno; obtain ⟨g1, B, m, d, C, q, rfl, hr1, hr2⟩ := hno; have hN3 := (hN.step hb2).step hb3; have r0 := hN3.cell 0; have r1 := hN3.cell 1; have r2 := hN3.cell 2; have f0 := hN3.frozen 0; have f1 := hN3.frozen 1; have f2 := hN3.frozen 2; have rl := hN3.lt; simp at r0 r1 r2; dsimp only)) | go_values | go_skip | go_guarded | go_step | go_upon | go_back)
      skip
      have hbb := bvia hbr hb2
      refine bodyPost_ret (v := .tuple #[.slice none 0 0, .agg #[.int .i64 code, .slice B m d, .slice C 1 q]]) (by simp [results, Tryz.results28, go_sem, r0, r1, r2, rl, size_set]) rfl ⟨_, rfl, ?_, ?_⟩
      · exact IsNo.boxed (W := w2) HNo.out (Nat.le_refl _) (Nat.lt_of_lt_of_le hNl hb2.size) hbb.size _ _ _
      · exact bset (bset (bset (bvia hbb hb3) (Nat.le_refl _)) (Nat.le_refl _)) (Nat.le_refl _)
end Go.Proofs.YtfihjajllfihjaaGreatDoor
namespace Go.Proofs.YtfihjajllfihjaaGreatDoor
set_option linter.unusedSimpArgs false
set_option linter.unusedVariables false
open Go Go.RowKit
variable {a : Nat → Addr}
theorem KeepT.set5 (w : World) (g : Nat) (x0 x1 x2 x3 x4 : Value) : KeepT (fun b => b ≠ g) w (((((w.setCell ⟨g, 0, none⟩ x0).setCell ⟨g, 1, none⟩ x1).setCell ⟨g, 2, none⟩ x2).setCell ⟨g, 3, none⟩ x3).setCell ⟨g, 4, none⟩ x4) :=
  ⟨by simp [World.setCell], fun b _ hb => (Below.heap_setCell _ _ _ _ hb).trans ((Below.heap_setCell _ _ _ _ hb).trans ((Below.heap_setCell _ _ _ _ hb).trans ((Below.heap_setCell _ _ _ _ hb).trans (Below.heap_setCell _ _ _ _ hb))))⟩
/-- a refusal of the tree behind steps that only made memory -/
theorem IsErr.tree1 {w W w' : World} {S' : Nat → Prop} {g : Nat} {c : ByteArray} {n : Int} (hb : Below w.heap.size w W) (hg : W.heap.size ≤ g) (h : Blk w' g 155 #[.string ({ data := #[116, 114, 101, 101] } : ByteArray), .string c, .int .i64 n, reason (a 2)]) :
    IsErr w' (Fr w S') a [⟨({ data := #[116, 114, 101, 101] } : ByteArray), c, n⟩] 2 (.iface 153 (.pointer (some ⟨g, 0, none⟩))) := (IsErr.one (w := W) (Sg := fun _ => False) (by omega) (by omega) hg h).more fun b _ h => by
  rcases h with h | h
  · exact False.elim h
  · exact .inr (Nat.le_trans hb.size h)
set_option maxRecDepth 50000 in
set_option maxHeartbeats 2000000 in
theorem at_no (T : Tr) (p : Option Addr) (bt chunk : Nat) (i : Int) (S S' : Nat → Prop) (w : World) (hblk : Blk w bt 142 #[.int .i64 chunk, .pointer p]) (hT : IsTree w S T p) (hs : Sents w S' a) (hi : i < 0 ∨ T.all.length ≤ i) :
    Calls Tryz.prog 84 #[.pointer (some ⟨bt, 0, none⟩), .int .i64 i] w fun r w' => ∃ v, r = .returned (.tuple #[.agg #[.int .i64 0, .int .i64 0, .int .i64 0, .int .i32 0, .int .i64 0], v]) ∧ IsErr w' (Fr w S') a [⟨({ data := #[116, 114, 101, 101] } : ByteArray), ({ data := #[65, 116] } : ByteArray), atOf i⟩] 2 v ∧ Below w.heap.size w w' := by
  obtain ⟨hB, hC, b2⟩ := boxes2 w 32 32 #[.int .i64 0, .int .i64 0, .int .i64 0, .int .i32 0, .int .i64 0] #[.int .i64 0, .int .i64 0, .int .i64 0, .int .i32 0, .int .i64 0]
  have c1 := (hs.step b2).cell 2 (by omega) (by omega)
  have nG := lt_of_cell' (hs.cell 2 (by omega) (by omega))
  simp only [gOf, reason] at c1 nG
  have nG' := Nat.ne_of_lt nG
  have HL := hid (fun W (hb : Below w.heap.size w W) => tlen_any T p bt chunk W (hblk.step hb) (hT.step hb))
  clear hblk hT
  by_cases h1 : i < 0
  · go_enter Tryz.func84, Tryz.ntmps84
    repeat' (first | (go_at_call 45; go_must ((with_reducible refine Calls.mono (HL.out _ (by (repeat' (first | (with_reducible exact Below.refl _ _) | (with_reducible assumption) | (with_reducible refine balloc ?_) | (with_reducible refine bdrew ?_) | (with_reducible refine bset ?_ (by (try dsimp only); omega)) | (with_reducible refine bvia ?_ (by assumption)))))) ?_); rintro _ _ ⟨rfl, rfl⟩; dsimp only)) | (with_reducible refine stop_region 3 ?_) | go_values | go_skip | go_guarded | go_step | go_upon | go_back)
    refine Stop.go ?_
    generalize (w.alloc (.cells #[.int .i64 0, .int .i64 0, .int .i64 0, .int .i32 0, .int .i64 0] 32)).alloc (.cells #[.int .i64 0, .int .i64 0, .int .i64 0, .int .i32 0, .int .i64 0] 32) = W1 at *
    obtain ⟨x0, x1, x2, x3, x4, xl⟩ := hC.five
    have hBl := hB.lt
    have qC : W1.drew.heap[w.heap.size + 1]? = some (.cells #[.int .i64 0, .int .i64 0, .int .i64 0, .int .i32 0, .int .i64 0] 32 (0, 0)) := hC
    have nC : w.heap.size + 1 ≠ w.heap.size := by omega
    obtain ⟨cs2, u2, z2, qG⟩ := cell_obj c1
    have qG' : W1.drew.heap[0]? = some (.cells cs2 u2 z2) := qG
    repeat' (first | ((with_reducible refine region_at 3 ?_); refine wp_region_orderT (fun b => b ≠ w.heap.size) [(0, true, false), (1, true, false), (2, true, false), (3, false, false), (4, false, false), (5, true, false)] (by kernel_rfl) (by kernel_rfl) (by kernel_rfl) rfl rfl ?_) | (with_reducible refine Keep.kept (KeepT.set5 _ _ _ _ _ _ _) ?_) | (go_at_call 70; go_must ((with_reducible refine (new_any _ _ i _ _ _).mono ?_); rintro _ w1 ⟨g, rfl, hg, hb, hbb⟩; rw [atOf_new] at hb; have hB1 := hB.drew.step hbb; obtain ⟨g0, g1, g2, g3, g4, gl⟩ := hB1.five; have f0 := hB1.frozen 0; have f1 := hB1.frozen 1; have f2 := hB1.frozen 2; have f3 := hB1.frozen 3; have f4 := hB1.frozen 4; dsimp only)) | (with_reducible refine Keep.last ?_) | (with_reducible refine Keep.below (by assumption) ?_) | (with_reducible refine Keep.kept (by assumption) ?_) | (with_reducible refine Keep.alloc ?_) | (with_reducible refine Keep.same ?_) | ((with_reducible refine WpH.here ?_); first | (refine WpH.nil ?_; refine NoP.normal ?_) | (refine WpH.load (by rfl) (by rfl) (by go_simp; rfl) ?_; simp only [Act.put, List.setIfInBounds_toArray, List.set_cons_zero, List.set_cons_succ]) | (refine WpH.loadT (by rfl) (by rfl) (by go_simp; rfl) (by rintro _ _ ⟨⟩; exact ⟨_, _, _, _, _, _, by rfl, by assumption, by assumption⟩) ?_; simp only [Act.put, List.setIfInBounds_toArray, List.set_cons_zero, List.set_cons_succ]) | (refine WpH.pure (by rfl) (fun w_ => by go_simp; (try go_bits); rfl) ?_; simp only [Act.put, List.setIfInBounds_toArray, List.set_cons_zero, List.set_cons_succ]) | (refine WpH.wild1 (by rfl) (fun _ _ => ?_)) | (refine WpH.skip (by rfl) ?_; simp only [Act.put, List.setIfInBounds_toArray, List.set_cons_zero, List.set_cons_succ])) | go_values | go_skip | go_guarded | go_step | go_upon | go_back)
    skip
    have hgw : W1.heap.size ≤ g := hg
    refine bodyPost_ret (v := .tuple #[.agg #[.int .i64 0, .int .i64 0, .int .i64 0, .int .i32 0, .int .i64 0], .iface 153 (.pointer (some ⟨g, 0, none⟩))]) (by simp [results, Tryz.results84, go_sem, g0, g1, g2, g3, g4, gl, size_set]) rfl ⟨_, rfl, ?_, ?_⟩
    · have hne : g ≠ w.heap.size := fun e => by have := hC.lt; (try clear hi); omega
      have hb' := ((((hb.far (p := ⟨w.heap.size, 0, none⟩) hne (.int .i64 0)).far (p := ⟨w.heap.size, 1, none⟩) hne (.int .i64 0)).far (p := ⟨w.heap.size, 2, none⟩) hne (.int .i64 0)).far (p := ⟨w.heap.size, 3, none⟩) hne (.int .i32 0)).far (p := ⟨w.heap.size, 4, none⟩) hne (.int .i64 0)
      exact IsErr.tree1 (bdrew b2) hg hb'
    · exact bset (bset (bset (bset (bset (bvia (bdrew b2) hbb) (Nat.le_refl _)) (Nat.le_refl _)) (Nat.le_refl _)) (Nat.le_refl _)) (Nat.le_refl _)
  · have h2 : (T.all.length : Int) ≤ i := by omega
    clear hi
    go_enter Tryz.func84, Tryz.ntmps84
    repeat' (first | (go_at_call 45; go_must ((with_reducible refine Calls.mono (HL.out _ (by (repeat' (first | (with_reducible exact Below.refl _ _) | (with_reducible assumption) | (with_reducible refine balloc ?_) | (with_reducible refine bdrew ?_) | (with_reducible refine bset ?_ (by (try dsimp only); omega)) | (with_reducible refine bvia ?_ (by assumption)))))) ?_); rintro _ _ ⟨rfl, rfl⟩; dsimp only)) | (with_reducible refine stop_region 3 ?_) | (with_reducible refine Keep.last ?_) | (with_reducible refine Keep.below (by assumption) ?_) | (with_reducible refine Keep.kept (by assumption) ?_) | (with_reducible refine Keep.alloc ?_) | (with_reducible refine Keep.same ?_) | ((with_reducible refine WpH.here ?_); first | (refine WpH.nil ?_; refine NoP.normal ?_) | (refine WpH.load (by rfl) (by rfl) (by go_simp; rfl) ?_; simp only [Act.put, List.setIfInBounds_toArray, List.set_cons_zero, List.set_cons_succ]) | (refine WpH.loadT (by rfl) (by rfl) (by go_simp; rfl) (by rintro _ _ ⟨⟩; exact ⟨_, _, _, _, _, _, by rfl, by assumption, by assumption⟩) ?_; simp only [Act.put, List.setIfInBounds_toArray, List.set_cons_zero, List.set_cons_succ]) | (refine WpH.pure (by rfl) (fun w_ => by go_simp; (try go_bits); rfl) ?_; simp only [Act.put, List.setIfInBounds_toArray, List.set_cons_zero, List.set_cons_succ]) | (refine WpH.wild1 (by rfl) (fun _ _ => ?_)) | (refine WpH.skip (by rfl) ?_; simp only [Act.put, List.setIfInBounds_toArray, List.set_cons_zero, List.set_cons_succ])) | go_values | go_skip | go_guarded | go_step | go_upon | go_back)
    refine Stop.go ?_
    generalize (w.alloc (.cells #[.int .i64 0, .int .i64 0, .int .i64 0, .int .i32 0, .int .i64 0] 32)).alloc (.cells #[.int .i64 0, .int .i64 0, .int .i64 0, .int .i32 0, .int .i64 0] 32) = W1 at *
    obtain ⟨x0, x1, x2, x3, x4, xl⟩ := hC.five
    have hBl := hB.lt
    have qC : W1.drew.heap[w.heap.size + 1]? = some (.cells #[.int .i64 0, .int .i64 0, .int .i64 0, .int .i32 0, .int .i64 0] 32 (0, 0)) := hC
    have nC : w.heap.size + 1 ≠ w.heap.size := by omega
    obtain ⟨cs2, u2, z2, qG⟩ := cell_obj c1
    have qG' : W1.drew.heap[0]? = some (.cells cs2 u2 z2) := qG
    repeat' (first | ((with_reducible refine region_at 3 ?_); refine wp_region_orderT (fun b => b ≠ w.heap.size) [(0, true, false), (1, true, false), (2, true, false), (3, false, false), (4, false, false), (5, true, false)] (by kernel_rfl) (by kernel_rfl) (by kernel_rfl) rfl rfl ?_) | (with_reducible refine Keep.kept (KeepT.set5 _ _ _ _ _ _ _) ?_) | (go_at_call 70; go_must ((with_reducible refine (new_any _ _ i _ _ _).mono ?_); rintro _ w1 ⟨g, rfl, hg, hb, hbb⟩; rw [atOf_new] at hb; have hB1 := hB.drew.step hbb; obtain ⟨g0, g1, g2, g3, g4, gl⟩ := hB1.five; have f0 := hB1.frozen 0; have f1 := hB1.frozen 1; have f2 := hB1.frozen 2; have f3 := hB1.frozen 3; have f4 := hB1.frozen 4; dsimp only)) | (with_reducible refine Keep.last ?_) | (with_reducible refine Keep.below (by assumption) ?_) | (with_reducible refine Keep.kept (by assumption) ?_) | (with_reducible refine Keep.alloc ?_) | (with_reducible refine Keep.same ?_) | ((with_reducible refine WpH.here ?_); first | (refine WpH.nil ?_; refine NoP.normal ?_) | (refine WpH.load (by rfl) (by rfl) (by go_simp; rfl) ?_; simp only [Act.put, List.setIfInBounds_toArray, List.set_cons_zero, List.set_cons_succ]) | (refine WpH.loadT (by rfl) (by rfl) (by go_simp; rfl) (by rintro _ _ ⟨⟩; exact ⟨_, _, _, _, _, _, by rfl, by assumption, by assumption⟩) ?_; simp only [Act.put, List.setIfInBounds_toArray, List.set_cons_zero, List.set_cons_succ]) | (refine WpH.pure (by rfl) (fun w_ => by go_simp; (try go_bits); rfl) ?_; simp only [Act.put, List.setIfInBounds_toArray, List.set_cons_zero, List.set_cons_succ]) | (refine WpH.wild1 (by rfl) (fun _ _ => ?_)) | (refine WpH.skip (by rfl) ?_; simp only [Act.put, List.setIfInBounds_toArray, List.set_cons_zero, List.set_cons_succ])) | go_values | go_skip | go_guarded | go_step | go_upon | go_back)
    skip
    have hgw : W1.heap.size ≤ g := hg
    refine bodyPost_ret (v := .tuple #[.agg #[.int .i64 0, .int .i64 0, .int .i64 0, .int .i32 0, .int .i64 0], .iface 153 (.pointer (some ⟨g, 0, none⟩))]) (by simp [results, Tryz.results84, go_sem, g0, g1, g2, g3, g4, gl, size_set]) rfl ⟨_, rfl, ?_, ?_⟩
    · have hne : g ≠ w.heap.size := fun e => by have := hC.lt; (try clear hi); omega
      have hb' := ((((hb.far (p := ⟨w.heap.size, 0, none⟩) hne (.int .i64 0)).far (p := ⟨w.heap.size, 1, none⟩) hne (.int .i64 0)).far (p := ⟨w.heap.size, 2, none⟩) hne (.int .i64 0)).far (p := ⟨w.heap.size, 3, none⟩) hne (.int .i32 0)).far (p := ⟨w.heap.size, 4, none⟩) hne (.int .i64 0)
      exact IsErr.tree1 (bdrew b2) hg hb'
    · exact bset (bset (bset (bset (bset (bvia (bdrew b2) hbb) (Nat.le_refl _)) (Nat.le_refl _)) (Nat.le_refl _)) (Nat.le_refl _)) (Nat.le_refl _)
end Go.Proofs.YtfihjajllfihjaaGreatDoor
