/- Part of a proof: what functions of the program compute. Conditions: as each theorem says. -/
import Derived.Test.YteggpddlkkjmjaaGreatDoorQ13
import Derived.Test.YteggpddlkkjmjaaGreatDoorQ14
set_option linter.unusedSimpArgs false
set_option linter.unusedVariables false
set_option maxHeartbeats 2000000
set_option maxRecDepth 20000
namespace Go.Proofs.YteggpddlkkjmjaaGreatDoor
open Go Go.RowKit
theorem wrongOf_eq (l : List El) (e : El) : wrongOf l e = wrongS (l.map El.nm) e := rfl
theorem refOf_no (A : Option Addr) (n c j code : Nat) (ls : List El) (ej : El) (S S' : Nat → Prop) (w : World) (h : Row w S A n c ls) (hn : n ≤ 1048576) (hr : AllRight (ls.take j)) (hj : ls[j]? = some ej) (hw : wrongS ((ls.take j).map El.nm) ej = code) (h0 : code ≠ 0) (h13 : code ≤ 13) :
 Calls Tryz.prog 58 #[.slice A n c] w fun r w' => ∃ v, r = .returned (.tuple #[.slice none 0 0, v]) ∧ IsNo w' (Fr w S') [⟨({ data := #[109, 111, 100, 101, 108] } : ByteArray), ({ data := #[79, 102] } : ByteArray), atOf j⟩] code v ∧ Below w.heap.size w w' := by
 have hjl : j < n := by rw [← h.1]; exact (List.getElem?_eq_some_iff.1 hj).1
 have Hr := hid h
 have hnl := h.1
 have hnm := h.len_le
 unfold maxLen at hnm
 clear h
 have b1 : Below w.heap.size w (w.alloc (.cells #[.int .i64 0, .slice none 0 0, .slice none 0 0] 62)) := balloc (Below.refl _ _)
 have hN := Blk.new w 62 #[.int .i64 0, .slice none 0 0, .slice none 0 0]
 have hz1 : (w.alloc (.cells #[.int .i64 0, .slice none 0 0, .slice none 0 0] 62)).heap.size = w.heap.size + 1 := boxSz _ _
 go_enter Tryz.func58, Tryz.ntmps58
 repeat' (first | go_step)
 generalize w.alloc (.cells #[.int .i64 0, .slice none 0 0, .slice none 0 0] 62) = W1 at *
 have HA := hid (And.intro hr (And.intro hj hw))
 have HS := hid (fun W => say_any ({ data := #[109, 111, 100, 101, 108] } : ByteArray) ({ data := #[79, 102] } : ByteArray) j code (by omega) h13 (fun b => S' b ∧ b < w.heap.size) W)
 clear hr hj hw
 go_loopw [4, 5] (fun o i wr => ∃ (k : Nat) (A' : Option Addr) (c' : Nat), i = .int .i64 k ∧ o = .slice A' k c' ∧ k ≤ j ∧ Own wr (w.heap.size + 1) A' k c' (ls.take k) ∧ Blk wr w.heap.size 62 #[.int .i64 0, .slice none 0 0, .slice none 0 0] ∧ Below w.heap.size w wr) (fun _ i _ => n - (intOf i).toNat)
 case atStart => exact ⟨0, none, 0, rfl, rfl, Nat.zero_le _, Own.nil _ _, hN, b1⟩
 case round =>
  have hz1' := hz1
  clear hN b1 hz1
  obtain ⟨k, A', c', rfl, rfl, hk, hown, hN, hbr⟩ := hrel
  have hltn : k < n := by omega
  obtain ⟨b, off, e, rfl, hS, he, c0, c1, c2, c3, c4⟩ := (Hr.out.step hbr).at_ hltn
  have hbl := lt_of_cell' c0
  dsimp only at hbl
  have hNl := hN.lt
  by_cases hlt : k < j
  · have hw0 : wrongOf (ls.take k) e = 0 := by
     have := HA.out.1 k e (by rw [List.getElem?_take, if_pos hlt]; exact he)
     rw [List.take_take, Nat.min_eq_left (by omega)] at this
     exact this
    have hsn := take_snoc_el he
    have HW := hid (wrong_any A' k c' (ls.take k) (fun _ => True) e wr (hown.row fun _ _ _ => trivial) (by omega))
    rw [hw0] at HW
    have hsz := hbr.size
    have Hs := hid (And.intro hsn (And.intro hown hN))
    clear hw0 hsn he hown hN
    repeat' (first | (go_at_call 96; go_must ((with_reducible refine Calls.mono HW.out ?_); rintro _ w2 ⟨rfl, hb2⟩; have c0 := kc hb2 c0; have c1 := kc hb2 c1; have c2 := kc hb2 c2; have c3 := kc hb2 c3; have c4 := kc hb2 c4; have hbl := Nat.lt_of_lt_of_le hbl hb2.size; have eX : Below w2.heap.size w2 (w2.alloc (.cells #[.int .i64 e.epoch, .int .i64 e.rep, .int .i64 e.num, .int .i32 e.char, .int .i64 e.hides] 113)) := balloc (Below.refl _ _); have hownX := (Hs.out.2.1.step hb2).step eX; have hNX := (Hs.out.2.2.step hb2).step eX; have hrow1 := Row.one w2 e; have hbX := bvia (bvia hbr hb2) eX; dsimp only)) | ((with_reducible refine append_here ?_); refine wp_append_el (w.heap.size + 1) A' _ k c' 1 1 (ls.take k) [e] (fun _ => True) (by rfl) (by rfl) hownX hrow1 (by have := hb2.size; have := eX.size; omega) (by omega) ?_; intro A2 c2' w4 hown4 hb4 hsm4 hat4 hz4) | go_step)
    go_roundw
    case rel =>
     refine ⟨k + 1, A2, c2', by go_num, rfl, by omega, ?_, hownX.other hsm4 hNX (fun cs z e' => by injection e' with _ e'; revert e'; decide), hbX.trans (hb4.mono (by omega))⟩
     rw [Hs.out.1]
     exact hown4
    case measure => simp [intOf]; omega
  · obtain rfl : k = j := by omega
    obtain rfl := Option.some.inj (he.symm.trans HA.out.2.1)
    have HW := hid (wrong_any A' k c' (ls.take k) (fun _ => True) e wr (hown.row fun _ _ _ => trivial) (by omega))
    rw [wrongOf_eq, HA.out.2.2] at HW
    have n0 : ¬ ((code : Int) = 0) := by omega
    have n0' : ((code : Int) == 0) = false := by simpa using n0
    clear he hown
    repeat' (first | (go_at_call 96; go_must ((with_reducible refine Calls.mono HW.out ?_); rintro _ w2 ⟨rfl, hb2⟩; dsimp only)) | (go_at_call 57; go_must ((with_reducible refine Calls.mono (HS.out _) ?_); rintro _ w3 ⟨v, rfl, hno, hb3⟩; have HNo := hid hno; obtain ⟨g1, B, m, d, C, q, rfl, hr1, hr2⟩ := hno; have hN3 := (hN.step hb2).step hb3; obtain ⟨rl, r0, r1, r2, f0, f1, f2⟩ := bl3 hN3; dsimp only)) | go_step)
    have hbb := bvia hbr hb2
    refine bodyPost_ret (v := .tuple #[.slice none 0 0, .agg #[.int .i64 code, .slice B m d, .slice C 1 q]]) (by simp [results, Tryz.results58, go_sem, r0, r1, r2, rl, size_set]) rfl ⟨_, rfl, ?_, ?_⟩
    · exact IsNo.boxed (W := w2) HNo.out (Nat.le_refl _) (Nat.lt_of_lt_of_le hNl hb2.size) hbb.size _ _ _
    · exact bset (bset (bset (bvia hbb hb3) (Nat.le_refl _)) (Nat.le_refl _)) (Nat.le_refl _)
end Go.Proofs.YteggpddlkkjmjaaGreatDoor
