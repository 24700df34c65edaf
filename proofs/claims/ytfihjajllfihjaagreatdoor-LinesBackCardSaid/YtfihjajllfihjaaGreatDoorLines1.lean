/- lines.refused, Count, there, ends, Start, Length, Text, Place: the walks. Conditions: the model and the reasons lie in memory, fewer than 2^29 elements. -/
import Derived.Test.YtfihjajllfihjaaGreatDoorPlain6
namespace Go.Proofs.YtfihjajllfihjaaGreatDoor
set_option linter.unusedSimpArgs false
set_option linter.unusedVariables false
open Go Go.RowKit
variable {a : Nat → Addr}
theorem lrefused_range (c : ByteArray) (i : Int) (mb : Nat) (w : World) (S' : Nat → Prop) (hs : Sents w S' a) :
    Calls Tryz.prog 58 #[.pointer (some ⟨mb, 0, none⟩), .string c, .int .i64 i] w fun e w' => ∃ v, e = .returned v ∧ IsErr w' (Fr w S') a [⟨({ data := #[108, 105, 110, 101, 115] } : ByteArray), c, atOf i⟩] 2 v ∧ Below w.heap.size w w' := by
  have HE := hid (fun W => new_err (S := S') (a := a) ({ data := #[108, 105, 110, 101, 115] } : ByteArray) c i [] 2 (reason (a 2)) W ⟨by omega, by omega, rfl⟩)
  have c2 := hs.cell 2 (by omega) (by omega)
  simp only [gOf, reason] at c2
  go_enter Tryz.func58, Tryz.ntmps58
  repeat' (first | (go_at_call 70; go_must ((with_reducible refine Calls.mono (HE.out _) ?_); rintro _ w4 ⟨v, rfl, hv, hb4⟩; dsimp only)) | (with_reducible refine Keep.last ?_) | (with_reducible refine Keep.below (by assumption) ?_) | (with_reducible refine Keep.kept (by assumption) ?_) | (with_reducible refine Keep.alloc ?_) | (with_reducible refine Keep.same ?_) | ((with_reducible refine WpH.here ?_); first | (refine WpH.nil ?_; refine NoP.normal ?_) | (refine WpH.load (by rfl) (by rfl) (by go_simp; rfl) ?_; simp only [Act.put, List.setIfInBounds_toArray, List.set_cons_zero, List.set_cons_succ]) | (refine WpH.loadT (by rfl) (by rfl) (by go_simp; rfl) (by rintro _ _ ⟨⟩; exact ⟨_, _, _, _, _, _, by rfl, by assumption, by assumption⟩) ?_; simp only [Act.put, List.setIfInBounds_toArray, List.set_cons_zero, List.set_cons_succ]) | (refine WpH.pure (by rfl) (fun w_ => by go_simp; (try go_bits); rfl) ?_; simp only [Act.put, List.setIfInBounds_toArray, List.set_cons_zero, List.set_cons_succ]) | (refine WpH.wild1 (by rfl) (fun _ _ => ?_)) | (refine WpH.skip (by rfl) ?_; simp only [Act.put, List.setIfInBounds_toArray, List.set_cons_zero, List.set_cons_succ])) | go_values | go_skip | go_guarded | go_step | go_upon | go_back)
  skip
  go_ret
  exact ⟨v, rfl, hv, hb4⟩
theorem lrefused_nil (c : ByteArray) (i : Int) (w : World) (S' : Nat → Prop) (hs : Sents w S' a) :
    Calls Tryz.prog 58 #[.pointer none, .string c, .int .i64 i] w fun e w' => ∃ v, e = .returned v ∧ IsErr w' (Fr w S') a [⟨({ data := #[108, 105, 110, 101, 115] } : ByteArray), c, atOf (-1)⟩] 1 v ∧ Below w.heap.size w w' := by
  have HE := hid (fun W => new_err (S := S') (a := a) ({ data := #[108, 105, 110, 101, 115] } : ByteArray) c (-1) [] 1 (reason (a 1)) W ⟨by omega, by omega, rfl⟩)
  have c2 := hs.cell 1 (by omega) (by omega)
  simp only [gOf, reason] at c2
  go_enter Tryz.func58, Tryz.ntmps58
  repeat' (first | (go_at_call 70; go_must ((with_reducible refine Calls.mono (HE.out _) ?_); rintro _ w4 ⟨v, rfl, hv, hb4⟩; dsimp only)) | (with_reducible refine Keep.last ?_) | (with_reducible refine Keep.below (by assumption) ?_) | (with_reducible refine Keep.kept (by assumption) ?_) | (with_reducible refine Keep.alloc ?_) | (with_reducible refine Keep.same ?_) | ((with_reducible refine WpH.here ?_); first | (refine WpH.nil ?_; refine NoP.normal ?_) | (refine WpH.load (by rfl) (by rfl) (by go_simp; rfl) ?_; simp only [Act.put, List.setIfInBounds_toArray, List.set_cons_zero, List.set_cons_succ]) | (refine WpH.loadT (by rfl) (by rfl) (by go_simp; rfl) (by rintro _ _ ⟨⟩; exact ⟨_, _, _, _, _, _, by rfl, by assumption, by assumption⟩) ?_; simp only [Act.put, List.setIfInBounds_toArray, List.set_cons_zero, List.set_cons_succ]) | (refine WpH.pure (by rfl) (fun w_ => by go_simp; (try go_bits); rfl) ?_; simp only [Act.put, List.setIfInBounds_toArray, List.set_cons_zero, List.set_cons_succ]) | (refine WpH.wild1 (by rfl) (fun _ _ => ?_)) | (refine WpH.skip (by rfl) ?_; simp only [Act.put, List.setIfInBounds_toArray, List.set_cons_zero, List.set_cons_succ])) | go_values | go_skip | go_guarded | go_step | go_upon | go_back)
  skip
  go_ret
  exact ⟨v, rfl, hv, hb4⟩
theorem lcount_any (w : World) (S : Nat → Prop) (mb : Nat) (l : List El) (K n : Nat) (h : Mdl w S mb l K) (hl : l.length ≤ 536870912) (hn : (rowsOf l).length = n) :
    Calls Tryz.prog 22 #[.pointer (some ⟨mb, 0, none⟩)] w fun e w' => e = .returned (.int .i64 n) ∧ Below w.heap.size w w' := by
  have HL := hid (mlines_any w S mb l K h)
  have hle := linesOf_le l
  rw [rowsOf_length] at hn
  have hq : (linesOf l : Int) + 1 = n := by omega
  have hnb : (n : Int) ≤ 536870913 := by omega
  clear h hn
  go_enter Tryz.func22, Tryz.ntmps22
  repeat' (first | (go_at_call 48; go_must ((with_reducible refine Calls.mono HL.out ?_); rintro _ w1 ⟨rfl, hb1⟩; dsimp only)) | (with_reducible refine Keep.last ?_) | (with_reducible refine Keep.below (by assumption) ?_) | (with_reducible refine Keep.kept (by assumption) ?_) | (with_reducible refine Keep.alloc ?_) | (with_reducible refine Keep.same ?_) | ((with_reducible refine WpH.here ?_); first | (refine WpH.nil ?_; refine NoP.normal ?_) | (refine WpH.load (by rfl) (by rfl) (by go_simp; rfl) ?_; simp only [Act.put, List.setIfInBounds_toArray, List.set_cons_zero, List.set_cons_succ]) | (refine WpH.loadT (by rfl) (by rfl) (by go_simp; rfl) (by rintro _ _ ⟨⟩; exact ⟨_, _, _, _, _, _, by rfl, by assumption, by assumption⟩) ?_; simp only [Act.put, List.setIfInBounds_toArray, List.set_cons_zero, List.set_cons_succ]) | (refine WpH.pure (by rfl) (fun w_ => by go_simp; (try go_bits); rfl) ?_; simp only [Act.put, List.setIfInBounds_toArray, List.set_cons_zero, List.set_cons_succ]) | (refine WpH.wild1 (by rfl) (fun _ _ => ?_)) | (refine WpH.skip (by rfl) ?_; simp only [Act.put, List.setIfInBounds_toArray, List.set_cons_zero, List.set_cons_succ])) | go_values | go_skip | go_guarded | go_step | go_upon | go_back)
  skip
  go_ret
  exact ⟨rfl, hb1⟩
theorem lcount_nil (w : World) : Calls Tryz.prog 22 #[.pointer none] w fun e w' => e = .returned (.int .i64 0) ∧ Below w.heap.size w w' := by
  go_enter Tryz.func22, Tryz.ntmps22
  repeat' (first | (with_reducible refine Keep.last ?_) | (with_reducible refine Keep.below (by assumption) ?_) | (with_reducible refine Keep.kept (by assumption) ?_) | (with_reducible refine Keep.alloc ?_) | (with_reducible refine Keep.same ?_) | ((with_reducible refine WpH.here ?_); first | (refine WpH.nil ?_; refine NoP.normal ?_) | (refine WpH.load (by rfl) (by rfl) (by go_simp; rfl) ?_; simp only [Act.put, List.setIfInBounds_toArray, List.set_cons_zero, List.set_cons_succ]) | (refine WpH.loadT (by rfl) (by rfl) (by go_simp; rfl) (by rintro _ _ ⟨⟩; exact ⟨_, _, _, _, _, _, by rfl, by assumption, by assumption⟩) ?_; simp only [Act.put, List.setIfInBounds_toArray, List.set_cons_zero, List.set_cons_succ]) | (refine WpH.pure (by rfl) (fun w_ => by go_simp; (try go_bits); rfl) ?_; simp only [Act.put, List.setIfInBounds_toArray, List.set_cons_zero, List.set_cons_succ]) | (refine WpH.wild1 (by rfl) (fun _ _ => ?_)) | (refine WpH.skip (by rfl) ?_; simp only [Act.put, List.setIfInBounds_toArray, List.set_cons_zero, List.set_cons_succ])) | go_values | go_skip | go_guarded | go_step | go_upon | go_back)
  skip
  go_ret
  exact ⟨rfl, Below.refl _ _⟩
theorem lthere_ok (w : World) (S : Nat → Prop) (mb : Nat) (l : List El) (K k : Nat) (h : Mdl w S mb l K) (hl : l.length ≤ 536870912) (hk : k < (rowsOf l).length) :
    Calls Tryz.prog 63 #[.pointer (some ⟨mb, 0, none⟩), .int .i64 k] w fun e w' => e = .returned (.bool true) ∧ Below w.heap.size w w' := by
  have HC := hid (lcount_any w S mb l K _ h hl rfl)
  have h1 : (k : Int) < (rowsOf l).length := by omega
  have h0 : (k : Int) ≥ 0 := by omega
  clear h hk
  generalize (rowsOf l).length = n at *
  go_enter Tryz.func63, Tryz.ntmps63
  repeat' (first | (go_at_call 22; go_must ((with_reducible refine Calls.mono HC.out ?_); rintro _ w1 ⟨rfl, hb1⟩; dsimp only)) | (with_reducible refine Keep.last ?_) | (with_reducible refine Keep.below (by assumption) ?_) | (with_reducible refine Keep.kept (by assumption) ?_) | (with_reducible refine Keep.alloc ?_) | (with_reducible refine Keep.same ?_) | ((with_reducible refine WpH.here ?_); first | (refine WpH.nil ?_; refine NoP.normal ?_) | (refine WpH.load (by rfl) (by rfl) (by go_simp; rfl) ?_; simp only [Act.put, List.setIfInBounds_toArray, List.set_cons_zero, List.set_cons_succ]) | (refine WpH.loadT (by rfl) (by rfl) (by go_simp; rfl) (by rintro _ _ ⟨⟩; exact ⟨_, _, _, _, _, _, by rfl, by assumption, by assumption⟩) ?_; simp only [Act.put, List.setIfInBounds_toArray, List.set_cons_zero, List.set_cons_succ]) | (refine WpH.pure (by rfl) (fun w_ => by go_simp; (try go_bits); rfl) ?_; simp only [Act.put, List.setIfInBounds_toArray, List.set_cons_zero, List.set_cons_succ]) | (refine WpH.wild1 (by rfl) (fun _ _ => ?_)) | (refine WpH.skip (by rfl) ?_; simp only [Act.put, List.setIfInBounds_toArray, List.set_cons_zero, List.set_cons_succ])) | go_values | go_skip | go_guarded | go_step | go_upon | go_back)
  skip
  go_ret
  exact ⟨rfl, hb1⟩
theorem lthere_no (w : World) (S : Nat → Prop) (mb : Nat) (l : List El) (K : Nat) (i : Int) (h : Mdl w S mb l K) (hl : l.length ≤ 536870912) (hi : i < 0 ∨ ((rowsOf l).length : Int) ≤ i) :
    Calls Tryz.prog 63 #[.pointer (some ⟨mb, 0, none⟩), .int .i64 i] w fun e w' => e = .returned (.bool false) ∧ Below w.heap.size w w' := by
  by_cases h0 : i < 0
  · have h1 : ¬ i ≥ 0 := by omega
    clear h hi
    go_enter Tryz.func63, Tryz.ntmps63
    repeat' (first | (with_reducible refine Keep.last ?_) | (with_reducible refine Keep.below (by assumption) ?_) | (with_reducible refine Keep.kept (by assumption) ?_) | (with_reducible refine Keep.alloc ?_) | (with_reducible refine Keep.same ?_) | ((with_reducible refine WpH.here ?_); first | (refine WpH.nil ?_; refine NoP.normal ?_) | (refine WpH.load (by rfl) (by rfl) (by go_simp; rfl) ?_; simp only [Act.put, List.setIfInBounds_toArray, List.set_cons_zero, List.set_cons_succ]) | (refine WpH.loadT (by rfl) (by rfl) (by go_simp; rfl) (by rintro _ _ ⟨⟩; exact ⟨_, _, _, _, _, _, by rfl, by assumption, by assumption⟩) ?_; simp only [Act.put, List.setIfInBounds_toArray, List.set_cons_zero, List.set_cons_succ]) | (refine WpH.pure (by rfl) (fun w_ => by go_simp; (try go_bits); rfl) ?_; simp only [Act.put, List.setIfInBounds_toArray, List.set_cons_zero, List.set_cons_succ]) | (refine WpH.wild1 (by rfl) (fun _ _ => ?_)) | (refine WpH.skip (by rfl) ?_; simp only [Act.put, List.setIfInBounds_toArray, List.set_cons_zero, List.set_cons_succ])) | go_values | go_skip | go_guarded | go_step | go_upon | go_back)
    go_ret
    exact ⟨rfl, Below.refl _ _⟩
  · have HC := hid (lcount_any w S mb l K _ h hl rfl)
    have h1 : ¬ i < (rowsOf l).length := by omega
    have h2 : i ≥ 0 := by omega
    clear h hi h0
    generalize (rowsOf l).length = n at *
    go_enter Tryz.func63, Tryz.ntmps63
    repeat' (first | (go_at_call 22; go_must ((with_reducible refine Calls.mono HC.out ?_); rintro _ w1 ⟨rfl, hb1⟩; dsimp only)) | (with_reducible refine Keep.last ?_) | (with_reducible refine Keep.below (by assumption) ?_) | (with_reducible refine Keep.kept (by assumption) ?_) | (with_reducible refine Keep.alloc ?_) | (with_reducible refine Keep.same ?_) | ((with_reducible refine WpH.here ?_); first | (refine WpH.nil ?_; refine NoP.normal ?_) | (refine WpH.load (by rfl) (by rfl) (by go_simp; rfl) ?_; simp only [Act.put, List.setIfInBounds_toArray, List.set_cons_zero, List.set_cons_succ]) | (refine WpH.loadT (by rfl) (by rfl) (by go_simp; rfl) (by rintro _ _ ⟨⟩; exact ⟨_, _, _, _, _, _, by rfl, by assumption, by assumption⟩) ?_; simp only [Act.put, List.setIfInBounds_toArray, List.set_cons_zero, List.set_cons_succ]) | (refine WpH.pure (by rfl) (fun w_ => by go_simp; (try go_bits); rfl) ?_; simp only [Act.put, List.setIfInBounds_toArray, List.set_cons_zero, List.set_cons_succ]) | (refine WpH.wild1 (by rfl) (fun _ _ => ?_)) | (refine WpH.skip (by rfl) ?_; simp only [Act.put, List.setIfInBounds_toArray, List.set_cons_zero, List.set_cons_succ])) | go_values | go_skip | go_guarded | go_step | go_upon | go_back)
    skip
    go_ret
    exact ⟨rfl, hb1⟩
theorem lthere_nil (w : World) : Calls Tryz.prog 63 #[.pointer none, .int .i64 0] w fun e w' => e = .returned (.bool false) ∧ Below w.heap.size w w' := by
  have HC := hid (lcount_nil w)
  go_enter Tryz.func63, Tryz.ntmps63
  repeat' (first | (go_at_call 22; go_must ((with_reducible refine Calls.mono HC.out ?_); rintro _ w1 ⟨rfl, hb1⟩; dsimp only)) | (with_reducible refine Keep.last ?_) | (with_reducible refine Keep.below (by assumption) ?_) | (with_reducible refine Keep.kept (by assumption) ?_) | (with_reducible refine Keep.alloc ?_) | (with_reducible refine Keep.same ?_) | ((with_reducible refine WpH.here ?_); first | (refine WpH.nil ?_; refine NoP.normal ?_) | (refine WpH.load (by rfl) (by rfl) (by go_simp; rfl) ?_; simp only [Act.put, List.setIfInBounds_toArray, List.set_cons_zero, List.set_cons_succ]) | (refine WpH.loadT (by rfl) (by rfl) (by go_simp; rfl) (by rintro _ _ ⟨⟩; exact ⟨_, _, _, _, _, _, by rfl, by assumption, by assumption⟩) ?_; simp only [Act.put, List.setIfInBounds_toArray, List.set_cons_zero, List.set_cons_succ]) | (refine WpH.pure (by rfl) (fun w_ => by go_simp; (try go_bits); rfl) ?_; simp only [Act.put, List.setIfInBounds_toArray, List.set_cons_zero, List.set_cons_succ]) | (refine WpH.wild1 (by rfl) (fun _ _ => ?_)) | (refine WpH.skip (by rfl) ?_; simp only [Act.put, List.setIfInBounds_toArray, List.set_cons_zero, List.set_cons_succ])) | go_values | go_skip | go_guarded | go_step | go_upon | go_back)
  skip
  go_ret
  exact ⟨rfl, hb1⟩
/-- a line's end, as the model tells it -/
theorem leol_ok (w : World) (S : Nat → Prop) (mb : Nat) (l : List El) (K k q : Nat) (x : List Int) (h : Mdl w S mb l K) (hl : l.length ≤ 536870912) (hx : (rowsOf l)[k]? = some x) (hk : k + 1 < (rowsOf l).length) (hq : startS (rowsOf l) k + x.length = q) :
    Calls Tryz.prog 61 #[.pointer (some ⟨mb, 0, none⟩), .int .i64 k] w fun e w' => e = .returned (.tuple #[.int .i64 q, .nilIface]) ∧ Below w.heap.size w w' := by
  have hk2 : k < linesOf l := by rw [rowsOf_length] at hk; omega
  refine (mlineend_ok w S mb l K k h hl hk2).mono ?_
  rintro _ w' ⟨⟨m, e0, rfl, he0, hl0, hc0⟩, hb⟩
  have h1 := lineEnd_eol he0 hl0 hc0
  have h2 := (splitS_end hx).2.1 hk
  rw [h1.same h2, show startS (splitS (seenOf l)) k + x.length = q from hq]
  exact ⟨rfl, hb⟩
set_option maxHeartbeats 1000000 in
theorem lends_any (w : World) (S : Nat → Prop) (mb : Nat) (l : List El) (K k p q : Nat) (x : List Int) (h : Mdl w S mb l K) (hl : l.length ≤ 536870912) (hx : (rowsOf l)[k]? = some x) (hp : startS (rowsOf l) k = p) (hq : p + x.length = q) :
    Calls Tryz.prog 62 #[.pointer (some ⟨mb, 0, none⟩), .int .i64 k] w fun e w' => e = .returned (.tuple #[.int .i64 p, .int .i64 q]) ∧ Below w.heap.size w w' := by
  have hend := rowsOf_end hx
  rw [hp, hq] at hend
  have hle := liveOf_le l
  have hkl := (List.getElem?_eq_some_iff.1 hx).1
  have hqb : (q : Int) ≤ 536870912 := by omega
  have hpb : (p : Int) ≤ 536870912 := by omega
  have HV := hid (mlive_any w S mb l K h)
  have HL := hid (fun W (hb : Below w.heap.size w W) => mlines_any W S mb l K (h.step hb))
  have hlen := rowsOf_length l
  have hnl := linesOf_le l
  have D0 := Below.refl w.heap.size w
  have HE : k + 1 < (rowsOf l).length → ∀ W, Below w.heap.size w W → Calls Tryz.prog 61 #[.pointer (some ⟨mb, 0, none⟩), .int .i64 k] W fun e w' => e = .returned (.tuple #[.int .i64 q, .nilIface]) ∧ Below W.heap.size W w' := fun hk W hb => leol_ok W S mb l K k q x (h.step hb) hl hx hk (by rw [hp, hq])
  have HF : ∀ j : Nat, k = j + 1 → ∃ r : Nat, r + 1 = p ∧ ∀ W, Below w.heap.size w W → Calls Tryz.prog 61 #[.pointer (some ⟨mb, 0, none⟩), .int .i64 j] W fun e w' => e = .returned (.tuple #[.int .i64 r, .nilIface]) ∧ Below W.heap.size W w' := by
    intro j hj
    subst hj
    obtain ⟨y, hy⟩ : ∃ y, (rowsOf l)[j]? = some y := ⟨_, List.getElem?_eq_getElem (by omega)⟩
    rw [startS_succ hy] at hp
    exact ⟨startS (rowsOf l) j + y.length, hp, fun W hb => leol_ok W S mb l K j _ y (h.step hb) hl hy (by omega) rfl⟩
  have hD : Nat := 0
  by_cases hlast : k + 1 < (rowsOf l).length
  · have HE := hid (HE hlast)
    have hlt : (k : Int) < linesOf l := by omega
    rcases Nat.eq_zero_or_pos k with h0 | h0
    · subst h0
      obtain rfl : 0 = p := hp
      clear HF hx hkl hlast hend h hlen hq
      rw [show ((0 : Nat) : Int) = 0 from rfl] at *
      go_enter Tryz.func62, Tryz.ntmps62
      repeat' (first | (go_at_call 11; go_must ((with_reducible refine Calls.mono HV.out ?_); rintro _ w1 ⟨rfl, hb1⟩; have D0 := bvia D0 hb1; dsimp only)) | (go_at_call 48; go_must ((with_reducible refine Calls.mono (HL.out _ D0) ?_); rintro _ w2 ⟨rfl, hb2⟩; have D0 := bvia D0 hb2; dsimp only)) | (go_at_call 61; go_must ((with_reducible refine Calls.mono (HE.out _ D0) ?_); rintro _ w3 ⟨rfl, hb3⟩; have D0 := bvia D0 hb3; dsimp only)) | (with_reducible refine Keep.last ?_) | (with_reducible refine Keep.below (by assumption) ?_) | (with_reducible refine Keep.kept (by assumption) ?_) | (with_reducible refine Keep.alloc ?_) | (with_reducible refine Keep.same ?_) | ((with_reducible refine WpH.here ?_); first | (refine WpH.nil ?_; refine NoP.normal ?_) | (refine WpH.load (by rfl) (by rfl) (by go_simp; rfl) ?_; simp only [Act.put, List.setIfInBounds_toArray, List.set_cons_zero, List.set_cons_succ]) | (refine WpH.loadT (by rfl) (by rfl) (by go_simp; rfl) (by rintro _ _ ⟨⟩; exact ⟨_, _, _, _, _, _, by rfl, by assumption, by assumption⟩) ?_; simp only [Act.put, List.setIfInBounds_toArray, List.set_cons_zero, List.set_cons_succ]) | (refine WpH.pure (by rfl) (fun w_ => by go_simp; (try go_bits); rfl) ?_; simp only [Act.put, List.setIfInBounds_toArray, List.set_cons_zero, List.set_cons_succ]) | (refine WpH.wild1 (by rfl) (fun _ _ => ?_)) | (refine WpH.skip (by rfl) ?_; simp only [Act.put, List.setIfInBounds_toArray, List.set_cons_zero, List.set_cons_succ])) | go_values | go_skip | go_guarded | go_step | go_upon | go_back)
      skip
      go_ret2
      exact ⟨rfl, D0⟩
    · obtain ⟨j, hj⟩ : ∃ j : Nat, k = j + 1 := ⟨k - 1, by omega⟩
      obtain ⟨r, hr, HF⟩ := HF j hj
      have HF := hid HF
      have hkj : (k : Int) - 1 = j := by omega
      have hjb : (j : Int) ≤ 536870912 := by omega
      have hra : (r : Int) + 1 = p := by omega
      have hk0 : (k : Int) > 0 := by omega
      clear hx hkl hlast hend h hlen hq hr hj h0
      go_enter Tryz.func62, Tryz.ntmps62
      repeat' (first | (go_at_call 11; go_must ((with_reducible refine Calls.mono HV.out ?_); rintro _ w1 ⟨rfl, hb1⟩; have D0 := bvia D0 hb1; dsimp only)) | (go_at_call 48; go_must ((with_reducible refine Calls.mono (HL.out _ D0) ?_); rintro _ w2 ⟨rfl, hb2⟩; have D0 := bvia D0 hb2; dsimp only)) | (go_at_call 61; go_must ((first | (with_reducible refine Calls.mono (HF.out _ D0) ?_) | (with_reducible refine Calls.mono (HE.out _ D0) ?_)); rintro _ w3 ⟨rfl, hb3⟩; have D0 := bvia D0 hb3; dsimp only)) | (with_reducible refine Keep.last ?_) | (with_reducible refine Keep.below (by assumption) ?_) | (with_reducible refine Keep.kept (by assumption) ?_) | (with_reducible refine Keep.alloc ?_) | (with_reducible refine Keep.same ?_) | ((with_reducible refine WpH.here ?_); first | (refine WpH.nil ?_; refine NoP.normal ?_) | (refine WpH.load (by rfl) (by rfl) (by go_simp; rfl) ?_; simp only [Act.put, List.setIfInBounds_toArray, List.set_cons_zero, List.set_cons_succ]) | (refine WpH.loadT (by rfl) (by rfl) (by go_simp; rfl) (by rintro _ _ ⟨⟩; exact ⟨_, _, _, _, _, _, by rfl, by assumption, by assumption⟩) ?_; simp only [Act.put, List.setIfInBounds_toArray, List.set_cons_zero, List.set_cons_succ]) | (refine WpH.pure (by rfl) (fun w_ => by go_simp; (try go_bits); rfl) ?_; simp only [Act.put, List.setIfInBounds_toArray, List.set_cons_zero, List.set_cons_succ]) | (refine WpH.wild1 (by rfl) (fun _ _ => ?_)) | (refine WpH.skip (by rfl) ?_; simp only [Act.put, List.setIfInBounds_toArray, List.set_cons_zero, List.set_cons_succ])) | go_values | go_skip | go_guarded | go_step | go_upon | go_back)
      skip
      go_ret2
      exact ⟨rfl, D0⟩
  · have hlt : ¬ (k : Int) < linesOf l := by omega
    have hql := hend.2.2 (by omega)
    rw [← hql] at HV
    rcases Nat.eq_zero_or_pos k with h0 | h0
    · subst h0
      obtain rfl : 0 = p := hp
      clear HF HE hx hkl hlast hend h hlen hq hql
      rw [show ((0 : Nat) : Int) = 0 from rfl] at *
      go_enter Tryz.func62, Tryz.ntmps62
      repeat' (first | (go_at_call 11; go_must ((with_reducible refine Calls.mono HV.out ?_); rintro _ w1 ⟨rfl, hb1⟩; have D0 := bvia D0 hb1; dsimp only)) | (go_at_call 48; go_must ((with_reducible refine Calls.mono (HL.out _ D0) ?_); rintro _ w2 ⟨rfl, hb2⟩; have D0 := bvia D0 hb2; dsimp only)) | (with_reducible refine Keep.last ?_) | (with_reducible refine Keep.below (by assumption) ?_) | (with_reducible refine Keep.kept (by assumption) ?_) | (with_reducible refine Keep.alloc ?_) | (with_reducible refine Keep.same ?_) | ((with_reducible refine WpH.here ?_); first | (refine WpH.nil ?_; refine NoP.normal ?_) | (refine WpH.load (by rfl) (by rfl) (by go_simp; rfl) ?_; simp only [Act.put, List.setIfInBounds_toArray, List.set_cons_zero, List.set_cons_succ]) | (refine WpH.loadT (by rfl) (by rfl) (by go_simp; rfl) (by rintro _ _ ⟨⟩; exact ⟨_, _, _, _, _, _, by rfl, by assumption, by assumption⟩) ?_; simp only [Act.put, List.setIfInBounds_toArray, List.set_cons_zero, List.set_cons_succ]) | (refine WpH.pure (by rfl) (fun w_ => by go_simp; (try go_bits); rfl) ?_; simp only [Act.put, List.setIfInBounds_toArray, List.set_cons_zero, List.set_cons_succ]) | (refine WpH.wild1 (by rfl) (fun _ _ => ?_)) | (refine WpH.skip (by rfl) ?_; simp only [Act.put, List.setIfInBounds_toArray, List.set_cons_zero, List.set_cons_succ])) | go_values | go_skip | go_guarded | go_step | go_upon | go_back)
      skip
      go_ret2
      exact ⟨rfl, D0⟩
    · obtain ⟨j, hj⟩ : ∃ j : Nat, k = j + 1 := ⟨k - 1, by omega⟩
      obtain ⟨r, hr, HF⟩ := HF j hj
      have HF := hid HF
      have hkj : (k : Int) - 1 = j := by omega
      have hjb : (j : Int) ≤ 536870912 := by omega
      have hra : (r : Int) + 1 = p := by omega
      have hk0 : (k : Int) > 0 := by omega
      clear HE hx hkl hlast hend h hlen hq hr hj h0 hql
      go_enter Tryz.func62, Tryz.ntmps62
      repeat' (first | (go_at_call 11; go_must ((with_reducible refine Calls.mono HV.out ?_); rintro _ w1 ⟨rfl, hb1⟩; have D0 := bvia D0 hb1; dsimp only)) | (go_at_call 48; go_must ((with_reducible refine Calls.mono (HL.out _ D0) ?_); rintro _ w2 ⟨rfl, hb2⟩; have D0 := bvia D0 hb2; dsimp only)) | (go_at_call 61; go_must ((with_reducible refine Calls.mono (HF.out _ D0) ?_); rintro _ w3 ⟨rfl, hb3⟩; have D0 := bvia D0 hb3; dsimp only)) | (with_reducible refine Keep.last ?_) | (with_reducible refine Keep.below (by assumption) ?_) | (with_reducible refine Keep.kept (by assumption) ?_) | (with_reducible refine Keep.alloc ?_) | (with_reducible refine Keep.same ?_) | ((with_reducible refine WpH.here ?_); first | (refine WpH.nil ?_; refine NoP.normal ?_) | (refine WpH.load (by rfl) (by rfl) (by go_simp; rfl) ?_; simp only [Act.put, List.setIfInBounds_toArray, List.set_cons_zero, List.set_cons_succ]) | (refine WpH.loadT (by rfl) (by rfl) (by go_simp; rfl) (by rintro _ _ ⟨⟩; exact ⟨_, _, _, _, _, _, by rfl, by assumption, by assumption⟩) ?_; simp only [Act.put, List.setIfInBounds_toArray, List.set_cons_zero, List.set_cons_succ]) | (refine WpH.pure (by rfl) (fun w_ => by go_simp; (try go_bits); rfl) ?_; simp only [Act.put, List.setIfInBounds_toArray, List.set_cons_zero, List.set_cons_succ]) | (refine WpH.wild1 (by rfl) (fun _ _ => ?_)) | (refine WpH.skip (by rfl) ?_; simp only [Act.put, List.setIfInBounds_toArray, List.set_cons_zero, List.set_cons_succ])) | go_values | go_skip | go_guarded | go_step | go_upon | go_back)
      skip
      go_ret2
      exact ⟨rfl, D0⟩
end Go.Proofs.YtfihjajllfihjaaGreatDoor
