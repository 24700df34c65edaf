/- lines.Start, Length, Text, Place: the walks. Conditions: the model and the reasons lie in memory, fewer than 2^29 elements. -/
import Derived.Test.YtfihjajllfihjaaGreatDoorLines1
namespace Go.Proofs.YtfihjajllfihjaaGreatDoor
set_option linter.unusedSimpArgs false
set_option linter.unusedVariables false
open Go Go.RowKit
variable {a : Nat → Addr}
theorem lstart_ok (w : World) (S : Nat → Prop) (mb : Nat) (l : List El) (K k p q : Nat) (x : List Int) (h : Mdl w S mb l K) (hl : l.length ≤ 536870912) (hx : (rowsOf l)[k]? = some x) (hp : startS (rowsOf l) k = p) : Calls Tryz.prog 66 #[.pointer (some ⟨mb, 0, none⟩), .int .i64 k] w fun e w' => e = .returned (.tuple #[.int .i64 p, .nilIface]) ∧ Below w.heap.size w w' := by
  have HT := hid (lthere_ok w S mb l K k h hl (List.getElem?_eq_some_iff.1 hx).1)
  have HE := hid (fun W (hb : Below w.heap.size w W) => lends_any W S mb l K k p (p + x.length) x (h.step hb) hl hx hp rfl)
  have hq1 := (rowsOf_end hx).1
  rw [hp] at hq1
  have hle := liveOf_le l
  obtain ⟨n, hn⟩ : ∃ n : Nat, n = x.length := ⟨_, rfl⟩
  rw [← hn] at HE
  clear h hx hn hq1 hp
  go_enter Tryz.func66, Tryz.ntmps66
  repeat' (first | (go_at_call 63; go_must ((with_reducible refine Calls.mono HT.out ?_); rintro _ w1 ⟨rfl, hb1⟩; dsimp only)) | (go_at_call 62; go_must ((with_reducible refine Calls.mono (HE.out _ hb1) ?_); rintro _ w2 ⟨rfl, hb2⟩; have B2 := bvia hb1 hb2; dsimp only)) | (with_reducible refine Keep.last ?_) | (with_reducible refine Keep.below (by assumption) ?_) | (with_reducible refine Keep.kept (by assumption) ?_) | (with_reducible refine Keep.alloc ?_) | (with_reducible refine Keep.same ?_) | ((with_reducible refine WpH.here ?_); first | (refine WpH.nil ?_; refine NoP.normal ?_) | (refine WpH.load (by rfl) (by rfl) (by go_simp; rfl) ?_; simp only [Act.put, List.setIfInBounds_toArray, List.set_cons_zero, List.set_cons_succ]) | (refine WpH.loadT (by rfl) (by rfl) (by go_simp; rfl) (by rintro _ _ ⟨⟩; exact ⟨_, _, _, _, _, _, by rfl, by assumption, by assumption⟩) ?_; simp only [Act.put, List.setIfInBounds_toArray, List.set_cons_zero, List.set_cons_succ]) | (refine WpH.pure (by rfl) (fun w_ => by go_simp; (try go_bits); rfl) ?_; simp only [Act.put, List.setIfInBounds_toArray, List.set_cons_zero, List.set_cons_succ]) | (refine WpH.wild1 (by rfl) (fun _ _ => ?_)) | (refine WpH.skip (by rfl) ?_; simp only [Act.put, List.setIfInBounds_toArray, List.set_cons_zero, List.set_cons_succ])) | go_values | go_skip | go_guarded | go_step | go_upon | go_back)
  skip
  go_ret2
  exact ⟨rfl, B2⟩
theorem ltext_ok (w : World) (S : Nat → Prop) (mb : Nat) (l : List El) (K k p q : Nat) (x : List Int) (h : Mdl w S mb l K) (hl : l.length ≤ 536870912) (hx : (rowsOf l)[k]? = some x) (hp : startS (rowsOf l) k = p) : Calls Tryz.prog 23 #[.pointer (some ⟨mb, 0, none⟩), .int .i64 k] w fun e w' => e = .returned (.tuple #[.string ⟨(utf8S x).toArray⟩, .nilIface]) ∧ Below w.heap.size w w' := by
  have HT := hid (lthere_ok w S mb l K k h hl (List.getElem?_eq_some_iff.1 hx).1)
  have HE := hid (fun W (hb : Below w.heap.size w W) => lends_any W S mb l K k p (p + x.length) x (h.step hb) hl hx hp rfl)
  have hq1 := (rowsOf_end hx).1
  rw [hp] at hq1
  have hle := liveOf_le l
  obtain ⟨n, hn⟩ : ∃ n : Nat, n = x.length := ⟨_, rfl⟩
  have hsd := rowsOf_said hx
  have HS := hid (fun W (hb : Below w.heap.size w W) => mslice_ok W S mb l K p x.length (h.step hb) hl hq1)
  rw [← hp, hsd] at HS
  rw [hp] at HS
  rw [← hn] at HE hq1 HS
  generalize utf8S x = y at *
  obtain ⟨r, hr⟩ : ∃ r : Nat, r = p + n := ⟨_, rfl⟩
  rw [← hr] at HE
  have hd : (r : Int) - p = n := by omega
  have hnb : (n : Int) ≤ 536870912 := by omega
  clear h hx hn hq1 hp hr hsd
  go_enter Tryz.func23, Tryz.ntmps23
  repeat' (first | (go_at_call 63; go_must ((with_reducible refine Calls.mono HT.out ?_); rintro _ w1 ⟨rfl, hb1⟩; dsimp only)) | (go_at_call 62; go_must ((with_reducible refine Calls.mono (HE.out _ hb1) ?_); rintro _ w2 ⟨rfl, hb2⟩; have B2 := bvia hb1 hb2; dsimp only)) | (go_at_call 65; go_must ((with_reducible refine Calls.mono (HS.out _ B2) ?_); rintro _ w3 ⟨rfl, hb3⟩; dsimp only)) | (with_reducible refine Keep.last ?_) | (with_reducible refine Keep.below (by assumption) ?_) | (with_reducible refine Keep.kept (by assumption) ?_) | (with_reducible refine Keep.alloc ?_) | (with_reducible refine Keep.same ?_) | ((with_reducible refine WpH.here ?_); first | (refine WpH.nil ?_; refine NoP.normal ?_) | (refine WpH.load (by rfl) (by rfl) (by go_simp; rfl) ?_; simp only [Act.put, List.setIfInBounds_toArray, List.set_cons_zero, List.set_cons_succ]) | (refine WpH.loadT (by rfl) (by rfl) (by go_simp; rfl) (by rintro _ _ ⟨⟩; exact ⟨_, _, _, _, _, _, by rfl, by assumption, by assumption⟩) ?_; simp only [Act.put, List.setIfInBounds_toArray, List.set_cons_zero, List.set_cons_succ]) | (refine WpH.pure (by rfl) (fun w_ => by go_simp; (try go_bits); rfl) ?_; simp only [Act.put, List.setIfInBounds_toArray, List.set_cons_zero, List.set_cons_succ]) | (refine WpH.wild1 (by rfl) (fun _ _ => ?_)) | (refine WpH.skip (by rfl) ?_; simp only [Act.put, List.setIfInBounds_toArray, List.set_cons_zero, List.set_cons_succ])) | go_values | go_skip | go_guarded | go_step | go_upon | go_back)
  skip
  go_ret2
  exact ⟨rfl, bvia B2 hb3⟩
/-- the gap at a column -/
def colS (x : List Int) (c : Int) : Nat := min c.toNat x.length
theorem lplace_ok (w : World) (S : Nat → Prop) (mb : Nat) (l : List El) (K k p q : Nat) (x : List Int) (h : Mdl w S mb l K) (hl : l.length ≤ 536870912) (hx : (rowsOf l)[k]? = some x) (hp : startS (rowsOf l) k = p) (c : Int) : Calls Tryz.prog 20 #[.pointer (some ⟨mb, 0, none⟩), .int .i64 k, .int .i64 c] w fun e w' => e = .returned (.tuple #[.int .i64 (p + colS x c : Nat), .nilIface]) ∧ Below w.heap.size w w' := by
  have HT := hid (lthere_ok w S mb l K k h hl (List.getElem?_eq_some_iff.1 hx).1)
  have HE := hid (fun W (hb : Below w.heap.size w W) => lends_any W S mb l K k p (p + x.length) x (h.step hb) hl hx hp rfl)
  have hq1 := (rowsOf_end hx).1
  rw [hp] at hq1
  have hle := liveOf_le l
  obtain ⟨n, hn⟩ : ∃ n : Nat, n = x.length := ⟨_, rfl⟩
  obtain ⟨v, hv⟩ : ∃ v : Nat, v = colS x c := ⟨_, rfl⟩
  rw [← hn] at HE hq1
  rw [← hv]
  obtain ⟨r, hr⟩ : ∃ r : Nat, r = p + n := ⟨_, rfl⟩
  rw [← hr] at HE
  have hd : (r : Int) - p = n := by omega
  have hnb : (n : Int) ≤ 536870912 := by omega
  obtain ⟨u, hu⟩ : ∃ u : Nat, u = c.toNat := ⟨_, rfl⟩
  have hmx : max c 0 = (u : Int) := by omega
  have hmn : min (u : Int) n = (v : Int) := by rw [hv, colS, ← hu, ← hn]; omega
  have hvn : v ≤ n := by rw [hv, colS, hn]; omega
  obtain ⟨s, hs⟩ : ∃ s : Nat, s = p + v := ⟨_, rfl⟩
  have hps : (p : Int) + v = s := by omega
  have hsb : (s : Int) ≤ 536870912 := by omega
  rw [← hs]
  clear h hx hn hq1 hp hr hu hv hvn hs
  go_enter Tryz.func20, Tryz.ntmps20
  repeat' (first | (go_at_call 63; go_must ((with_reducible refine Calls.mono HT.out ?_); rintro _ w1 ⟨rfl, hb1⟩; dsimp only)) | (go_at_call 62; go_must ((with_reducible refine Calls.mono (HE.out _ hb1) ?_); rintro _ w2 ⟨rfl, hb2⟩; have B2 := bvia hb1 hb2; dsimp only)) | (with_reducible refine Keep.last ?_) | (with_reducible refine Keep.below (by assumption) ?_) | (with_reducible refine Keep.kept (by assumption) ?_) | (with_reducible refine Keep.alloc ?_) | (with_reducible refine Keep.same ?_) | ((with_reducible refine WpH.here ?_); first | (refine WpH.nil ?_; refine NoP.normal ?_) | (refine WpH.load (by rfl) (by rfl) (by go_simp; rfl) ?_; simp only [Act.put, List.setIfInBounds_toArray, List.set_cons_zero, List.set_cons_succ]) | (refine WpH.loadT (by rfl) (by rfl) (by go_simp; rfl) (by rintro _ _ ⟨⟩; exact ⟨_, _, _, _, _, _, by rfl, by assumption, by assumption⟩) ?_; simp only [Act.put, List.setIfInBounds_toArray, List.set_cons_zero, List.set_cons_succ]) | (refine WpH.pure (by rfl) (fun w_ => by go_simp; (try go_bits); rfl) ?_; simp only [Act.put, List.setIfInBounds_toArray, List.set_cons_zero, List.set_cons_succ]) | (refine WpH.wild1 (by rfl) (fun _ _ => ?_)) | (refine WpH.skip (by rfl) ?_; simp only [Act.put, List.setIfInBounds_toArray, List.set_cons_zero, List.set_cons_succ])) | go_values | go_skip | go_guarded | go_step | go_upon | go_back)
  skip
  go_ret2
  exact ⟨rfl, B2⟩
theorem lstart_no (w : World) (S S' : Nat → Prop) (mb : Nat) (l : List El) (K : Nat) (i : Int) (h : Mdl w S mb l K) (hl : l.length ≤ 536870912) (hi : i < 0 ∨ ((rowsOf l).length : Int) ≤ i) (hs : Sents w S' a) : Calls Tryz.prog 66 #[.pointer (some ⟨mb, 0, none⟩), .int .i64 i] w fun e w' => ∃ v, e = .returned (.tuple #[.int .i64 0, v]) ∧ IsErr w' (Fr w S') a [⟨({ data := #[108, 105, 110, 101, 115] } : ByteArray), ({ data := #[83, 116, 97, 114, 116] } : ByteArray), atOf i⟩] 2 v ∧ Below w.heap.size w w' := by
  have HT := hid (lthere_no w S mb l K i h hl hi)
  have HE := hid (fun W (hb : Below w.heap.size w W) => lrefused_range (a := a) ({ data := #[83, 116, 97, 114, 116] } : ByteArray) i mb W S' (hs.step hb))
  clear h hi
  go_enter Tryz.func66, Tryz.ntmps66
  repeat' (first | (go_at_call 63; go_must ((with_reducible refine Calls.mono HT.out ?_); rintro _ w1 ⟨rfl, hb1⟩; dsimp only)) | (go_at_call 58; go_must ((with_reducible refine Calls.mono (HE.out _ hb1) ?_); rintro _ w4 ⟨v, rfl, hv, hb4⟩; dsimp only)) | (with_reducible refine Keep.last ?_) | (with_reducible refine Keep.below (by assumption) ?_) | (with_reducible refine Keep.kept (by assumption) ?_) | (with_reducible refine Keep.alloc ?_) | (with_reducible refine Keep.same ?_) | ((with_reducible refine WpH.here ?_); first | (refine WpH.nil ?_; refine NoP.normal ?_) | (refine WpH.load (by rfl) (by rfl) (by go_simp; rfl) ?_; simp only [Act.put, List.setIfInBounds_toArray, List.set_cons_zero, List.set_cons_succ]) | (refine WpH.loadT (by rfl) (by rfl) (by go_simp; rfl) (by rintro _ _ ⟨⟩; exact ⟨_, _, _, _, _, _, by rfl, by assumption, by assumption⟩) ?_; simp only [Act.put, List.setIfInBounds_toArray, List.set_cons_zero, List.set_cons_succ]) | (refine WpH.pure (by rfl) (fun w_ => by go_simp; (try go_bits); rfl) ?_; simp only [Act.put, List.setIfInBounds_toArray, List.set_cons_zero, List.set_cons_succ]) | (refine WpH.wild1 (by rfl) (fun _ _ => ?_)) | (refine WpH.skip (by rfl) ?_; simp only [Act.put, List.setIfInBounds_toArray, List.set_cons_zero, List.set_cons_succ])) | go_values | go_skip | go_guarded | go_step | go_upon | go_back)
  skip
  go_ret2
  exact ⟨v, rfl, hv.cut hb1.size, bvia hb1 hb4⟩
theorem ltext_no (w : World) (S S' : Nat → Prop) (mb : Nat) (l : List El) (K : Nat) (i : Int) (h : Mdl w S mb l K) (hl : l.length ≤ 536870912) (hi : i < 0 ∨ ((rowsOf l).length : Int) ≤ i) (hs : Sents w S' a) : Calls Tryz.prog 23 #[.pointer (some ⟨mb, 0, none⟩), .int .i64 i] w fun e w' => ∃ v, e = .returned (.tuple #[.string ⟨#[]⟩, v]) ∧ IsErr w' (Fr w S') a [⟨({ data := #[108, 105, 110, 101, 115] } : ByteArray), ({ data := #[84, 101, 120, 116] } : ByteArray), atOf i⟩] 2 v ∧ Below w.heap.size w w' := by
  have HT := hid (lthere_no w S mb l K i h hl hi)
  have HE := hid (fun W (hb : Below w.heap.size w W) => lrefused_range (a := a) ({ data := #[84, 101, 120, 116] } : ByteArray) i mb W S' (hs.step hb))
  clear h hi
  go_enter Tryz.func23, Tryz.ntmps23
  repeat' (first | (go_at_call 63; go_must ((with_reducible refine Calls.mono HT.out ?_); rintro _ w1 ⟨rfl, hb1⟩; dsimp only)) | (go_at_call 58; go_must ((with_reducible refine Calls.mono (HE.out _ hb1) ?_); rintro _ w4 ⟨v, rfl, hv, hb4⟩; dsimp only)) | (with_reducible refine Keep.last ?_) | (with_reducible refine Keep.below (by assumption) ?_) | (with_reducible refine Keep.kept (by assumption) ?_) | (with_reducible refine Keep.alloc ?_) | (with_reducible refine Keep.same ?_) | ((with_reducible refine WpH.here ?_); first | (refine WpH.nil ?_; refine NoP.normal ?_) | (refine WpH.load (by rfl) (by rfl) (by go_simp; rfl) ?_; simp only [Act.put, List.setIfInBounds_toArray, List.set_cons_zero, List.set_cons_succ]) | (refine WpH.loadT (by rfl) (by rfl) (by go_simp; rfl) (by rintro _ _ ⟨⟩; exact ⟨_, _, _, _, _, _, by rfl, by assumption, by assumption⟩) ?_; simp only [Act.put, List.setIfInBounds_toArray, List.set_cons_zero, List.set_cons_succ]) | (refine WpH.pure (by rfl) (fun w_ => by go_simp; (try go_bits); rfl) ?_; simp only [Act.put, List.setIfInBounds_toArray, List.set_cons_zero, List.set_cons_succ]) | (refine WpH.wild1 (by rfl) (fun _ _ => ?_)) | (refine WpH.skip (by rfl) ?_; simp only [Act.put, List.setIfInBounds_toArray, List.set_cons_zero, List.set_cons_succ])) | go_values | go_skip | go_guarded | go_step | go_upon | go_back)
  go_ret2
  exact ⟨v, rfl, hv.cut hb1.size, bvia hb1 hb4⟩
theorem lplace_no (w : World) (S S' : Nat → Prop) (mb : Nat) (l : List El) (K : Nat) (i : Int) (h : Mdl w S mb l K) (hl : l.length ≤ 536870912) (hi : i < 0 ∨ ((rowsOf l).length : Int) ≤ i) (hs : Sents w S' a) (c : Int) : Calls Tryz.prog 20 #[.pointer (some ⟨mb, 0, none⟩), .int .i64 i, .int .i64 c] w fun e w' => ∃ v, e = .returned (.tuple #[.int .i64 0, v]) ∧ IsErr w' (Fr w S') a [⟨({ data := #[108, 105, 110, 101, 115] } : ByteArray), ({ data := #[80, 108, 97, 99, 101] } : ByteArray), atOf i⟩] 2 v ∧ Below w.heap.size w w' := by
  have HT := hid (lthere_no w S mb l K i h hl hi)
  have HE := hid (fun W (hb : Below w.heap.size w W) => lrefused_range (a := a) ({ data := #[80, 108, 97, 99, 101] } : ByteArray) i mb W S' (hs.step hb))
  clear h hi
  go_enter Tryz.func20, Tryz.ntmps20
  repeat' (first | (go_at_call 63; go_must ((with_reducible refine Calls.mono HT.out ?_); rintro _ w1 ⟨rfl, hb1⟩; dsimp only)) | (go_at_call 58; go_must ((with_reducible refine Calls.mono (HE.out _ hb1) ?_); rintro _ w4 ⟨v, rfl, hv, hb4⟩; dsimp only)) | (with_reducible refine Keep.last ?_) | (with_reducible refine Keep.below (by assumption) ?_) | (with_reducible refine Keep.kept (by assumption) ?_) | (with_reducible refine Keep.alloc ?_) | (with_reducible refine Keep.same ?_) | ((with_reducible refine WpH.here ?_); first | (refine WpH.nil ?_; refine NoP.normal ?_) | (refine WpH.load (by rfl) (by rfl) (by go_simp; rfl) ?_; simp only [Act.put, List.setIfInBounds_toArray, List.set_cons_zero, List.set_cons_succ]) | (refine WpH.loadT (by rfl) (by rfl) (by go_simp; rfl) (by rintro _ _ ⟨⟩; exact ⟨_, _, _, _, _, _, by rfl, by assumption, by assumption⟩) ?_; simp only [Act.put, List.setIfInBounds_toArray, List.set_cons_zero, List.set_cons_succ]) | (refine WpH.pure (by rfl) (fun w_ => by go_simp; (try go_bits); rfl) ?_; simp only [Act.put, List.setIfInBounds_toArray, List.set_cons_zero, List.set_cons_succ]) | (refine WpH.wild1 (by rfl) (fun _ _ => ?_)) | (refine WpH.skip (by rfl) ?_; simp only [Act.put, List.setIfInBounds_toArray, List.set_cons_zero, List.set_cons_succ])) | go_values | go_skip | go_guarded | go_step | go_upon | go_back)
  go_ret2
  exact ⟨v, rfl, hv.cut hb1.size, bvia hb1 hb4⟩
theorem lstart_nil (w : World) (S' : Nat → Prop) (hs : Sents w S' a) : Calls Tryz.prog 66 #[.pointer none, .int .i64 0] w fun e w' => ∃ v, e = .returned (.tuple #[.int .i64 0, v]) ∧ IsErr w' (Fr w S') a [⟨({ data := #[108, 105, 110, 101, 115] } : ByteArray), ({ data := #[83, 116, 97, 114, 116] } : ByteArray), atOf (-1)⟩] 1 v ∧ Below w.heap.size w w' := by
  have HT := hid (lthere_nil w)
  have HE := hid (fun W (hb : Below w.heap.size w W) => lrefused_nil (a := a) ({ data := #[83, 116, 97, 114, 116] } : ByteArray) 0 W S' (hs.step hb))
  go_enter Tryz.func66, Tryz.ntmps66
  repeat' (first | (go_at_call 63; go_must ((with_reducible refine Calls.mono HT.out ?_); rintro _ w1 ⟨rfl, hb1⟩; dsimp only)) | (go_at_call 58; go_must ((with_reducible refine Calls.mono (HE.out _ hb1) ?_); rintro _ w4 ⟨v, rfl, hv, hb4⟩; dsimp only)) | (with_reducible refine Keep.last ?_) | (with_reducible refine Keep.below (by assumption) ?_) | (with_reducible refine Keep.kept (by assumption) ?_) | (with_reducible refine Keep.alloc ?_) | (with_reducible refine Keep.same ?_) | ((with_reducible refine WpH.here ?_); first | (refine WpH.nil ?_; refine NoP.normal ?_) | (refine WpH.load (by rfl) (by rfl) (by go_simp; rfl) ?_; simp only [Act.put, List.setIfInBounds_toArray, List.set_cons_zero, List.set_cons_succ]) | (refine WpH.loadT (by rfl) (by rfl) (by go_simp; rfl) (by rintro _ _ ⟨⟩; exact ⟨_, _, _, _, _, _, by rfl, by assumption, by assumption⟩) ?_; simp only [Act.put, List.setIfInBounds_toArray, List.set_cons_zero, List.set_cons_succ]) | (refine WpH.pure (by rfl) (fun w_ => by go_simp; (try go_bits); rfl) ?_; simp only [Act.put, List.setIfInBounds_toArray, List.set_cons_zero, List.set_cons_succ]) | (refine WpH.wild1 (by rfl) (fun _ _ => ?_)) | (refine WpH.skip (by rfl) ?_; simp only [Act.put, List.setIfInBounds_toArray, List.set_cons_zero, List.set_cons_succ])) | go_values | go_skip | go_guarded | go_step | go_upon | go_back)
  go_ret2
  exact ⟨v, rfl, hv.cut hb1.size, bvia hb1 hb4⟩
end Go.Proofs.YtfihjajllfihjaaGreatDoor
