/- The model's Insert, Add, ViewOf refused: the walks. Conditions: the model and the reasons lie in memory, fewer than 2^29 elements. The document's ViewOf, Place, Purge of a row: the walks. Conditions: the row lies in memory, fewer than 2^30 elements. The document's Place of a row: the walk. Conditions: the row lies in memory, fewer than 2^30 elements. -/
import Derived.Test.YtfihjajllfihjaaGreatDoorP22
import Derived.Test.YtfihjajllfihjaaGreatDoorP33
import Derived.Test.YtfihjajllfihjaaGreatDoorP27
namespace Go.Proofs.YtfihjajllfihjaaGreatDoor
set_option linter.unusedSimpArgs false
set_option linter.unusedVariables false
open Go Go.RowKit
variable {a : Nat → Addr}
set_option maxRecDepth 50000 in
set_option maxHeartbeats 4000000 in
/-- an element that may not come in -/
theorem minsert_wrong (w : World) (S S' : Nat → Prop) (mb : Nat) (l : List El) (K i code : Nat) (e : El) (h : Mdl w S mb l K) (hl : l.length ≤ 536870912) (hi : i ≤ l.length) (hin : e.nm.In) (hw : wrongS (l.map El.nm) e = code) (h0 : code ≠ 0) (h13 : code ≤ 13) (hs : Sents w S' a) :
    Calls Tryz.prog 34 #[.pointer (some ⟨mb, 0, none⟩), .int .i64 i, .agg #[.int .i64 e.epoch, .int .i64 e.rep, .int .i64 e.num, .int .i32 e.char, .int .i64 e.hides]] w fun r w' => ∃ v, r = .returned v ∧ IsErr w' (Fr w S') a [⟨({ data := #[109, 111, 100, 101, 108] } : ByteArray), ({ data := #[73, 110, 115, 101, 114, 116] } : ByteArray), atOf i⟩] code v ∧ Below w.heap.size w w' := by
  have b1 : Below w.heap.size w (w.alloc (.cells #[.int .i64 e.epoch, .int .i64 e.rep, .int .i64 e.num, .int .i32 e.char, .int .i64 e.hides] 32)) := balloc (Below.refl _ _)
  have hx1 := Blk.new w 32 #[.int .i64 e.epoch, .int .i64 e.rep, .int .i64 e.num, .int .i32 e.char, .int .i64 e.hides]
  have HL := hid (mlen_any _ S mb l K (h.step b1))
  have HW := hid (fun W => within_ok i l.length W (by omega) (by omega))
  obtain ⟨gt, gm, p, T, h1, h2, h3, rfl, h5, h6, h7, h8, h9⟩ := h
  have HT := hid (takes_no e _ mb gt gm _ K code S' (h1.step b1) (h5.heap (b1.block _ h5.lt)) hin hw h0 (hs.step b1))
  have HE := hid (fun W => refused_err (S := S') (a := a) ({ data := #[73, 110, 115, 101, 114, 116] } : ByteArray) i [] code (reason (a code)) W ⟨Nat.pos_of_ne_zero h0, h13, rfl⟩)
  clear h1 h2 h3 h5 h9 hw
  obtain ⟨x0, x1, x2, x3, x4, xl⟩ := hx1.five
  go_enter Tryz.func34, Tryz.ntmps34
  repeat' (first | (go_at_call 10; go_must ((with_reducible refine Calls.mono HL.out ?_); rintro _ _ ⟨rfl, rfl⟩; dsimp only)) | (go_at_call 81; go_must ((with_reducible refine Calls.mono (HW.out _) ?_); rintro _ _ ⟨rfl, rfl⟩; dsimp only)) | (go_at_call 69; go_must ((with_reducible refine Calls.mono HT.out ?_); rintro _ w3 ⟨rfl, hb3⟩; unfold reason; dsimp only)) | (go_at_call 79; go_must ((with_reducible refine Calls.mono (HE.out _) ?_); rintro _ w4 ⟨v, rfl, hv, hb4⟩; dsimp only)) | go_values | go_skip | go_guarded | go_step | go_upon | go_back)
  skip
  go_ret
  have hbb := bvia b1 hb3
  exact ⟨v, rfl, hv.cut hbb.size, bvia hbb hb4⟩
set_option maxRecDepth 50000 in
set_option maxHeartbeats 4000000 in
/-- a place that there is not -/
theorem minsert_range (w : World) (S S' : Nat → Prop) (mb : Nat) (l : List El) (K : Nat) (i : Int) (e : El) (h : Mdl w S mb l K) (hi : i < 0 ∨ (l.length : Int) < i) (hs : Sents w S' a) :
    Calls Tryz.prog 34 #[.pointer (some ⟨mb, 0, none⟩), .int .i64 i, .agg #[.int .i64 e.epoch, .int .i64 e.rep, .int .i64 e.num, .int .i32 e.char, .int .i64 e.hides]] w fun r w' => ∃ v, r = .returned v ∧ IsErr w' (Fr w S') a [⟨({ data := #[109, 111, 100, 101, 108] } : ByteArray), ({ data := #[73, 110, 115, 101, 114, 116] } : ByteArray), atOf i⟩] 2 v ∧ Below w.heap.size w w' := by
  have b1 : Below w.heap.size w (w.alloc (.cells #[.int .i64 e.epoch, .int .i64 e.rep, .int .i64 e.num, .int .i32 e.char, .int .i64 e.hides] 32)) := balloc (Below.refl _ _)
  have HL := hid (mlen_any _ S mb l K (h.step b1))
  have HW := hid (fun W (hb : Below w.heap.size w W) => within_no i l.length W S' (hs.step hb) hi)
  have HE := hid (fun W => refused_err (S := S') (a := a) ({ data := #[73, 110, 115, 101, 114, 116] } : ByteArray) i [] 2 (reason (a 2)) W ⟨by omega, by omega, rfl⟩)
  unfold reason at HW
  clear h hi
  go_enter Tryz.func34, Tryz.ntmps34
  repeat' (first | (go_at_call 10; go_must ((with_reducible refine Calls.mono HL.out ?_); rintro _ _ ⟨rfl, rfl⟩; dsimp only)) | (go_at_call 81; go_must ((with_reducible refine Calls.mono (HW.out _ b1) ?_); rintro _ _ ⟨rfl, rfl⟩; dsimp only)) | (go_at_call 79; go_must ((with_reducible refine Calls.mono (HE.out _) ?_); rintro _ w4 ⟨v, rfl, hv, hb4⟩; dsimp only)) | go_values | go_skip | go_guarded | go_step | go_upon | go_back)
  skip
  go_ret
  exact ⟨v, rfl, hv.cut b1.size, bvia b1 hb4⟩
set_option maxRecDepth 50000 in
set_option maxHeartbeats 4000000 in
theorem madd_range (w : World) (S S' : Nat → Prop) (mb : Nat) (l : List El) (K : Nat) (i d : Int) (h : Mdl w S mb l K) (hi : i < 0 ∨ (l.length : Int) ≤ i) (hs : Sents w S' a) :
    Calls Tryz.prog 36 #[.pointer (some ⟨mb, 0, none⟩), .int .i64 i, .int .i64 d] w fun r w' => ∃ v, r = .returned v ∧ IsErr w' (Fr w S') a [⟨({ data := #[109, 111, 100, 101, 108] } : ByteArray), ({ data := #[65, 100, 100] } : ByteArray), atOf i⟩] 2 v ∧ Below w.heap.size w w' := by
  obtain ⟨gt, gm, p, T, h1, h2, h3, rfl, h5, h6, h7, h8, h9⟩ := h
  have m0 := h1.cell 0
  simp at m0
  have ml := h1.lt
  have HA := hid (at_no T p gt 64 i _ S' w h2 h3 hs hi)
  have HE := hid (fun W => refused_err (S := S') (a := a) ({ data := #[65, 100, 100] } : ByteArray) i [] 2 (reason (a 2)) W ⟨by omega, by omega, rfl⟩)
  have Hs := hid hs
  clear h9 h5 hs
  go_enter Tryz.func36, Tryz.ntmps36
  repeat' (first | (go_at_call 84; go_must ((with_reducible refine Calls.mono HA.out ?_); rintro _ w1 ⟨v1, rfl, he1, hb1⟩; obtain ⟨tv, xv, rfl⟩ := he1.notNil; have eb := balloc (o := .cells #[.int .i64 0, .int .i64 0, .int .i64 0, .int .i32 0, .int .i64 0] 32) (Below.refl _ w1); have c2 := ((Hs.out.step hb1).step eb).cell 2 (by omega) (by omega); simp only [gOf, reason] at c2; dsimp only)) | (go_at_call 79; go_must ((with_reducible refine Calls.mono (HE.out _) ?_); rintro _ w4 ⟨v, rfl, hv, hb4⟩; dsimp only)) | go_values | go_skip | go_guarded | go_step | go_upon | go_back)
  skip
  go_ret
  exact ⟨v, rfl, hv.cut (bvia hb1 eb).size, bvia (bvia hb1 eb) hb4⟩
set_option maxRecDepth 50000 in
set_option maxHeartbeats 4000000 in
/-- neither one more nor one less -/
theorem madd_by (w : World) (S S' : Nat → Prop) (mb : Nat) (l : List El) (K i : Nat) (e : El) (d : Int) (h : Mdl w S mb l K) (hl : l.length ≤ 536870912) (he : l[i]? = some e) (h1' : ¬ d = 1) (h2' : ¬ d = -1) (hs : Sents w S' a) :
    Calls Tryz.prog 36 #[.pointer (some ⟨mb, 0, none⟩), .int .i64 i, .int .i64 d] w fun r w' => ∃ v, r = .returned v ∧ IsErr w' (Fr w S') a [⟨({ data := #[109, 111, 100, 101, 108] } : ByteArray), ({ data := #[65, 100, 100] } : ByteArray), atOf i⟩] 1 v ∧ Below w.heap.size w w' := by
  obtain ⟨gt, gm, p, T, h1, h2, h3, rfl, h5, h6, h7, h8, h9⟩ := h
  have hi := (List.getElem?_eq_some_iff.1 he).1
  have He := hid he
  have m0 := h1.cell 0
  simp at m0
  have hml := h1.lt
  have Hs := hid hs
  have HE := hid (fun W => refused_err (S := S') (a := a) ({ data := #[65, 100, 100] } : ByteArray) i [] 1 (reason (a 1)) W ⟨by omega, by omega, rfl⟩)
  have HA := hid (at_ok T p gt 64 i _ w h2 h3 (by omega) hi)
  clear h5 h9 he hs
  go_enter Tryz.func36, Tryz.ntmps36
  repeat' (first | (go_at_call 84; go_must ((with_reducible refine Calls.mono HA.out ?_); rintro _ w1 ⟨⟨e0, rfl, he0⟩, hb1⟩; obtain rfl : e0 = e := Option.some.inj (he0.symm.trans He.out); clear he0; unfold El.agg; have eb := balloc (o := .cells #[.int .i64 e0.epoch, .int .i64 e0.rep, .int .i64 e0.num, .int .i32 e0.char, .int .i64 e0.hides] 32) (Below.refl _ w1); have c2 := ((Hs.out.step hb1).step eb).cell 1 (by omega) (by omega); simp only [gOf, reason] at c2; dsimp only)) | (go_at_call 79; go_must ((with_reducible refine Calls.mono (HE.out _) ?_); rintro _ w4 ⟨v, rfl, hv, hb4⟩; dsimp only)) | go_values | go_skip | go_guarded | go_step | go_upon | go_back)
  skip
  go_ret
  exact ⟨v, rfl, hv.cut (bvia hb1 eb).size, bvia (bvia hb1 eb) hb4⟩
set_option maxRecDepth 50000 in
set_option maxHeartbeats 4000000 in
theorem mviewof_no (w : World) (S S' : Nat → Prop) (mb : Nat) (l : List El) (K : Nat) (i : Int) (h : Mdl w S mb l K) (hi : i < 0 ∨ (l.length : Int) < i) (hs : Sents w S' a) :
    Calls Tryz.prog 91 #[.pointer (some ⟨mb, 0, none⟩), .int .i64 i] w fun r w' => ∃ v, r = .returned (.tuple #[.int .i64 0, .bool false, v]) ∧ IsErr w' (Fr w S') a [⟨({ data := #[109, 111, 100, 101, 108] } : ByteArray), ({ data := #[86, 105, 101, 119, 79, 102] } : ByteArray), atOf i⟩] 2 v ∧ Below w.heap.size w w' := by
  obtain ⟨gt, gm, p, T, h1, h2, h3, rfl, h5, h6, h7, h8, h9⟩ := h
  have m0 := h1.cell 0
  simp at m0
  have ml := h1.lt
  have HB := hid (before_no T p gt 64 i _ S' w h2 h3 hs hi)
  have HE := hid (fun W => refused_err (S := S') (a := a) ({ data := #[86, 105, 101, 119, 79, 102] } : ByteArray) i [] 2 (reason (a 2)) W ⟨by omega, by omega, rfl⟩)
  have Hs := hid hs
  clear h9 h5 hs
  go_enter Tryz.func91, Tryz.ntmps91
  repeat' (first | (go_at_call 104; go_must ((with_reducible refine Calls.mono HB.out ?_); rintro _ w1 ⟨v1, rfl, he1, hb1⟩; obtain ⟨tv, xv, rfl⟩ := he1.notNil; have eb := balloc (o := .cells #[.int .i64 0, .int .i64 0] 40) (Below.refl _ w1); have c2 := ((Hs.out.step hb1).step eb).cell 2 (by omega) (by omega); simp only [gOf, reason] at c2; dsimp only)) | (go_at_call 79; go_must ((with_reducible refine Calls.mono (HE.out _) ?_); rintro _ w4 ⟨v, rfl, hv, hb4⟩; dsimp only)) | go_values | go_skip | go_guarded | go_step | go_upon | go_back)
  skip
  go_ret3
  exact ⟨v, rfl, hv.cut (bvia hb1 eb).size, bvia (bvia hb1 eb) hb4⟩
end Go.Proofs.YtfihjajllfihjaaGreatDoor
namespace Go.Proofs.YtfihjajllfihjaaGreatDoor
set_option linter.unusedSimpArgs false
set_option linter.unusedVariables false
open Go Go.RowKit
theorem live_dec (e : El) : decide (e.hides ≤ 0) = decide (e.live = 1) := by
  unfold El.live
  by_cases h : e.hides > 0
  · rw [if_pos h]; simp; omega
  · rw [if_neg h]; simp; omega
set_option maxRecDepth 20000 in
theorem refViewOf_in (A : Option Addr) (n c k : Nat) (es : List El) (S : Nat → Prop) (e : El) (w : World) (h : Row w S A n c es) (hn : n ≤ 1073741824) (he : es[k]? = some e) :
    Calls Tryz.prog 92 #[.slice A n c, .int .i64 k] w fun r w' => r = .returned (.tuple #[.int .i64 (liveOf (es.take k)), .bool (decide (e.live = 1))]) ∧ Below w.heap.size w w' := by
  have hk : k < n := by rw [← h.1]; exact (List.getElem?_eq_some_iff.1 he).1
  have hnc := h.2.1
  have hcm := h.2.2.1
  have hk' : (k : Int) < n := by omega
  have HS := hid (refSum_any A k c (es.take k) S w (h.take_ (by omega)) (by omega))
  have HL := hid (fun W => refLive_any e W)
  rw [live_dec] at HL
  have Hr := hid (And.intro h he)
  clear h he
  go_enter Tryz.func92, Tryz.ntmps92
  repeat' (first | (go_at_call 12; go_must ((with_reducible refine Calls.mono HS.out ?_); rintro _ w1 ⟨rfl, hb1⟩; obtain ⟨b, off, e', rfl, -, he', c0, c1, c2, c3, c4⟩ := (Hr.out.1.step hb1).at_ hk; obtain rfl := Option.some.inj (he'.symm.trans Hr.out.2); have hbl := lt_of_cell' c0; dsimp only at hbl; clear he'; dsimp only)) | (go_at_call 89; go_must ((with_reducible refine Calls.mono (HL.out _) ?_); rintro _ w2 ⟨rfl, hb2⟩; dsimp only)) | go_values | go_skip | go_guarded | go_step | go_upon | go_back)
  skip
  go_ret2
  exact ⟨rfl, bvia hb1 hb2⟩
set_option maxRecDepth 20000 in
theorem refViewOf_end (A : Option Addr) (n c : Nat) (es : List El) (S : Nat → Prop) (w : World) (h : Row w S A n c es) (hn : n ≤ 1073741824) :
    Calls Tryz.prog 92 #[.slice A n c, .int .i64 n] w fun r w' => r = .returned (.tuple #[.int .i64 (liveOf es), .bool false]) ∧ Below w.heap.size w w' := by
  have hnc := h.2.1
  have hcm := h.2.2.1
  have HS := hid (refSum_any A n c es S w h (by omega))
  clear h
  go_enter Tryz.func92, Tryz.ntmps92
  repeat' (first | (go_at_call 12; go_must ((with_reducible refine Calls.mono HS.out ?_); rintro _ w1 ⟨rfl, hb1⟩; dsimp only)) | go_values | go_skip | go_guarded | go_step | go_upon | go_back)
  skip
  go_ret2
  exact ⟨rfl, hb1⟩
end Go.Proofs.YtfihjajllfihjaaGreatDoor
namespace Go.Proofs.YtfihjajllfihjaaGreatDoor
set_option linter.unusedSimpArgs false
set_option linter.unusedVariables false
open Go Go.RowKit
set_option maxRecDepth 20000 in
theorem refPlace_ok (A : Option Addr) (n c k : Nat) (es : List El) (S : Nat → Prop) (w : World) (h : Row w S A n c es) (hn : n ≤ 1073741824) (hk : k ≤ liveOf es) :
    Calls Tryz.prog 95 #[.slice A n c, .int .i64 k] w fun r w' => (∃ m : Nat, r = .returned (.int .i64 m) ∧ (k = 0 ∧ m = 0 ∨ ∃ q j e0, k = q + 1 ∧ m = j + 1 ∧ es[j]? = some e0 ∧ e0.live = 1 ∧ liveOf (es.take j) = q)) ∧ Below w.heap.size w w' := by
  have hl := h.1
  by_cases h0 : k = 0
  · subst h0
    go_enter Tryz.func95, Tryz.ntmps95
    repeat' (first | go_values | go_skip | go_guarded | go_step | go_upon | go_back)
    go_ret
    exact ⟨⟨0, by first | rfl | trivial, .inl ⟨by first | rfl | trivial, by first | rfl | trivial⟩⟩, Below.refl _ _⟩
  · obtain ⟨q, rfl⟩ : ∃ q, k = q + 1 := ⟨k - 1, by omega⟩
    have HF := hid (refFind_live A n c q es S w h hn (by omega))
    have h0' : ¬ (((q + 1 : Nat) : Int) = 0) := by omega
    have hle := liveOf_le es
    have hqb : (q : Int) ≤ 1073741824 := by omega
    clear h
    go_enter Tryz.func95, Tryz.ntmps95
    repeat' (first | (go_at_call 93; go_must ((with_reducible refine Calls.mono HF.out ?_); rintro _ w2 ⟨⟨m1, e1, rfl, he1, hv1, hs1⟩, hb2⟩; have H1 := hid (And.intro he1 (And.intro hv1 hs1)); have hm1 : m1 < es.length := (List.getElem?_eq_some_iff.1 he1).1; clear he1 hv1 hs1; dsimp only)) | go_values | go_skip | go_guarded | go_step | go_upon | go_back)
    skip
    go_ret
    exact ⟨⟨m1 + 1, rfl, .inr ⟨q, m1, e1, rfl, rfl, H1.out⟩⟩, hb2⟩
end Go.Proofs.YtfihjajllfihjaaGreatDoor
