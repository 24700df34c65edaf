/- What is asked of a model: LineEnd, Slice: the walks. Conditions: the model and the reasons lie in memory, fewer than 2^29 elements. Chapter 6, plain: lines of a row of characters; the lines of a model's row are those of its characters seen. lines.refused, Count, there, ends, Start, Length, Text, Place: the walks. Conditions: the model and the reasons lie in memory, fewer than 2^29 elements. lines.Start, Length, Text, Place: the walks. Conditions: the model and the reasons lie in memory, fewer than 2^29 elements. Arguments opened: a row of whatever lies in cells of one kind each. Condition: each element opens. Rows of characters and of truth values; what append of a character leaves; own rows of two kinds. Conditions: fewer than 2^40. -/
import Derived.Test.YtfihjajllfihjaaGreatDoorP27
import Derived.Test.YtfihjajllfihjaaGreatDoorP29
import Derived.Test.YtfihjajllfihjaaGreatDoorSOpen
import Derived.Test.YtfihjajllfihjaaGreatDoorP3
import Derived.Test.YtfihjajllfihjaaGreatDoorSErr3
namespace Go.Proofs.YtfihjajllfihjaaGreatDoor
set_option linter.unusedSimpArgs false
set_option linter.unusedVariables false
open Go Go.RowKit
variable {a : Nat → Addr}
set_option maxRecDepth 50000 in
set_option maxHeartbeats 2000000 in
theorem mlineend_ok (w : World) (S : Nat → Prop) (mb : Nat) (l : List El) (K k : Nat) (h : Mdl w S mb l K) (hl : l.length ≤ 536870912) (hk : k < linesOf l) :
    Calls Tryz.prog 61 #[.pointer (some ⟨mb, 0, none⟩), .int .i64 k] w fun e w' => (∃ m e0, e = .returned (.tuple #[.int .i64 (liveOf (l.take m)), .nilIface]) ∧ l[m]? = some e0 ∧ e0.lines = 1 ∧ linesOf (l.take m) = k) ∧ Below w.heap.size w w' := by
  obtain ⟨gt, gm, p, T, h1, h2, h3, rfl, h5, h6, h7, h8, h9⟩ := h
  have m0 := h1.cell 0
  simp at m0
  have ml := h1.lt
  have HF := hid (findLine_ok T p gt 64 k _ w h2 h3 (by omega) hk)
  have HB := hid (fun W m (hm : m ≤ T.all.length) (hb : Below w.heap.size w W) => before_ok T p gt 64 m _ W (h2.step hb) (h3.step hb) (by omega) hm)
  clear h9 h5
  go_enter Tryz.func61, Tryz.ntmps61
  repeat' (first | (go_at_call 103; go_must ((with_reducible refine Calls.mono HF.out ?_); rintro _ w1 ⟨⟨m1, e1, rfl, he1, hv1, hs1⟩, hb1⟩; have H1 := hid (And.intro he1 (And.intro hv1 hs1)); have hm1 : m1 < T.all.length := (List.getElem?_eq_some_iff.1 he1).1; have HB2 := hid (HB.out w1 m1 (by omega) hb1); have k1 := h1.step hb1; have m0 := k1.cell 0; have ml := k1.lt; simp at m0; clear he1 hv1 hs1 k1; dsimp only)) | (go_at_call 104; go_must ((with_reducible refine Calls.mono HB2.out ?_); rintro _ w2 ⟨rfl, hb2⟩; dsimp only)) | go_values | go_skip | go_guarded | go_step | go_upon | go_back)
  skip
  go_ret2
  exact ⟨⟨m1, e1, rfl, H1.out⟩, balloc (bvia hb1 hb2)⟩
set_option maxRecDepth 50000 in
set_option maxHeartbeats 2000000 in
theorem mlineend_no (w : World) (S S' : Nat → Prop) (mb : Nat) (l : List El) (K : Nat) (i : Int) (h : Mdl w S mb l K) (hi : i < 0 ∨ (linesOf l : Int) ≤ i) (hs : Sents w S' a) :
    Calls Tryz.prog 61 #[.pointer (some ⟨mb, 0, none⟩), .int .i64 i] w fun e w' => ∃ v, e = .returned (.tuple #[.int .i64 0, v]) ∧ IsErr w' (Fr w S') a [⟨({ data := #[109, 111, 100, 101, 108] } : ByteArray), ({ data := #[76, 105, 110, 101, 69, 110, 100] } : ByteArray), atOf i⟩] 2 v ∧ Below w.heap.size w w' := by
  obtain ⟨gt, gm, p, T, h1, h2, h3, rfl, h5, h6, h7, h8, h9⟩ := h
  have m0 := h1.cell 0
  simp at m0
  have ml := h1.lt
  have HF := hid (findLine_no T p gt 64 i _ S' w h2 h3 hs hi)
  have HE := hid (fun W => refused_err (S := S') (a := a) ({ data := #[76, 105, 110, 101, 69, 110, 100] } : ByteArray) i [] 2 (reason (a 2)) W ⟨by omega, by omega, rfl⟩)
  clear h9 h5
  go_enter Tryz.func61, Tryz.ntmps61
  repeat' (first | (go_at_call 103; go_must ((with_reducible refine Calls.mono HF.out ?_); rintro _ w1 ⟨v1, rfl, he1, hb1⟩; obtain ⟨tv, xv, rfl⟩ := he1.notNil; have c2 := (hs.step hb1).cell 2 (by omega) (by omega); simp only [gOf, reason] at c2; dsimp only)) | (go_at_call 79; go_must ((with_reducible refine Calls.mono (HE.out _) ?_); rintro _ w4 ⟨v, rfl, hv, hb4⟩; dsimp only)) | go_values | go_skip | go_guarded | go_step | go_upon | go_back)
  skip
  go_ret2
  exact ⟨v, rfl, hv.cut hb1.size, bvia hb1 hb4⟩
theorem live_purge {l : List El} {m : Nat} {e : El} (he : l[m]? = some e) (h1 : e.live = 1) : (purgeOf l)[liveOf (l.take m)]? = some e := by
  have hh : e.hides ≤ 0 := by
    unfold El.live at h1
    split at h1
    · omega
    · omega
  have key : ∀ (x y : List El) (e : El), e.hides ≤ 0 → (purgeOf (x ++ e :: y))[liveOf x]? = some e := by
    intro x y e hx
    have h2 : purgeOf (x ++ e :: y) = purgeOf x ++ e :: purgeOf y := by
      unfold purgeOf
      rw [List.filter_append, List.filter_cons_of_pos (by simpa using hx)]
    rw [h2, List.getElem?_append_right (by rw [purgeOf_live]; exact Nat.le_refl _), purgeOf_live, Nat.sub_self]
    rfl
  obtain ⟨hm, rfl⟩ := List.getElem?_eq_some_iff.1 he
  have hl : l.take m ++ l[m] :: l.drop (m + 1) = l := by rw [← List.drop_eq_getElem_cons hm, List.take_append_drop]
  have := key (l.take m) (l.drop (m + 1)) l[m] hh
  rw [hl] at this
  exact this
/-- a piece of the view -/
def saidOf (l : List El) (p n : Nat) : List UInt8 := viewOf (((purgeOf l).drop p).take n)
theorem saidOf_zero (l : List El) (p : Nat) : saidOf l p 0 = [] := by simp [saidOf, viewOf]
theorem saidOf_succ {l : List El} {p k q m : Nat} {e : El} (he : l[m]? = some e) (h1 : e.live = 1) (hq : liveOf (l.take m) = q) (hpk : p + k = q) : saidOf l p (k + 1) = saidOf l p k ++ Lib.encodeRune e.char := by
  have hp := live_purge he h1
  rw [hq, ← hpk] at hp
  have hd : ((purgeOf l).drop p)[k]? = some e := by rw [List.getElem?_drop]; exact hp
  unfold saidOf
  rw [take_snoc_el hd, viewOf_snoc]
  congr 1
  unfold El.says
  rw [if_neg]
  unfold El.live at h1
  split at h1 <;> omega
theorem saidOf_le (l : List El) (p n : Nat) : (saidOf l p n).length ≤ 4 * n := by
  have h := viewOf_le (((purgeOf l).drop p).take n)
  have := List.length_take_le n ((purgeOf l).drop p)
  unfold saidOf
  omega
set_option maxRecDepth 50000 in
set_option maxHeartbeats 4000000 in
theorem mslice_ok (w : World) (S : Nat → Prop) (mb : Nat) (l : List El) (K p n : Nat) (h : Mdl w S mb l K) (hl : l.length ≤ 536870912) (hpn : p + n ≤ liveOf l) :
    Calls Tryz.prog 65 #[.pointer (some ⟨mb, 0, none⟩), .int .i64 p, .int .i64 n] w fun e w' => e = .returned (.tuple #[.string ⟨(saidOf l p n).toArray⟩, .nilIface]) ∧ Below w.heap.size w w' := by
  have HV := hid (fun W (hb : Below w.heap.size w W) => mlive_any W S mb l K (h.step hb))
  have hle := liveOf_le l
  obtain ⟨r, hr⟩ : ∃ r : Nat, (liveOf l : Int) - p = r := ⟨liveOf l - p, by omega⟩
  have HW1 := hid (fun W => within_ok p (liveOf l) W (by omega) (by omega))
  have HW2 := hid (fun W => within_ok n r W (by omega) (by omega))
  obtain ⟨gt, gm, pp, T, h1, h2, h3, rfl, h5, h6, h7, h8, h9⟩ := h
  have D0 := Below.refl w.heap.size w
  have H9 := hid h9
  clear h9 h5
  go_enter Tryz.func65, Tryz.ntmps65
  repeat' (first | (go_at_call 11; go_must ((with_reducible refine Calls.mono (HV.out _ D0) ?_); rintro _ w1 ⟨rfl, hb1⟩; have D0 := bvia D0 hb1; dsimp only)) | (go_at_call 81; go_must ((first | (with_reducible refine Calls.mono (HW1.out _) ?_) | (with_reducible refine Calls.mono (HW2.out _) ?_)); rintro _ _ ⟨rfl, rfl⟩; dsimp only)) | (with_reducible refine stop_region 7 ?_) | go_values | go_skip | go_guarded | go_step | go_upon | go_back)
  refine Stop.go ?_
  have k1 := h1.step D0
  have k2 := h2.step D0
  have k3 := h3.step D0
  have hD := D0.size
  have e1 : Below w1.heap.size w1 (w1.alloc (.cells #[.pointer none, .slice none 0 0] 102)) := balloc (Below.refl _ _)
  have hlb := Blk.new w1 102 #[.pointer none, .slice none 0 0]
  have k1 := k1.step e1
  have k2 := k2.step e1
  have k3 := k3.step e1
  have hB0 : Lib.IsBuilderF 102 5 w.heap.size w1.heap.size (Lib.byteCells (saidOf T.all p 0)) (w1.alloc (.cells #[.pointer none, .slice none 0 0] 102)) := by rw [saidOf_zero]; exact .inl ⟨hD, _, hlb, ⟨rfl, .inl ⟨rfl, rfl⟩⟩, by simp [Value.ownBlock]⟩
  have hb0 : Below w.heap.size w (w1.alloc (.cells #[.pointer none, .slice none 0 0] 102)) := bvia D0 e1
  clear hlb e1
  repeat' (first | go_values | go_skip | go_guarded | go_step | go_upon | go_back)
  go_loopw [33] (fun i wr => ∃ k : Nat, i = .int .i64 k ∧ k ≤ n ∧ Lib.IsBuilderF 102 5 w.heap.size w1.heap.size (Lib.byteCells (saidOf T.all p k)) wr ∧ Below w.heap.size w wr) (fun i _ => n - (intOf i).toNat)
  case atStart => exact ⟨0, rfl, Nat.zero_le _, hB0, hb0⟩
  case round =>
    clear hB0 hb0 k1 k2 k3
    obtain ⟨k, rfl, hk, hB, hbr⟩ := hrel
    have k1 := h1.step hbr
    have m0 := k1.cell 0
    have ml := k1.lt
    simp at m0
    by_cases hlt : k < n
    · obtain ⟨q, hqq⟩ : ∃ q : Nat, q = p + k := ⟨_, rfl⟩
      have hq : (p : Int) + (k : Int) = (q : Int) := by omega
      have hqb : (q : Int) ≤ 536870912 := by omega
      have hkn : (k : Int) < n := by omega
      have HF := hid (find_ok T pp gt 64 q _ wr (h2.step hbr) (h3.step hbr) (by omega) (by omega))
      have HA := hid (fun W m (hm : m < T.all.length) (hb : Below w.heap.size w W) => at_ok T pp gt 64 m _ W (h2.step hb) (h3.step hb) (by omega) hm)
      have hlen : (Lib.byteCells (saidOf T.all p k)).length + 4 ≤ 140737488355328 := by
        have := saidOf_le T.all p k
        unfold Lib.byteCells
        rw [List.length_map]
        omega
      have Hlen := hid hlen
      have Hqq := hid hqq
      clear hlen hqq k1
      repeat' (first | (go_at_call 78; go_must ((with_reducible refine Calls.mono HF.out ?_); rintro _ w2 ⟨⟨m, e0, rfl, he0, hv0, hs0⟩, hb2⟩; have B2 := bvia hbr hb2; have hm := (List.getElem?_eq_some_iff.1 he0).1; have H0 := hid (And.intro he0 (And.intro hv0 hs0)); have HA2 := hid (HA.out w2 m hm B2); have k1 := h1.step B2; have m0 := k1.cell 0; have ml := k1.lt; simp at m0; clear he0 hv0 hs0 k1; dsimp only)) | (go_at_call 84; go_must ((with_reducible refine Calls.mono HA2.out ?_); rintro _ w3 ⟨⟨e1, rfl, he1⟩, hb3⟩; obtain rfl := Option.some.inj (he1.symm.trans H0.out.1); clear he1; unfold El.agg; have hX := Blk.new w3 32 #[.int .i64 e1.epoch, .int .i64 e1.rep, .int .i64 e1.num, .int .i32 e1.char, .int .i64 e1.hides]; obtain ⟨x0, x1, x2, x3, x4, xl⟩ := hX.five; have eX := balloc (o := .cells #[.int .i64 e1.epoch, .int .i64 e1.rep, .int .i64 e1.num, .int .i32 e1.char, .int .i64 e1.hides] 32) (Below.refl _ w3); have b3 := bvia (bvia hb2 hb3) eX; have hB3 := builder_step hB b3; have B3 := bvia hbr b3; have hch : 0 ≤ e1.char ∧ e1.char ≤ 1114111 := (by have h1 := (H9.out e1 (List.mem_of_getElem? H0.out.1)).char; unfold rightC at h1; have h2 := of_decide_eq_true h1; omega); have HWR := hid (writeRune_b w.heap.size w1.heap.size _ e1.char (by omega) (by omega) _ hB3 Hlen.out B3.size); dsimp only)) | (go_at_call 55; go_must ((with_reducible refine Calls.mono HWR.out ?_); rintro _ w4 ⟨rfl, k4, hb4, ho4⟩; dsimp only)) | go_values | go_skip | go_guarded | go_step | go_upon | go_back)
      skip
      go_roundw
      case rel =>
        refine ⟨k + 1, by go_num, by omega, ?_, B3.trans hb4⟩
        rw [saidOf_succ H0.out.1 H0.out.2.1 H0.out.2.2 Hqq.out.symm, show Lib.byteCells (saidOf T.all p k ++ Lib.encodeRune e1.char) = Lib.byteCells (saidOf T.all p k) ++ Lib.runeCells e1.char from by rw [← Lib.byteCells_encodeRune]; simp [Lib.byteCells]]
        exact .inr k4
      case measure => simp [intOf]; omega
    · obtain rfl : k = n := by omega
      repeat' (first | (go_at_call 56; go_must ((with_reducible refine Calls.mono (bstring_b w.heap.size w1.heap.size _ wr hB hbr.size) ?_); rintro _ w4 ⟨rfl, hb4, ho4⟩; dsimp only)) | go_values | go_skip | go_guarded | go_step | go_upon | go_back)
      skip
      go_ret2
      exact ⟨rfl, hbr.trans hb4⟩
set_option maxRecDepth 50000 in
set_option maxHeartbeats 2000000 in
theorem mslice_no (w : World) (S S' : Nat → Prop) (mb : Nat) (l : List El) (K : Nat) (p n : Int) (h : Mdl w S mb l K) (hl : l.length ≤ 536870912) (hp : -9223372036854775808 ≤ p ∧ p ≤ 9223372036854775807) (hi : p < 0 ∨ (liveOf l : Int) < p ∨ n < 0 ∨ (liveOf l : Int) - p < n) (hs : Sents w S' a) :
    Calls Tryz.prog 65 #[.pointer (some ⟨mb, 0, none⟩), .int .i64 p, .int .i64 n] w fun e w' => ∃ v, e = .returned (.tuple #[.string ⟨#[]⟩, v]) ∧ IsErr w' (Fr w S') a [⟨({ data := #[109, 111, 100, 101, 108] } : ByteArray), ({ data := #[83, 108, 105, 99, 101] } : ByteArray), atOf p⟩] 2 v ∧ Below w.heap.size w w' := by
  have HV := hid (fun W (hb : Below w.heap.size w W) => mlive_any W S mb l K (h.step hb))
  have hle := liveOf_le l
  have D0 := Below.refl w.heap.size w
  have HE := hid (fun W => refused_err (S := S') (a := a) ({ data := #[83, 108, 105, 99, 101] } : ByteArray) p [] 2 (reason (a 2)) W ⟨by omega, by omega, rfl⟩)
  clear h
  by_cases hp1 : p < 0 ∨ (liveOf l : Int) < p
  · have HW1 := hid (fun W (hb : Below w.heap.size w W) => within_no p (liveOf l) W S' (hs.step hb) hp1)
    unfold reason at HW1
    clear hi hp1
    go_enter Tryz.func65, Tryz.ntmps65
    repeat' (first | (go_at_call 11; go_must ((with_reducible refine Calls.mono (HV.out _ D0) ?_); rintro _ w1 ⟨rfl, hb1⟩; have D0 := bvia D0 hb1; dsimp only)) | (go_at_call 81; go_must ((with_reducible refine Calls.mono (HW1.out _ D0) ?_); rintro _ _ ⟨rfl, rfl⟩; dsimp only)) | (go_at_call 79; go_must ((with_reducible refine Calls.mono (HE.out _) ?_); rintro _ w4 ⟨v, rfl, hv, hb4⟩; dsimp only)) | go_values | go_skip | go_guarded | go_step | go_upon | go_back)
    skip
    go_ret2
    exact ⟨v, rfl, hv.cut D0.size, bvia D0 hb4⟩
  · obtain ⟨q, rfl⟩ : ∃ q : Nat, p = q := ⟨p.toNat, by omega⟩
    have HW1 := hid (fun W => within_ok q (liveOf l) W (by omega) (by omega))
    obtain ⟨r, hr⟩ : ∃ r : Nat, (liveOf l : Int) - q = r := ⟨liveOf l - q, by omega⟩
    have HW2 := hid (fun W (hb : Below w.heap.size w W) => within_no n r W S' (hs.step hb) (by omega))
    unfold reason at HW2
    clear hi hp1
    go_enter Tryz.func65, Tryz.ntmps65
    repeat' (first | (go_at_call 11; go_must ((with_reducible refine Calls.mono (HV.out _ D0) ?_); rintro _ w1 ⟨rfl, hb1⟩; have D0 := bvia D0 hb1; dsimp only)) | (go_at_call 81; go_must ((first | ((with_reducible refine Calls.mono (HW1.out _) ?_); rintro _ _ ⟨rfl, rfl⟩) | ((with_reducible refine Calls.mono (HW2.out _ D0) ?_); rintro _ _ ⟨rfl, rfl⟩)); dsimp only)) | (go_at_call 79; go_must ((with_reducible refine Calls.mono (HE.out _) ?_); rintro _ w4 ⟨v, rfl, hv, hb4⟩; dsimp only)) | go_values | go_skip | go_guarded | go_step | go_upon | go_back)
    skip
    go_ret2
    exact ⟨v, rfl, hv.cut D0.size, bvia D0 hb4⟩
end Go.Proofs.YtfihjajllfihjaaGreatDoor
namespace Go.Proofs.YtfihjajllfihjaaGreatDoor
set_option linter.unusedSimpArgs false
set_option linter.unusedVariables false
open Go Go.RowKit
/-- the characters seen -/
def seenOf (l : List El) : List Int := (purgeOf l).map El.char
theorem seenOf_length (l : List El) : (seenOf l).length = liveOf l := by rw [seenOf, List.length_map, purgeOf_live]
theorem seenOf_append (a b : List El) : seenOf (a ++ b) = seenOf a ++ seenOf b := by simp [seenOf, purgeOf]
theorem seenOf_one_live {e : El} (h : e.hides ≤ 0) : seenOf [e] = [e.char] := by simp [seenOf, purgeOf, h]
theorem seenOf_one_not {e : El} (h : ¬ e.hides ≤ 0) : seenOf [e] = [] := by simp [seenOf, purgeOf, h]
/-- the k-th line end lies at q -/
def EolAt (s : List Int) (k q : Nat) : Prop := s[q]? = some 10 ∧ (s.take q).count 10 = k
theorem EolAt.same {s : List Int} {k q q' : Nat} (h : EolAt s k q) (h' : EolAt s k q') : q = q' := by
  have key : ∀ {a b : Nat}, EolAt s k a → EolAt s k b → ¬ a < b := by
    intro a b ha hb hlt
    have h1 : (s.take (a + 1)).count 10 = k + 1 := by
      rw [List.take_add_one, ha.1, List.count_append, ha.2]
      rfl
    have h2 : (s.take (a + 1)).count 10 ≤ (s.take b).count 10 := (List.take_sublist_take_left hlt).count_le 10
    rw [h1, hb.2] at h2
    omega
  rcases Nat.lt_trichotomy q q' with h1 | h1 | h1
  · exact absurd h1 (key h h')
  · exact h1
  · exact absurd h1 (key h' h)
def utf8S (s : List Int) : List UInt8 := s.flatMap Lib.encodeRune
theorem viewOf_seen (l : List El) : viewOf l = utf8S (seenOf l) := by
  rw [← purgeOf_view]
  unfold viewOf utf8S seenOf
  unfold purgeOf
  induction l with
  | nil => rfl
  | cons e l ih =>
    by_cases h : e.hides ≤ 0
    · rw [List.filter_cons_of_pos (by simpa using h), List.flatMap_cons, List.map_cons, List.flatMap_cons, ih]
      congr 1
      unfold El.says
      rw [if_neg (by omega)]
    · rw [List.filter_cons_of_neg (by simpa using h), ih]
theorem saidOf_seen (l : List El) (p n : Nat) : saidOf l p n = utf8S (((seenOf l).drop p).take n) := by
  unfold saidOf
  rw [viewOf_seen]
  congr 1
  unfold seenOf
  rw [← List.map_drop, ← List.map_take]
  congr 1
  unfold purgeOf
  rw [List.filter_eq_self.2]
  intro e he
  exact (List.mem_filter.1 (List.mem_of_mem_drop (List.mem_of_mem_take he))).2
end Go.Proofs.YtfihjajllfihjaaGreatDoor
namespace Go.Proofs.YtfihjajllfihjaaGreatDoor
set_option linter.unusedSimpArgs false
set_option linter.unusedVariables false
open Go Go.RowKit
variable {a : Nat → Addr}
end Go.Proofs.YtfihjajllfihjaaGreatDoor
namespace Go.Proofs.YtfihjajllfihjaaGreatDoor
set_option linter.unusedSimpArgs false
set_option linter.unusedVariables false
open Go Go.RowKit
variable {a : Nat → Addr}
end Go.Proofs.YtfihjajllfihjaaGreatDoor
namespace Go.Proofs.YtfihjajllfihjaaGreatDoor
set_option linter.unusedSimpArgs false
set_option linter.unusedVariables false
open Go Go.RowKit Go.ChangeShapes Go.WideShapes Go.ChangeAt Go.Deep
set_option maxRecDepth 20000 in
theorem grow_of_trod {α : Type} [Enc α] [Inhabited α] {H : Type} {enc : TypeId × Value → H} {W : World} {t u : TypeId} {v : Value} {d : DataW H} {p : List MemPlace} {r : Reach} {b0 : Nat} (hu : Tryz.prog.underlying u = some (.slice t)) (hk : Tryz.prog.cellsOf t = Enc.k α) (hk0 : 0 < Enc.k α) (Pr : α → Prop)
    (hel : ∀ fuel cs x, cs.length = Enc.k α → DataW.trod enc Tryz.prog W 0 (fun _ => true) true fuel t cs = some x → ∃ e : α, cs = Enc.cells e ∧ Pr e)
    (hv : Value.okWide Tryz.prog W r b0 u v) (h : DataW.Trod enc Tryz.prog W 0 (fun _ => true) true u v d p) :
    ∃ A n c, ∃ es : List α, v = .slice A n c ∧ GRow W (fun b => b < W.heap.size) A n c es ∧ ∀ e ∈ es, Pr e := by
  obtain ⟨fuel, h⟩ := h
  obtain ⟨a', len', cap', rfl⟩ := okWide_slice hu hv
  rcases open_slice (cs := [.slice a' len' cap']) hu h with ⟨h0, _⟩ | ⟨a, len, cap, m, n, D, Pl, h0, _, hlc, hcm, hm, _, hx⟩
  · injection h0 with h0 _
    exact ⟨none, 0, 0, [], h0, GRow.nil _ _ _ _ (Nat.zero_le _), fun e he => by cases he⟩
  · injection h0 with h0 _
    have hm' : len ≤ m := by rw [hm]; simpa using hlc
    have each : ∀ i, i < m → ∃ e : α, (∀ j u, (Enc.cells e)[j]? = some u → W.cell? (a.add (i * Enc.k α + j)) = some u) ∧ Pr e := by
      intro i hi
      obtain ⟨cs', h1, h2⟩ := hx i hi
      rw [hk] at h1
      obtain ⟨_, hlen, hcell⟩ := World.cells?_some h1
      obtain ⟨e, he, hin⟩ := hel _ _ _ hlen h2
      refine ⟨e, fun j u hu => ?_, hin⟩
      have hj : j < Enc.k α := by
        have := (List.getElem?_eq_some_iff.1 hu).1
        rw [Enc.len] at this
        exact this
      have := hcell j hj
      rw [he, hu] at this
      rw [add_add] at this
      exact this
    obtain ⟨E, hE⟩ := choose_lt each
    refine ⟨some a, len, cap, (List.range len).map E, h0, ⟨by simp, hlc, hcm, fun hn => ?_⟩, ?_⟩
    · obtain ⟨b, o, s⟩ := a
      have hl0 : 0 < (Enc.cells (E 0)).length := by rw [Enc.len]; exact hk0
      have h00 := (hE 0 (by omega)).1 0 _ (List.getElem?_eq_getElem hl0)
      have hs : s = none := by simpa [Addr.add] using World.cell?_spot h00
      subst hs
      rw [Nat.zero_mul] at h00
      have hlt : b < W.heap.size := by simpa [Addr.add] using lt_of_cell' h00
      refine ⟨b, o, rfl, hlt, hlt, fun j u hu => ?_⟩
      have hjl := (List.getElem?_eq_some_iff.1 hu).1
      rw [gcells_length] at hjl
      simp only [List.length_map, List.length_range] at hjl
      have hi : j / Enc.k α < len := Nat.div_lt_of_lt_mul (by rw [Nat.mul_comm]; exact hjl)
      have hq : ((List.range len).map E)[j / Enc.k α]? = some (E (j / Enc.k α)) := by simp [hi]
      have hc := gcells_at hq (j := j % Enc.k α) (Nat.mod_lt _ hk0)
      rw [Nat.div_add_mod', hu] at hc
      have := (hE (j / Enc.k α) (by omega)).1 (j % Enc.k α) u hc.symm
      rw [Nat.div_add_mod'] at this
      rw [show (⟨b, o, none⟩ : Addr).add j = ⟨b, o + j, none⟩ from by unfold Addr.add; split <;> simp_all] at this
      exact this
    · intro e he
      obtain ⟨i, hi, rfl⟩ := List.mem_map.1 he
      exact (hE i (by have := List.mem_range.1 hi; omega)).2
end Go.Proofs.YtfihjajllfihjaaGreatDoor
namespace Go.Proofs.YtfihjajllfihjaaGreatDoor
set_option linter.unusedSimpArgs false
set_option linter.unusedVariables false
open Go Go.RowKit Go.ChangeShapes Go.WideShapes Go.ChangeAt Go.Deep
/-- a character in a cell -/
structure Rn where
  c : Int
instance : Enc Rn where
  k := 1
  cells r := [.int .i32 r.c]
  len _ := rfl
  one := by
    intro a u hu
    have : u = .int .i32 a.c := by simpa using hu
    subst this
    rfl
instance : Inhabited Rn := ⟨⟨0⟩⟩
instance : Enc Bool where
  k := 1
  cells b := [.bool b]
  len _ := rfl
  one := by
    intro a u hu
    have : u = .bool a := by simpa using hu
    subst this
    rfl
theorem Tryz.infoRn : (Tryz.prog.info? 21).map (fun i => (i.zero, i.size, i.bytes)) = some (some (.int .i32 0), 1, 4) := by kernel_rfl
theorem wp_append_runes {ac : Act} {K : Act → World → Prop} {Q : Exit → Act → World → Prop} {w : World} {dst : Option Tmp} {s x : Operand} {ty : TypeId} {pos : String} {after : Array Edge} {guard : Option (Nat × Bool)}
    (base : Nat) (A B : Option Addr) (n c m d : Nat) (es fs : List Rn) (S : Nat → Prop) (hs : ac.eval s = .slice A n c) (hx : ac.eval x = .slice B m d) (hown : GOwn 21 w base A n c es) (hrow : GRow w S B m d fs) (hb : base ≤ w.heap.size) (hbd : n + m ≤ 1099511627776)
    (h : ∀ A' c' w', GOwn 21 w' base A' (n + m) c' (es ++ fs) → Below base w w' → Same (fun k => ∀ g, A = some g → g.block ≠ k) w w' → (A' = A ∨ ∃ g, A' = some ⟨g, 0, none⟩ ∧ w.heap.size ≤ g) → w.heap.size ≤ w'.heap.size → K (ac.put dst (.slice A' (n + m) c')) w') :
    Oper.wp Tryz.prog ⟨dst, .call ⟨.builtin .append, #[s, x], #[47, 47]⟩, ty, pos, after, guard⟩ ac w K Q :=
  wp_append_g (α := Rn) 47 21 _ 4 Tryz.underlying47 Tryz.infoRn rfl (by decide) (by decide) (by decide) base A B n c m d es fs S hs hx hown hrow hb hbd h
theorem app_runes_here {ac : Act} {K : Act → World → Prop} {Q : Exit → Act → World → Prop} {w : World} {dst : Option Tmp} {s x : Operand} {ty : TypeId} {pos : String} {after : Array Edge} {guard : Option (Nat × Bool)}
    (h : Oper.wp Tryz.prog ⟨dst, .call ⟨.builtin .append, #[s, x], #[47, 47]⟩, ty, pos, after, guard⟩ ac w K Q) : Oper.wp Tryz.prog ⟨dst, .call ⟨.builtin .append, #[s, x], #[47, 47]⟩, ty, pos, after, guard⟩ ac w K Q := h
theorem grow_rune (W : World) (x : Int) : GRow (W.alloc (.cells #[.int .i32 x] 21)) (fun _ => True) (some ⟨W.heap.size, 0, none⟩) 1 1 [(⟨x⟩ : Rn)] :=
  (GOwn.lit (t := 21) W #[.int .i32 x] [(⟨x⟩ : Rn)] W.heap.size (Nat.le_refl _) (by show 1 ≤ maxLen; decide) rfl).row fun _ _ _ => trivial
end Go.Proofs.YtfihjajllfihjaaGreatDoor
