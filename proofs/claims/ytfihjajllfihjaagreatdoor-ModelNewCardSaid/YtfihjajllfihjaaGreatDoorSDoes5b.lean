/- Chapter 5: a piece of the view; the calls that change nothing; one call of any kind: the walks. Conditions: the model, its row and the reasons lie in memory, fewer than 2^20 elements. -/
import Derived.Test.YtfihjajllfihjaaGreatDoorSDoes5
namespace Go.Proofs.YtfihjajllfihjaaGreatDoor
set_option linter.unusedSimpArgs false
set_option linter.unusedVariables false
open Go Go.RowKit
variable {a : Nat → Addr}
theorem grow_drop {w : World} {S : Nat → Prop} {A : Option Addr} {n c : Nat} {s : List Int} (h : GRow w S A n c (s.map Rn.mk)) {k : Nat} (hk : k ≤ n) : GRow w S (if c = k then A else A.map (·.add k)) (n - k) (c - k) ((s.drop k).map Rn.mk) := by
  refine ⟨by have := h.1; rw [List.length_map] at this ⊢; rw [List.length_drop, this], by have := h.2.1; omega, by have := h.2.2.1; omega, fun h0 => ?_⟩
  obtain ⟨b, off, rfl, hs, hb, hc⟩ := h.2.2.2 (by omega)
  have hck : ¬ c = k := by have := h.2.1; omega
  rw [if_neg hck]
  refine ⟨b, off + k, by simp [Addr.add], hs, hb, fun j u hu => ?_⟩
  rw [Nat.add_assoc]
  refine hc _ u ?_
  rw [← hu]
  have key : ∀ (s : List Int), gcells (s.map Rn.mk) = s.map (Value.int .i32) := by
    intro s
    induction s with
    | nil => rfl
    | cons x s ih => rw [List.map_cons, gcells_cons, ih]; rfl
  rw [key, key, List.getElem?_map, List.getElem?_map, List.getElem?_drop]
set_option maxRecDepth 200000 in
set_option maxHeartbeats 8000000 in
theorem slice5_ok (w : World) (pb mb : Nat) (S : Nat → Prop) (l : List El) (K base p n : Nat) (hP : MPair w pb mb S l K base) (hl : l.length ≤ 1048576) (hpn : p + n ≤ liveOf l) :
    Calls Tryz.prog 41 #[.pointer (some ⟨pb, 0, none⟩), .int .i64 p, .int .i64 n] w fun e w' => e = .returned (.bool true) ∧ Below w.heap.size w w' := by
  obtain ⟨A, c, hB, hrow, hM, hS, hbp, hnd⟩ := hP
  have hg := hM.allGood
  have hle := liveOf_le l
  have HN := hid (mslice_ok w S mb l K p n hM (by omega) hpn)
  have HS := hid (fun W (hb : Below w.heap.size w W) => refSum_any A l.length c l _ W (hrow.step hb) (by omega))
  have HC := hid (fun W (hb : Below w.heap.size w W) => refChars_any A l.length c l _ W (hrow.step hb) (by omega))
  have hsl := seenOf_length l
  obtain ⟨q, hq⟩ : ∃ q : Nat, (p : Int) + n = q := ⟨p + n, by omega⟩
  obtain ⟨r, hr⟩ : ∃ r : Nat, (liveOf l : Int) - p = r := ⟨liveOf l - p, by omega⟩
  have hu : utf8S (((seenOf l).drop p).take n) = saidOf l p n := (saidOf_seen l p n).symm
  have HU := hid (fun W B d (hr : GRow W (fun _ => True) B n d ((((seenOf l).drop p).take n).map Rn.mk)) => refUtf8_any W B n d _ _ hr (by omega) (fun x hx => seen_right hg x (List.mem_of_mem_drop (List.mem_of_mem_take hx))))
  rw [utf8S_bytesZ, hu] at HU
  have D0 := Below.refl w.heap.size w
  have kk := hB.step D0; have p0 := kk.cell 0; have p1 := kk.cell 1; have pl := kk.lt; simp at p0 p1; clear kk
  have k0 : ¬ (p : Int) < 0 := by omega
  have k1 : ¬ (p : Int) > liveOf l := by omega
  have k2 : ¬ (n : Int) < 0 := by omega
  have k3 : ¬ (n : Int) > r := by omega
  have hql : q ≤ liveOf l := by omega
  have hqp : q - p = n := by omega
  have hpq : p ≤ q := by omega
  clear hM hrow hg hu
  generalize (saidOf l p n).toArray = sd at *
  go_enter Tryz.func41, Tryz.ntmps41
  repeat' (first | (go_at_call 65; go_must ((with_reducible refine Calls.mono HN.out ?_); rintro _ w3 ⟨rfl, hb3⟩; have B := hb3; have kk := hB.step B; have p0 := kk.cell 0; have p1 := kk.cell 1; have pl := kk.lt; simp at p0 p1; clear kk; dsimp only)) | (go_at_call 12; go_must ((with_reducible refine Calls.mono (HS.out _ B) ?_); rintro _ w4 ⟨rfl, hb4⟩; have B := bvia B hb4; have kk := hB.step B; have p0 := kk.cell 0; have p1 := kk.cell 1; have pl := kk.lt; simp at p0 p1; clear kk; dsimp only)) | (go_at_call 88; go_must ((with_reducible refine Calls.mono (HC.out _ B) ?_); rintro _ w5 ⟨⟨A5, c5, rfl, hown5⟩, hb5⟩; have B := bvia B hb5; have hcl5 := hown5.cap_le; have hqc5 : q ≤ c5 := (by omega); have hpc5 : p ≤ c5 := (by omega); have hmx5 := hcl5.2; unfold maxLen at hmx5; have kk := hB.step B; have p0 := kk.cell 0; have p1 := kk.cell 1; have pl := kk.lt; simp at p0 p1; clear kk; have hsub := (grow_drop (hown5.row (S := fun _ => True) fun _ _ _ => trivial) (show p ≤ liveOf l by omega)).take_ (show n ≤ liveOf l - p by omega); rw [← List.map_take] at hsub; have HU2 := hid (HU.out w5 _ _ hsub); clear hsub; dsimp only)) | (go_at_call 87; go_must ((with_reducible refine Calls.mono HU2.out ?_); rintro _ w6 ⟨rfl, hb6⟩; have B := bvia B hb6; dsimp only)) | (go_at_call 38; go_must ((with_reducible refine Calls.mono (no5_none _ _ _) ?_); rintro _ w8 ⟨rfl, hb8⟩; have B := bvia B hb8; dsimp only)) | (go_at_call 30; go_must ((with_reducible refine Calls.mono (refused_none _) ?_); rintro _ w9 ⟨rfl, hb9⟩; have B := bvia B hb9; dsimp only)) | go_values | go_skip | go_guarded | go_step | go_upon | go_back)
  skip
  go_ret
  exact ⟨rfl, B⟩
set_option maxRecDepth 200000 in
set_option maxHeartbeats 8000000 in
theorem slice5_no (w : World) (pb mb : Nat) (S S' : Nat → Prop) (l : List El) (K base : Nat) (p n : Int) (hP : MPair w pb mb S l K base) (hl : l.length ≤ 1048576) (hs : Sents w S' a) (hp : -9223372036854775808 ≤ p ∧ p ≤ 9223372036854775807) (hi : p < 0 ∨ (liveOf l : Int) < p ∨ n < 0 ∨ (liveOf l : Int) - p < n) :
    Calls Tryz.prog 41 #[.pointer (some ⟨pb, 0, none⟩), .int .i64 p, .int .i64 n] w fun e w' => e = .returned (.bool true) ∧ Below w.heap.size w w' := by
  obtain ⟨A, c, hB, hrow, hM, hS, hbp, hnd⟩ := hP
  have hle := liveOf_le l
  have hs0 := hs.narrow
  have Hs := hid hs0
  have HN := hid (mslice_no (a := a) w S (fun b => b < w.heap.size) mb l K p n hM (by omega) hp hi hs0)
  have HS := hid (fun W (hb : Below w.heap.size w W) => refSum_any A l.length c l _ W (hrow.step hb) (by omega))
  have HF := hid (fun W c i e v (he : IsErr W (fun _ => True) a [⟨({ data := #[109, 111, 100, 101, 108] } : ByteArray), c, atOf i⟩] 2 e) (hno : IsNo W (fun _ => True) [⟨({ data := #[109, 111, 100, 101, 108] } : ByteArray), c, atOf i⟩] 2 v) (hs : Sents W (fun _ => True) a) => refused_any (a := a) _ 2 e v _ _ W he hno hs (by simp))
  have D0 := Below.refl w.heap.size w
  have kk := hB.step D0; have p0 := kk.cell 0; have p1 := kk.cell 1; have pl := kk.lt; simp at p0 p1; clear kk
  have key : p < 0 ∨ (¬ p < 0 ∧ p > (liveOf l : Int)) ∨ (¬ p < 0 ∧ ¬ p > (liveOf l : Int) ∧ n < 0) ∨ (¬ p < 0 ∧ ¬ p > (liveOf l : Int) ∧ ¬ n < 0 ∧ ∃ r : Nat, (liveOf l : Int) - p = r ∧ n > (r : Int)) := by
    by_cases h1 : p < 0
    · exact .inl h1
    · by_cases h2 : p > (liveOf l : Int)
      · exact .inr (.inl ⟨h1, h2⟩)
      · by_cases h3 : n < 0
        · exact .inr (.inr (.inl ⟨h1, h2, h3⟩))
        · exact .inr (.inr (.inr ⟨h1, h2, h3, (liveOf l - p.toNat : Nat), by omega, by omega⟩))
  obtain ⟨hp1, hp2⟩ := hp
  clear hM hrow hs hs0 hi
  rcases key with h0 | ⟨h0, h1⟩ | ⟨h0, h1, h2⟩ | ⟨h0, h1, h2, r, hr, h3⟩
  all_goals
    as_aux_lemma =>
      go_enter Tryz.func41, Tryz.ntmps41
      repeat' (first | (go_at_call 65; go_must ((with_reducible refine Calls.mono HN.out ?_); rintro _ w3 ⟨vp, rfl, hep, hb3⟩; have B := hb3; have kk := hB.step B; have p0 := kk.cell 0; have p1 := kk.cell 1; have pl := kk.lt; simp at p0 p1; clear kk; dsimp only)) | (go_at_call 12; go_must ((with_reducible refine Calls.mono (HS.out _ B) ?_); rintro _ w4 ⟨rfl, hb4⟩; have hep := hep.step hb4; have B := bvia B hb4; have kk := hB.step B; have p0 := kk.cell 0; have p1 := kk.cell 1; have pl := kk.lt; simp at p0 p1; clear kk; dsimp only)) | (go_at_call 38; go_must ((with_reducible refine Calls.mono (no5_any ({ data := #[83, 108, 105, 99, 101] } : ByteArray) p (fun _ => True) _) ?_); rintro _ w8 ⟨v8, rfl, hno8, hb8⟩; have B := bvia B hb8; have HF8 := hid (HF.out w8 ({ data := #[83, 108, 105, 99, 101] } : ByteArray) p _ v8 ((hep.step hb8).more (fun _ _ _ => trivial)) (hno8.re (Nat.le_refl _) (Same.refl _ _) (fun _ _ => trivial)) (Hs.out.step B).wide); dsimp only)) | (go_at_call 30; go_must ((with_reducible refine Calls.mono HF8.out ?_); rintro _ w9 ⟨rfl, hb9⟩; have B := bvia B hb9; dsimp only)) | go_values | go_skip | go_guarded | go_step | go_upon | go_back)
      skip
      go_ret
      exact ⟨rfl, B⟩
theorem finds_any (w : World) (pb mb : Nat) (S S' : Nat → Prop) (l : List El) (K base : Nat) (d i : Int) (hd : d = 4 ∨ d = 5 ∨ d = 6 ∨ d = 7) (hP : MPair w pb mb S l K base) (hl : l.length ≤ 1048576) (hs : Sents w S' a) :
    Calls Tryz.prog 44 #[.pointer (some ⟨pb, 0, none⟩), .int .i64 d, .int .i64 i] w fun e w' => e = .returned (.bool true) ∧ Below w.heap.size w w' := by
  rcases hd with rfl | rfl | rfl | rfl
  · by_cases h : i < 0 ∨ (l.length : Int) < i
    · exact finds4_no (a := a) w pb mb S S' l K base i hP hl hs h
    · obtain ⟨k, rfl⟩ : ∃ k : Nat, i = k := ⟨i.toNat, by omega⟩
      by_cases hk : k < l.length
      · exact finds4_ok w pb mb S l K base k hP hl l[k] (List.getElem?_eq_getElem hk)
      · exact finds4_end (a := a) w pb mb S l K base k hP hl S' hs (by omega)
  · by_cases h : i < 0 ∨ (liveOf l : Int) ≤ i
    · exact finds5_no (a := a) w pb mb S S' l K base i hP hl hs h
    · obtain ⟨k, rfl⟩ : ∃ k : Nat, i = k := ⟨i.toNat, by omega⟩
      exact finds5_ok w pb mb S l K base k hP hl (by omega)
  · by_cases h : i < 0 ∨ (liveOf l : Int) < i
    · exact finds6_no (a := a) w pb mb S S' l K base i hP hl hs h
    · obtain ⟨k, rfl⟩ : ∃ k : Nat, i = k := ⟨i.toNat, by omega⟩
      exact finds6_ok w pb mb S l K base k hP hl (by omega)
  · by_cases h : i < 0 ∨ (linesOf l : Int) ≤ i
    · exact finds7_no (a := a) w pb mb S S' l K base i hP hl hs h
    · obtain ⟨k, rfl⟩ : ∃ k : Nat, i = k := ⟨i.toNat, by omega⟩
      exact finds7_ok w pb mb S l K base k hP hl (by omega)
theorem slice5_any (w : World) (pb mb : Nat) (S S' : Nat → Prop) (l : List El) (K base : Nat) (p n : Int) (hP : MPair w pb mb S l K base) (hl : l.length ≤ 1048576) (hs : Sents w S' a) (hp : -9223372036854775808 ≤ p ∧ p ≤ 9223372036854775807) :
    Calls Tryz.prog 41 #[.pointer (some ⟨pb, 0, none⟩), .int .i64 p, .int .i64 n] w fun e w' => e = .returned (.bool true) ∧ Below w.heap.size w w' := by
  by_cases h : p < 0 ∨ (liveOf l : Int) < p ∨ n < 0 ∨ (liveOf l : Int) - p < n
  · exact slice5_no (a := a) w pb mb S S' l K base p n hP hl hs hp h
  · obtain ⟨k, rfl⟩ : ∃ k : Nat, p = k := ⟨p.toNat, by omega⟩
    obtain ⟨m, rfl⟩ : ∃ m : Nat, n = m := ⟨n.toNat, by omega⟩
    exact slice5_ok w pb mb S l K base k m hP hl (by omega)
set_option maxRecDepth 200000 in
set_option maxHeartbeats 8000000 in
theorem does8_any (w : World) (pb mb : Nat) (S S' : Nat → Prop) (l : List El) (K base : Nat) (do_ n : Int) (e : El) (hP : MPair w pb mb S l K base) (hl : l.length ≤ 1048000) (hK : K ≤ 1099511627776) (hs : Sents w S' a) (hsb : ∀ b, S' b → b < base) (hin : e.In) (i : Int) (hd : do_ % 11 = 8) (hi : -9223372036854775808 ≤ i ∧ i ≤ 9223372036854775807) : Calls Tryz.prog 9 #[.pointer (some ⟨pb, 0, none⟩), .agg #[.int .i64 do_, .int .i64 i, .int .i64 n, .int .i64 e.epoch, .int .i64 e.rep, .int .i64 e.num, .int .i32 e.char, .int .i64 e.hides]] w fun r w' => r = .returned (.bool true) ∧ Did w w' pb mb S l K base := by
  have B0 : Below w.heap.size w (w.alloc (.cells #[.int .i64 do_, .int .i64 i, .int .i64 n, .int .i64 e.epoch, .int .i64 e.rep, .int .i64 e.num, .int .i32 e.char, .int .i64 e.hides] 34)) := balloc (Below.refl _ _)
  have hX := Blk.new w 34 #[.int .i64 do_, .int .i64 i, .int .i64 n, .int .i64 e.epoch, .int .i64 e.rep, .int .i64 e.num, .int .i32 e.char, .int .i64 e.hides]
  have hM0 := (hP.mdl.more (S' := fun b => S b ∧ b < w.heap.size) fun b h1 h2 => ⟨h2, h1⟩).step B0
  have hPX := hP.step B0
  have hsX := hs.step B0
  have hwx := B0.size
  have HI := hid (fun W => within_any do_ 11 (by decide) (by decide) W)
  rw [hd] at HI
  have Hpw := hid hP.cell.2
  clear hP hs
  go_enter Tryz.func9, Tryz.ntmps9
  repeat' (first | (with_reducible refine stop_region 1 ?_) | go_values | go_skip | go_guarded | go_step | go_upon | go_back)
  refine Stop.go ?_
  generalize w.alloc (.cells #[.int .i64 do_, .int .i64 i, .int .i64 n, .int .i64 e.epoch, .int .i64 e.rep, .int .i64 e.num, .int .i32 e.char, .int .i64 e.hides] 34) = X at *
  obtain ⟨A, c, hB, hrow, hM, hS, hbp, hnd⟩ := hPX
  have hPX : MPair X pb mb S l K base := ⟨A, c, hB, hrow, hM, hS, hbp, hnd⟩
  have HPX := hid hPX
  have Hnd := hid hnd
  have HSn := hid hS
  have hpS : ¬ (S pb ∧ pb < w.heap.size) := fun h => (hS pb h.1).2 rfl
  have hxS : ¬ (S w.heap.size ∧ w.heap.size < w.heap.size) := fun h => Nat.lt_irrefl _ h.2
  have hpl := hB.lt
  have hA1 := hB.cell 1
  simp at hA1
  have HA1 := hid hA1
  have Hsb := hid (fun b (h : S' b) => (by have := hsb b h; omega : b < pb ∧ b < X.heap.size))
  clear hnd hS hA1 hsb hPX
  have D0 := Below.refl X.heap.size X
  have kk := hB.step D0; have p0 := kk.cell 0; have p1 := kk.cell 1; have pf1 := kk.frozen 1; have pl := kk.lt; simp at p0 p1; clear kk; have kx := hX.step D0; obtain ⟨x0, x1, x2, x3, x4, x5, x6, x7, xl⟩ := kx.eight5; clear kx
  have HQ := hid (slice5_any (a := a) X pb mb S S' l K base i n HPX.out (by omega) hsX hi)
  clear hM0 hM hrow
  repeat' (first | (go_at_call 32; go_must ((with_reducible refine Calls.mono (HI.out _) ?_); rintro _ _ ⟨rfl, rfl⟩; dsimp only)) | (go_at_call 41; go_must ((with_reducible refine Calls.mono HQ.out ?_); rintro _ w9 ⟨rfl, hb9⟩; dsimp only)) | go_values | go_skip | go_guarded | go_step | go_upon | go_back)
  skip
  go_ret
  exact ⟨rfl, (Did.of_below HPX.out hb9).via B0⟩
set_option maxRecDepth 200000 in
set_option maxHeartbeats 8000000 in
theorem does10_any (w : World) (pb mb : Nat) (S S' : Nat → Prop) (l : List El) (K base : Nat) (do_ n : Int) (e : El) (hP : MPair w pb mb S l K base) (hl : l.length ≤ 1048000) (hK : K ≤ 1099511627776) (hs : Sents w S' a) (hsb : ∀ b, S' b → b < base) (hin : e.In) (i : Int) (hd : do_ % 11 = 10) (_hT : True) : Calls Tryz.prog 9 #[.pointer (some ⟨pb, 0, none⟩), .agg #[.int .i64 do_, .int .i64 i, .int .i64 n, .int .i64 e.epoch, .int .i64 e.rep, .int .i64 e.num, .int .i32 e.char, .int .i64 e.hides]] w fun r w' => r = .returned (.bool true) ∧ Did w w' pb mb S l K base := by
  have B0 : Below w.heap.size w (w.alloc (.cells #[.int .i64 do_, .int .i64 i, .int .i64 n, .int .i64 e.epoch, .int .i64 e.rep, .int .i64 e.num, .int .i32 e.char, .int .i64 e.hides] 34)) := balloc (Below.refl _ _)
  have hX := Blk.new w 34 #[.int .i64 do_, .int .i64 i, .int .i64 n, .int .i64 e.epoch, .int .i64 e.rep, .int .i64 e.num, .int .i32 e.char, .int .i64 e.hides]
  have hM0 := (hP.mdl.more (S' := fun b => S b ∧ b < w.heap.size) fun b h1 h2 => ⟨h2, h1⟩).step B0
  have hPX := hP.step B0
  have hsX := hs.step B0
  have hwx := B0.size
  have HI := hid (fun W => within_any do_ 11 (by decide) (by decide) W)
  rw [hd] at HI
  have Hpw := hid hP.cell.2
  clear hP hs
  go_enter Tryz.func9, Tryz.ntmps9
  repeat' (first | (with_reducible refine stop_region 1 ?_) | go_values | go_skip | go_guarded | go_step | go_upon | go_back)
  refine Stop.go ?_
  generalize w.alloc (.cells #[.int .i64 do_, .int .i64 i, .int .i64 n, .int .i64 e.epoch, .int .i64 e.rep, .int .i64 e.num, .int .i32 e.char, .int .i64 e.hides] 34) = X at *
  obtain ⟨A, c, hB, hrow, hM, hS, hbp, hnd⟩ := hPX
  have hPX : MPair X pb mb S l K base := ⟨A, c, hB, hrow, hM, hS, hbp, hnd⟩
  have HPX := hid hPX
  have Hnd := hid hnd
  have HSn := hid hS
  have hpS : ¬ (S pb ∧ pb < w.heap.size) := fun h => (hS pb h.1).2 rfl
  have hxS : ¬ (S w.heap.size ∧ w.heap.size < w.heap.size) := fun h => Nat.lt_irrefl _ h.2
  have hpl := hB.lt
  have hA1 := hB.cell 1
  simp at hA1
  have HA1 := hid hA1
  have Hsb := hid (fun b (h : S' b) => (by have := hsb b h; omega : b < pb ∧ b < X.heap.size))
  clear hnd hS hA1 hsb hPX
  have D0 := Below.refl X.heap.size X
  have kk := hB.step D0; have p0 := kk.cell 0; have p1 := kk.cell 1; have pf1 := kk.frozen 1; have pl := kk.lt; simp at p0 p1; clear kk; have kx := hX.step D0; obtain ⟨x0, x1, x2, x3, x4, x5, x6, x7, xl⟩ := kx.eight5; clear kx
  have HQ := hid (same5_any X pb mb S l K base HPX.out (by omega))
  clear hM0 hM hrow
  repeat' (first | (go_at_call 32; go_must ((with_reducible refine Calls.mono (HI.out _) ?_); rintro _ _ ⟨rfl, rfl⟩; dsimp only)) | (go_at_call 13; go_must ((with_reducible refine Calls.mono HQ.out ?_); rintro _ w9 ⟨rfl, hb9⟩; dsimp only)) | go_values | go_skip | go_guarded | go_step | go_upon | go_back)
  skip
  go_ret
  exact ⟨rfl, (Did.of_below HPX.out hb9).via B0⟩
set_option maxRecDepth 200000 in
set_option maxHeartbeats 8000000 in
theorem does4_any (w : World) (pb mb : Nat) (S S' : Nat → Prop) (l : List El) (K base : Nat) (do_ n : Int) (e : El) (hP : MPair w pb mb S l K base) (hl : l.length ≤ 1048000) (hK : K ≤ 1099511627776) (hs : Sents w S' a) (hsb : ∀ b, S' b → b < base) (hin : e.In) (i : Int) (hd : do_ % 11 = 4) (_hT : True) : Calls Tryz.prog 9 #[.pointer (some ⟨pb, 0, none⟩), .agg #[.int .i64 do_, .int .i64 i, .int .i64 n, .int .i64 e.epoch, .int .i64 e.rep, .int .i64 e.num, .int .i32 e.char, .int .i64 e.hides]] w fun r w' => r = .returned (.bool true) ∧ Did w w' pb mb S l K base := by
  have B0 : Below w.heap.size w (w.alloc (.cells #[.int .i64 do_, .int .i64 i, .int .i64 n, .int .i64 e.epoch, .int .i64 e.rep, .int .i64 e.num, .int .i32 e.char, .int .i64 e.hides] 34)) := balloc (Below.refl _ _)
  have hX := Blk.new w 34 #[.int .i64 do_, .int .i64 i, .int .i64 n, .int .i64 e.epoch, .int .i64 e.rep, .int .i64 e.num, .int .i32 e.char, .int .i64 e.hides]
  have hM0 := (hP.mdl.more (S' := fun b => S b ∧ b < w.heap.size) fun b h1 h2 => ⟨h2, h1⟩).step B0
  have hPX := hP.step B0
  have hsX := hs.step B0
  have hwx := B0.size
  have HI := hid (fun W => within_any do_ 11 (by decide) (by decide) W)
  rw [hd] at HI
  have Hpw := hid hP.cell.2
  clear hP hs
  go_enter Tryz.func9, Tryz.ntmps9
  repeat' (first | (with_reducible refine stop_region 1 ?_) | go_values | go_skip | go_guarded | go_step | go_upon | go_back)
  refine Stop.go ?_
  generalize w.alloc (.cells #[.int .i64 do_, .int .i64 i, .int .i64 n, .int .i64 e.epoch, .int .i64 e.rep, .int .i64 e.num, .int .i32 e.char, .int .i64 e.hides] 34) = X at *
  obtain ⟨A, c, hB, hrow, hM, hS, hbp, hnd⟩ := hPX
  have hPX : MPair X pb mb S l K base := ⟨A, c, hB, hrow, hM, hS, hbp, hnd⟩
  have HPX := hid hPX
  have Hnd := hid hnd
  have HSn := hid hS
  have hpS : ¬ (S pb ∧ pb < w.heap.size) := fun h => (hS pb h.1).2 rfl
  have hxS : ¬ (S w.heap.size ∧ w.heap.size < w.heap.size) := fun h => Nat.lt_irrefl _ h.2
  have hpl := hB.lt
  have hA1 := hB.cell 1
  simp at hA1
  have HA1 := hid hA1
  have Hsb := hid (fun b (h : S' b) => (by have := hsb b h; omega : b < pb ∧ b < X.heap.size))
  clear hnd hS hA1 hsb hPX
  have D0 := Below.refl X.heap.size X
  have kk := hB.step D0; have p0 := kk.cell 0; have p1 := kk.cell 1; have pf1 := kk.frozen 1; have pl := kk.lt; simp at p0 p1; clear kk; have kx := hX.step D0; obtain ⟨x0, x1, x2, x3, x4, x5, x6, x7, xl⟩ := kx.eight5; clear kx
  have HQ := hid (finds_any (a := a) X pb mb S S' l K base 4 i (.inl rfl) HPX.out (by omega) hsX)
  clear hM0 hM hrow
  repeat' (first | (go_at_call 32; go_must ((with_reducible refine Calls.mono (HI.out _) ?_); rintro _ _ ⟨rfl, rfl⟩; dsimp only)) | (go_at_call 44; go_must ((with_reducible refine Calls.mono HQ.out ?_); rintro _ w9 ⟨rfl, hb9⟩; dsimp only)) | go_values | go_skip | go_guarded | go_step | go_upon | go_back)
  skip
  go_ret
  exact ⟨rfl, (Did.of_below HPX.out hb9).via B0⟩
set_option maxRecDepth 200000 in
set_option maxHeartbeats 8000000 in
theorem does5_any (w : World) (pb mb : Nat) (S S' : Nat → Prop) (l : List El) (K base : Nat) (do_ n : Int) (e : El) (hP : MPair w pb mb S l K base) (hl : l.length ≤ 1048000) (hK : K ≤ 1099511627776) (hs : Sents w S' a) (hsb : ∀ b, S' b → b < base) (hin : e.In) (i : Int) (hd : do_ % 11 = 5) (_hT : True) : Calls Tryz.prog 9 #[.pointer (some ⟨pb, 0, none⟩), .agg #[.int .i64 do_, .int .i64 i, .int .i64 n, .int .i64 e.epoch, .int .i64 e.rep, .int .i64 e.num, .int .i32 e.char, .int .i64 e.hides]] w fun r w' => r = .returned (.bool true) ∧ Did w w' pb mb S l K base := by
  have B0 : Below w.heap.size w (w.alloc (.cells #[.int .i64 do_, .int .i64 i, .int .i64 n, .int .i64 e.epoch, .int .i64 e.rep, .int .i64 e.num, .int .i32 e.char, .int .i64 e.hides] 34)) := balloc (Below.refl _ _)
  have hX := Blk.new w 34 #[.int .i64 do_, .int .i64 i, .int .i64 n, .int .i64 e.epoch, .int .i64 e.rep, .int .i64 e.num, .int .i32 e.char, .int .i64 e.hides]
  have hM0 := (hP.mdl.more (S' := fun b => S b ∧ b < w.heap.size) fun b h1 h2 => ⟨h2, h1⟩).step B0
  have hPX := hP.step B0
  have hsX := hs.step B0
  have hwx := B0.size
  have HI := hid (fun W => within_any do_ 11 (by decide) (by decide) W)
  rw [hd] at HI
  have Hpw := hid hP.cell.2
  clear hP hs
  go_enter Tryz.func9, Tryz.ntmps9
  repeat' (first | (with_reducible refine stop_region 1 ?_) | go_values | go_skip | go_guarded | go_step | go_upon | go_back)
  refine Stop.go ?_
  generalize w.alloc (.cells #[.int .i64 do_, .int .i64 i, .int .i64 n, .int .i64 e.epoch, .int .i64 e.rep, .int .i64 e.num, .int .i32 e.char, .int .i64 e.hides] 34) = X at *
  obtain ⟨A, c, hB, hrow, hM, hS, hbp, hnd⟩ := hPX
  have hPX : MPair X pb mb S l K base := ⟨A, c, hB, hrow, hM, hS, hbp, hnd⟩
  have HPX := hid hPX
  have Hnd := hid hnd
  have HSn := hid hS
  have hpS : ¬ (S pb ∧ pb < w.heap.size) := fun h => (hS pb h.1).2 rfl
  have hxS : ¬ (S w.heap.size ∧ w.heap.size < w.heap.size) := fun h => Nat.lt_irrefl _ h.2
  have hpl := hB.lt
  have hA1 := hB.cell 1
  simp at hA1
  have HA1 := hid hA1
  have Hsb := hid (fun b (h : S' b) => (by have := hsb b h; omega : b < pb ∧ b < X.heap.size))
  clear hnd hS hA1 hsb hPX
  have D0 := Below.refl X.heap.size X
  have kk := hB.step D0; have p0 := kk.cell 0; have p1 := kk.cell 1; have pf1 := kk.frozen 1; have pl := kk.lt; simp at p0 p1; clear kk; have kx := hX.step D0; obtain ⟨x0, x1, x2, x3, x4, x5, x6, x7, xl⟩ := kx.eight5; clear kx
  have HQ := hid (finds_any (a := a) X pb mb S S' l K base 5 i (.inr (.inl rfl)) HPX.out (by omega) hsX)
  clear hM0 hM hrow
  repeat' (first | (go_at_call 32; go_must ((with_reducible refine Calls.mono (HI.out _) ?_); rintro _ _ ⟨rfl, rfl⟩; dsimp only)) | (go_at_call 44; go_must ((with_reducible refine Calls.mono HQ.out ?_); rintro _ w9 ⟨rfl, hb9⟩; dsimp only)) | go_values | go_skip | go_guarded | go_step | go_upon | go_back)
  skip
  go_ret
  exact ⟨rfl, (Did.of_below HPX.out hb9).via B0⟩
set_option maxRecDepth 200000 in
set_option maxHeartbeats 8000000 in
theorem does6_any (w : World) (pb mb : Nat) (S S' : Nat → Prop) (l : List El) (K base : Nat) (do_ n : Int) (e : El) (hP : MPair w pb mb S l K base) (hl : l.length ≤ 1048000) (hK : K ≤ 1099511627776) (hs : Sents w S' a) (hsb : ∀ b, S' b → b < base) (hin : e.In) (i : Int) (hd : do_ % 11 = 6) (_hT : True) : Calls Tryz.prog 9 #[.pointer (some ⟨pb, 0, none⟩), .agg #[.int .i64 do_, .int .i64 i, .int .i64 n, .int .i64 e.epoch, .int .i64 e.rep, .int .i64 e.num, .int .i32 e.char, .int .i64 e.hides]] w fun r w' => r = .returned (.bool true) ∧ Did w w' pb mb S l K base := by
  have B0 : Below w.heap.size w (w.alloc (.cells #[.int .i64 do_, .int .i64 i, .int .i64 n, .int .i64 e.epoch, .int .i64 e.rep, .int .i64 e.num, .int .i32 e.char, .int .i64 e.hides] 34)) := balloc (Below.refl _ _)
  have hX := Blk.new w 34 #[.int .i64 do_, .int .i64 i, .int .i64 n, .int .i64 e.epoch, .int .i64 e.rep, .int .i64 e.num, .int .i32 e.char, .int .i64 e.hides]
  have hM0 := (hP.mdl.more (S' := fun b => S b ∧ b < w.heap.size) fun b h1 h2 => ⟨h2, h1⟩).step B0
  have hPX := hP.step B0
  have hsX := hs.step B0
  have hwx := B0.size
  have HI := hid (fun W => within_any do_ 11 (by decide) (by decide) W)
  rw [hd] at HI
  have Hpw := hid hP.cell.2
  clear hP hs
  go_enter Tryz.func9, Tryz.ntmps9
  repeat' (first | (with_reducible refine stop_region 1 ?_) | go_values | go_skip | go_guarded | go_step | go_upon | go_back)
  refine Stop.go ?_
  generalize w.alloc (.cells #[.int .i64 do_, .int .i64 i, .int .i64 n, .int .i64 e.epoch, .int .i64 e.rep, .int .i64 e.num, .int .i32 e.char, .int .i64 e.hides] 34) = X at *
  obtain ⟨A, c, hB, hrow, hM, hS, hbp, hnd⟩ := hPX
  have hPX : MPair X pb mb S l K base := ⟨A, c, hB, hrow, hM, hS, hbp, hnd⟩
  have HPX := hid hPX
  have Hnd := hid hnd
  have HSn := hid hS
  have hpS : ¬ (S pb ∧ pb < w.heap.size) := fun h => (hS pb h.1).2 rfl
  have hxS : ¬ (S w.heap.size ∧ w.heap.size < w.heap.size) := fun h => Nat.lt_irrefl _ h.2
  have hpl := hB.lt
  have hA1 := hB.cell 1
  simp at hA1
  have HA1 := hid hA1
  have Hsb := hid (fun b (h : S' b) => (by have := hsb b h; omega : b < pb ∧ b < X.heap.size))
  clear hnd hS hA1 hsb hPX
  have D0 := Below.refl X.heap.size X
  have kk := hB.step D0; have p0 := kk.cell 0; have p1 := kk.cell 1; have pf1 := kk.frozen 1; have pl := kk.lt; simp at p0 p1; clear kk; have kx := hX.step D0; obtain ⟨x0, x1, x2, x3, x4, x5, x6, x7, xl⟩ := kx.eight5; clear kx
  have HQ := hid (finds_any (a := a) X pb mb S S' l K base 6 i (.inr (.inr (.inl rfl))) HPX.out (by omega) hsX)
  clear hM0 hM hrow
  repeat' (first | (go_at_call 32; go_must ((with_reducible refine Calls.mono (HI.out _) ?_); rintro _ _ ⟨rfl, rfl⟩; dsimp only)) | (go_at_call 44; go_must ((with_reducible refine Calls.mono HQ.out ?_); rintro _ w9 ⟨rfl, hb9⟩; dsimp only)) | go_values | go_skip | go_guarded | go_step | go_upon | go_back)
  skip
  go_ret
  exact ⟨rfl, (Did.of_below HPX.out hb9).via B0⟩
set_option maxRecDepth 200000 in
set_option maxHeartbeats 8000000 in
theorem does7_any (w : World) (pb mb : Nat) (S S' : Nat → Prop) (l : List El) (K base : Nat) (do_ n : Int) (e : El) (hP : MPair w pb mb S l K base) (hl : l.length ≤ 1048000) (hK : K ≤ 1099511627776) (hs : Sents w S' a) (hsb : ∀ b, S' b → b < base) (hin : e.In) (i : Int) (hd : do_ % 11 = 7) (_hT : True) : Calls Tryz.prog 9 #[.pointer (some ⟨pb, 0, none⟩), .agg #[.int .i64 do_, .int .i64 i, .int .i64 n, .int .i64 e.epoch, .int .i64 e.rep, .int .i64 e.num, .int .i32 e.char, .int .i64 e.hides]] w fun r w' => r = .returned (.bool true) ∧ Did w w' pb mb S l K base := by
  have B0 : Below w.heap.size w (w.alloc (.cells #[.int .i64 do_, .int .i64 i, .int .i64 n, .int .i64 e.epoch, .int .i64 e.rep, .int .i64 e.num, .int .i32 e.char, .int .i64 e.hides] 34)) := balloc (Below.refl _ _)
  have hX := Blk.new w 34 #[.int .i64 do_, .int .i64 i, .int .i64 n, .int .i64 e.epoch, .int .i64 e.rep, .int .i64 e.num, .int .i32 e.char, .int .i64 e.hides]
  have hM0 := (hP.mdl.more (S' := fun b => S b ∧ b < w.heap.size) fun b h1 h2 => ⟨h2, h1⟩).step B0
  have hPX := hP.step B0
  have hsX := hs.step B0
  have hwx := B0.size
  have HI := hid (fun W => within_any do_ 11 (by decide) (by decide) W)
  rw [hd] at HI
  have Hpw := hid hP.cell.2
  clear hP hs
  go_enter Tryz.func9, Tryz.ntmps9
  repeat' (first | (with_reducible refine stop_region 1 ?_) | go_values | go_skip | go_guarded | go_step | go_upon | go_back)
  refine Stop.go ?_
  generalize w.alloc (.cells #[.int .i64 do_, .int .i64 i, .int .i64 n, .int .i64 e.epoch, .int .i64 e.rep, .int .i64 e.num, .int .i32 e.char, .int .i64 e.hides] 34) = X at *
  obtain ⟨A, c, hB, hrow, hM, hS, hbp, hnd⟩ := hPX
  have hPX : MPair X pb mb S l K base := ⟨A, c, hB, hrow, hM, hS, hbp, hnd⟩
  have HPX := hid hPX
  have Hnd := hid hnd
  have HSn := hid hS
  have hpS : ¬ (S pb ∧ pb < w.heap.size) := fun h => (hS pb h.1).2 rfl
  have hxS : ¬ (S w.heap.size ∧ w.heap.size < w.heap.size) := fun h => Nat.lt_irrefl _ h.2
  have hpl := hB.lt
  have hA1 := hB.cell 1
  simp at hA1
  have HA1 := hid hA1
  have Hsb := hid (fun b (h : S' b) => (by have := hsb b h; omega : b < pb ∧ b < X.heap.size))
  clear hnd hS hA1 hsb hPX
  have D0 := Below.refl X.heap.size X
  have kk := hB.step D0; have p0 := kk.cell 0; have p1 := kk.cell 1; have pf1 := kk.frozen 1; have pl := kk.lt; simp at p0 p1; clear kk; have kx := hX.step D0; obtain ⟨x0, x1, x2, x3, x4, x5, x6, x7, xl⟩ := kx.eight5; clear kx
  have HQ := hid (finds_any (a := a) X pb mb S S' l K base 7 i (.inr (.inr (.inr rfl))) HPX.out (by omega) hsX)
  clear hM0 hM hrow
  repeat' (first | (go_at_call 32; go_must ((with_reducible refine Calls.mono (HI.out _) ?_); rintro _ _ ⟨rfl, rfl⟩; dsimp only)) | (go_at_call 44; go_must ((with_reducible refine Calls.mono HQ.out ?_); rintro _ w9 ⟨rfl, hb9⟩; dsimp only)) | go_values | go_skip | go_guarded | go_step | go_upon | go_back)
  skip
  go_ret
  exact ⟨rfl, (Did.of_below HPX.out hb9).via B0⟩
theorem did_purge {X W1 w4 : World} {pb mb K K' base : Nat} {S : Nat → Prop} {l l' : List El} {A' : Option Addr} {c' : Nat} {v : Value} {z : Nat} (hz0 : z ≤ X.heap.size) (hP : MPair X pb mb S l K base) (D : Below X.heap.size X W1) {n : Nat} (hrow : Row W1 (fun b => X.heap.size ≤ b ∧ b < W1.heap.size) A' n c' l') (hv : v = .slice A' n c')
    (hM : Mdl w4 (Fr (W1.setCell ⟨pb, 1, none⟩ v) (fun b => S b ∧ b < z)) mb l' K') (hO : Out (fun b => S b ∧ b < z) (W1.setCell ⟨pb, 1, none⟩ v) w4) (hll : l'.length ≤ l.length + 1) (hK : K' ≤ K + 1) (hnd : (l'.map El.nm).Nodup) : Did X w4 pb mb S l K base := by
  subst hv
  obtain rfl : l'.length = n := hrow.1
  obtain ⟨A, c, hB, -, -, hS, hbp, -⟩ := hP
  have hpl := hB.lt
  have hz := D.size
  have hsz : (W1.setCell ⟨pb, 1, none⟩ (.slice A' l'.length c')).heap.size = W1.heap.size := by simp [World.setCell]
  have hz4 := hO.size
  rw [hsz] at hz4
  have hpS : ¬ (S pb ∧ pb < z) := fun h => (hS pb h.1).2 rfl
  have hB4 := hO.blk ((hB.step D).set_ 1 (.slice A' l'.length c')) hpS
  refine ⟨Fr (W1.setCell ⟨pb, 1, none⟩ (.slice A' l'.length c')) (fun b => S b ∧ b < z), l', K', ⟨A', c', hB4, ?_, hM, ?_, hbp, hnd⟩, hll, hK, fun b hb h => ?_, ?_, ?_⟩
  · refine (hrow.keep (w' := w4) fun b hb hl => ?_).more fun b _ h => ⟨by omega, by omega, fun h' => ?_⟩
    · rw [hO.block b (by rw [hsz]; exact hl) (fun h' => by omega)]
      exact heap_set_ne (show b ≠ pb by omega)
    · rcases h' with h' | h'
      · omega
      · rw [hsz] at h'; omega
  · intro b h
    rcases h with h | h
    · exact hS b h.1
    · rw [hsz] at h
      exact ⟨by omega, by omega⟩
  · rcases h with h | h
    · exact h.1
    · rw [hsz] at h; omega
  · refine ((Out.of_below (S := fun b => S b ∨ b = pb) D).trans (Out.setCell (S := fun b => S b ∨ b = pb) (p := ⟨pb, 1, none⟩) (.inr rfl) (.slice A' l'.length c')) fun b _ h => h).trans (⟨hO.os, hO.tape, hO.output, hO.size, fun k hk hn => hO.block k hk (fun h => hn (.inl h.1))⟩ : Out (fun b => S b ∨ b = pb) _ w4) fun b _ h => h
  · have hc := hB4.cell 1
    simp at hc
    refine .inr ⟨A', c', hc, (hrow.keep (w' := w4) fun b hb hl => ?_).more fun b _ h => h.1⟩
    rw [hO.block b (by rw [hsz]; exact hl) (fun h' => by omega)]
    exact heap_set_ne (show b ≠ pb by omega)
set_option maxRecDepth 200000 in
set_option maxHeartbeats 8000000 in
theorem does9_any (w : World) (pb mb : Nat) (S S' : Nat → Prop) (l : List El) (K base : Nat) (do_ n : Int) (e : El) (hP : MPair w pb mb S l K base) (hl : l.length ≤ 1048000) (hK : K ≤ 1099511627776) (hs : Sents w S' a) (hsb : ∀ b, S' b → b < base) (hin : e.In) (i : Int) (hd : do_ % 11 = 9) : Calls Tryz.prog 9 #[.pointer (some ⟨pb, 0, none⟩), .agg #[.int .i64 do_, .int .i64 i, .int .i64 n, .int .i64 e.epoch, .int .i64 e.rep, .int .i64 e.num, .int .i32 e.char, .int .i64 e.hides]] w fun r w' => r = .returned (.bool true) ∧ Did w w' pb mb S l K base := by
  have B0 : Below w.heap.size w (w.alloc (.cells #[.int .i64 do_, .int .i64 i, .int .i64 n, .int .i64 e.epoch, .int .i64 e.rep, .int .i64 e.num, .int .i32 e.char, .int .i64 e.hides] 34)) := balloc (Below.refl _ _)
  have hX := Blk.new w 34 #[.int .i64 do_, .int .i64 i, .int .i64 n, .int .i64 e.epoch, .int .i64 e.rep, .int .i64 e.num, .int .i32 e.char, .int .i64 e.hides]
  have hM0 := (hP.mdl.more (S' := fun b => S b ∧ b < w.heap.size) fun b h1 h2 => ⟨h2, h1⟩).step B0
  have hPX := hP.step B0
  have hsX := hs.step B0
  have hwx := B0.size
  have HI := hid (fun W => within_any do_ 11 (by decide) (by decide) W)
  rw [hd] at HI
  have Hpw := hid hP.cell.2
  clear hP hs
  go_enter Tryz.func9, Tryz.ntmps9
  repeat' (first | (with_reducible refine stop_region 1 ?_) | go_values | go_skip | go_guarded | go_step | go_upon | go_back)
  refine Stop.go ?_
  generalize w.alloc (.cells #[.int .i64 do_, .int .i64 i, .int .i64 n, .int .i64 e.epoch, .int .i64 e.rep, .int .i64 e.num, .int .i32 e.char, .int .i64 e.hides] 34) = X at *
  obtain ⟨A, c, hB, hrow, hM, hS, hbp, hnd⟩ := hPX
  have hPX : MPair X pb mb S l K base := ⟨A, c, hB, hrow, hM, hS, hbp, hnd⟩
  have HPX := hid hPX
  have Hnd := hid hnd
  have HSn := hid hS
  have hpS : ¬ (S pb ∧ pb < w.heap.size) := fun h => (hS pb h.1).2 rfl
  have hxS : ¬ (S w.heap.size ∧ w.heap.size < w.heap.size) := fun h => Nat.lt_irrefl _ h.2
  have hpl := hB.lt
  have hA1 := hB.cell 1
  simp at hA1
  have HA1 := hid hA1
  have Hsb := hid (fun b (h : S' b) => (by have := hsb b h; omega : b < pb ∧ b < X.heap.size))
  clear hnd hS hA1 hsb hPX
  have D0 := Below.refl X.heap.size X
  have kk := hB.step D0; have p0 := kk.cell 0; have p1 := kk.cell 1; have pf1 := kk.frozen 1; have pl := kk.lt; simp at p0 p1; clear kk; have kx := hX.step D0; obtain ⟨x0, x1, x2, x3, x4, x5, x6, x7, xl⟩ := kx.eight5; clear kx
  have hlp := purgeOf_le l
  have HR := hid (fun W (hb : Below X.heap.size X W) => refPurge_any A l.length c l _ W (hrow.step hb) (by omega))
  have HM := hid (fun W (hb : ∀ b, b < X.heap.size → (S b ∧ b < w.heap.size) → W.heap[b]? = X.heap[b]?) => mpurge_any W _ mb l K (hM0.keep hb) (by omega) Hnd.out)
  have Hnd' := hid (purgeOf_nodup Hnd.out)
  have hdv : ((l.length : Int) - (purgeOf l).length) = ((l.length - (purgeOf l).length : Nat) : Int) := by omega
  clear hM0 hM hrow
  repeat' (first | (go_at_call 32; go_must ((with_reducible refine Calls.mono (HI.out _) ?_); rintro _ _ ⟨rfl, rfl⟩; dsimp only)) | (go_at_call 42; go_must ((with_reducible refine Calls.mono (HR.out _ D0) ?_); rintro _ w1 ⟨A', c', rfl, hown, hb1⟩; have D := hb1; have kk := hB.step D; have p0 := kk.cell 0; have p1 := kk.cell 1; have pf1 := kk.frozen 1; have pl := kk.lt; simp at p0 p1; clear kk; have kx := hX.step D; obtain ⟨x0, x1, x2, x3, x4, x5, x6, x7, xl⟩ := kx.eight5; clear kx; dsimp only)) | (with_reducible refine stop_region 29 ?_) | go_values | go_skip | go_guarded | go_step | go_upon | go_back)
  skip
  refine Stop.go ?_
  have hB2 := (hB.step D).set_ 1 (.slice A' (purgeOf l).length c')
  have hrow1 := hown.row (S := fun b => X.heap.size ≤ b ∧ b < w1.heap.size) fun b h1 h2 => ⟨h1, h2⟩
  have hzz : (w1.setCell ⟨pb, 1, none⟩ (.slice A' (purgeOf l).length c')).heap.size = w1.heap.size := by simp [World.setCell]
  have hHM := HM.out (w1.setCell ⟨pb, 1, none⟩ (.slice A' (purgeOf l).length c')).drew (fun b hl hb => (heap_set_ne (fun e => by
    have e : b = pb := e
    subst e
    exact hpS hb)).trans (hb1.block b hl))
  have HHM := hid hHM
  have HDP := hid (fun w4 hM hO => did_purge (w4 := w4) (l' := purgeOf l) (K' := K) hwx HPX.out D hrow1 rfl hM hO (by omega) (Nat.le_succ _) Hnd'.out)
  have qp : (w1.setCell ⟨pb, 1, none⟩ (.slice A' (purgeOf l).length c')).drew.heap[pb]? = some (.cells #[.pointer (some ⟨mb, 0, none⟩), .slice A' (purgeOf l).length c'] 37 (0, 0)) := hB2
  clear p0 p1 pf1 pl x0 x1 x2 x3 x4 x5 x6 x7 xl hHM HM hrow1 hown
  generalize w1.setCell ⟨pb, 1, none⟩ (.slice A' (purgeOf l).length c') = W2 at *
  have p0 := hB2.cell 0
  have p1 := hB2.cell 1
  have pl := hB2.lt
  simp at p0 p1
  generalize (purgeOf l).length = m at *
  repeat' (first | ((with_reducible refine region_at 29 ?_); refine wp_region_orderT (fun b => ¬ (S b ∧ b < w.heap.size)) [(0, true, false), (1, true, false), (2, true, false), (3, true, false), (5, true, false), (6, true, false), (7, true, false), (8, true, false), (9, true, false), (10, true, false), (11, true, false), (4, false, false), (12, true, false), (13, true, false)] (by kernel_rfl) (by kernel_rfl) (by kernel_rfl) rfl rfl ?_) | (go_at_call 43; go_must ((with_reducible refine Calls.mono HHM.out ?_); rintro _ w4 ⟨rfl, hM4, hO4⟩; have hk4 : KeepT (fun b => ¬ (S b ∧ b < w.heap.size)) W2.drew w4 := ⟨hO4.size, fun b h1 h2 => hO4.block b h1 h2⟩; have hDid := HDP.out w4 hM4 (Out.drew.trans hO4 fun b _ h => h); have hB4 := hO4.blk hB2.drew hpS; have p0 := hB4.cell 0; have p1 := hB4.cell 1; have pl := hB4.lt; simp at p0 p1; dsimp only)) | (with_reducible refine Keep.last ?_) | (with_reducible refine Keep.below (by assumption) ?_) | (with_reducible refine Keep.kept (by assumption) ?_) | (with_reducible refine Keep.alloc ?_) | (with_reducible refine Keep.same ?_) | ((with_reducible refine WpH.here ?_); first | (refine WpH.nil ?_; refine NoP.normal ?_) | (refine WpH.load (by rfl) (by rfl) (by go_simp; rfl) ?_; simp only [Act.put, List.setIfInBounds_toArray, List.set_cons_zero, List.set_cons_succ]) | (refine WpH.loadT (by rfl) (by rfl) (by go_simp; rfl) (by rintro _ _ ⟨⟩; exact ⟨_, _, _, _, _, _, by rfl, by assumption, by assumption⟩) ?_; simp only [Act.put, List.setIfInBounds_toArray, List.set_cons_zero, List.set_cons_succ]) | (refine WpH.pure (by rfl) (fun w_ => by go_simp; (try go_bits); rfl) ?_; simp only [Act.put, List.setIfInBounds_toArray, List.set_cons_zero, List.set_cons_succ]) | (refine WpH.wild1 (by rfl) (fun _ _ => ?_)) | (refine WpH.skip (by rfl) ?_; simp only [Act.put, List.setIfInBounds_toArray, List.set_cons_zero, List.set_cons_succ])) | go_values | go_skip | go_guarded | go_step | go_upon | go_back)
  skip
  go_ret
  exact ⟨rfl, hDid.via B0⟩
set_option maxRecDepth 200000 in
set_option maxHeartbeats 8000000 in
theorem does3_no (w : World) (pb mb : Nat) (S S' : Nat → Prop) (l : List El) (K base : Nat) (do_ n : Int) (e : El) (hP : MPair w pb mb S l K base) (hl : l.length ≤ 1048000) (hK : K ≤ 1099511627776) (hs : Sents w S' a) (hsb : ∀ b, S' b → b < base) (hin : e.In) (i : Int) (hd : do_ % 11 = 3) (hno : e.nm ∉ l.map El.nm) : Calls Tryz.prog 9 #[.pointer (some ⟨pb, 0, none⟩), .agg #[.int .i64 do_, .int .i64 i, .int .i64 n, .int .i64 e.epoch, .int .i64 e.rep, .int .i64 e.num, .int .i32 e.char, .int .i64 e.hides]] w fun r w' => r = .returned (.bool true) ∧ Did w w' pb mb S l K base := by
  have B0 : Below w.heap.size w (w.alloc (.cells #[.int .i64 do_, .int .i64 i, .int .i64 n, .int .i64 e.epoch, .int .i64 e.rep, .int .i64 e.num, .int .i32 e.char, .int .i64 e.hides] 34)) := balloc (Below.refl _ _)
  have hX := Blk.new w 34 #[.int .i64 do_, .int .i64 i, .int .i64 n, .int .i64 e.epoch, .int .i64 e.rep, .int .i64 e.num, .int .i32 e.char, .int .i64 e.hides]
  have hM0 := (hP.mdl.more (S' := fun b => S b ∧ b < w.heap.size) fun b h1 h2 => ⟨h2, h1⟩).step B0
  have hPX := hP.step B0
  have hsX := hs.step B0
  have hwx := B0.size
  have HI := hid (fun W => within_any do_ 11 (by decide) (by decide) W)
  rw [hd] at HI
  have Hpw := hid hP.cell.2
  clear hP hs
  go_enter Tryz.func9, Tryz.ntmps9
  repeat' (first | (with_reducible refine stop_region 1 ?_) | go_values | go_skip | go_guarded | go_step | go_upon | go_back)
  refine Stop.go ?_
  generalize w.alloc (.cells #[.int .i64 do_, .int .i64 i, .int .i64 n, .int .i64 e.epoch, .int .i64 e.rep, .int .i64 e.num, .int .i32 e.char, .int .i64 e.hides] 34) = X at *
  obtain ⟨A, c, hB, hrow, hM, hS, hbp, hnd⟩ := hPX
  have hPX : MPair X pb mb S l K base := ⟨A, c, hB, hrow, hM, hS, hbp, hnd⟩
  have HPX := hid hPX
  have Hnd := hid hnd
  have HSn := hid hS
  have hpS : ¬ (S pb ∧ pb < w.heap.size) := fun h => (hS pb h.1).2 rfl
  have hxS : ¬ (S w.heap.size ∧ w.heap.size < w.heap.size) := fun h => Nat.lt_irrefl _ h.2
  have hpl := hB.lt
  have hA1 := hB.cell 1
  simp at hA1
  have HA1 := hid hA1
  have Hsb := hid (fun b (h : S' b) => (by have := hsb b h; omega : b < pb ∧ b < X.heap.size))
  clear hnd hS hA1 hsb hPX
  have D0 := Below.refl X.heap.size X
  have kk := hB.step D0; have p0 := kk.cell 0; have p1 := kk.cell 1; have pf1 := kk.frozen 1; have pl := kk.lt; simp at p0 p1; clear kk; have kx := hX.step D0; obtain ⟨x0, x1, x2, x3, x4, x5, x6, x7, xl⟩ := kx.eight5; clear kx
  have HM := hid (fun W (hb : Below X.heap.size X W) => mindex_no W S mb l K e.nm (hM.step hb) ⟨hin.1, hin.2.1, hin.2.2.1⟩ hno)
  have HR := hid (fun W (hb : Below X.heap.size X W) => (ref5Index_at A l.length c l _ e.nm W (hrow.step hb) (by omega)).mono (R' := fun r w' => r = .returned (.int .i64 (-1)) ∧ Below W.heap.size W w') fun r w' ⟨h, hb⟩ => by
    rcases h with ⟨k, x, h1, h2, h3, h4⟩ | ⟨h1, h2⟩
    · exact absurd (List.mem_map.2 ⟨x, List.mem_of_getElem? h2, h3⟩) hno
    · exact ⟨h1, hb⟩)
  unfold El.nm at HM HR
  dsimp only at HM HR
  have hDd := D0.drew
  have kk := hB.step hDd; have p0 := kk.cell 0; have p1 := kk.cell 1; have pf1 := kk.frozen 1; have pl := kk.lt; simp at p0 p1; clear kk; have kx := hX.step hDd; obtain ⟨x0, x1, x2, x3, x4, x5, x6, x7, xl⟩ := kx.eight5; clear kx
  clear hM0 hM hrow hno
  repeat' (first | (go_at_call 32; go_must ((with_reducible refine Calls.mono (HI.out _) ?_); rintro _ _ ⟨rfl, rfl⟩; dsimp only)) | ((with_reducible refine region_at 21 ?_); refine wp_region_order [(0, true, false), (1, true, false), (2, true, false), (3, true, false), (4, true, false), (5, true, false), (6, true, false), (7, false, false), (8, true, false), (9, true, false), (10, true, false), (11, true, false), (12, true, false)] (by kernel_rfl) (by kernel_rfl) (by kernel_rfl) rfl rfl ?_) | ((with_reducible refine region_at 22 ?_); refine wp_region_order [(0, true, false), (1, true, false), (2, true, false), (3, true, false), (4, true, false), (5, true, false), (6, true, false), (7, false, false), (8, true, false)] (by kernel_rfl) (by kernel_rfl) (by kernel_rfl) rfl rfl ?_) | (go_at_call 39; go_must ((with_reducible refine Calls.mono (HM.out _ hDd) ?_); rintro _ w4 ⟨rfl, hb4⟩; have D4 := (bvia hDd hb4).drew; have kk := hB.step D4; have p0 := kk.cell 0; have p1 := kk.cell 1; have pf1 := kk.frozen 1; have pl := kk.lt; simp at p0 p1; clear kk; have kx := hX.step D4; obtain ⟨x0, x1, x2, x3, x4, x5, x6, x7, xl⟩ := kx.eight5; clear kx; dsimp only)) | (go_at_call 40; go_must ((with_reducible refine Calls.mono (HR.out _ D4) ?_); rintro _ w5 ⟨rfl, hb5⟩; have D5 := bvia D4 hb5; dsimp only)) | (with_reducible refine Keep.last ?_) | (with_reducible refine Keep.below (by assumption) ?_) | (with_reducible refine Keep.kept (by assumption) ?_) | (with_reducible refine Keep.alloc ?_) | (with_reducible refine Keep.same ?_) | ((with_reducible refine WpH.here ?_); first | (refine WpH.nil ?_; refine NoP.normal ?_) | (refine WpH.load (by rfl) (by rfl) (by go_simp; rfl) ?_; simp only [Act.put, List.setIfInBounds_toArray, List.set_cons_zero, List.set_cons_succ]) | (refine WpH.loadT (by rfl) (by rfl) (by go_simp; rfl) (by rintro _ _ ⟨⟩; exact ⟨_, _, _, _, _, _, by rfl, by assumption, by assumption⟩) ?_; simp only [Act.put, List.setIfInBounds_toArray, List.set_cons_zero, List.set_cons_succ]) | (refine WpH.pure (by rfl) (fun w_ => by go_simp; (try go_bits); rfl) ?_; simp only [Act.put, List.setIfInBounds_toArray, List.set_cons_zero, List.set_cons_succ]) | (refine WpH.wild1 (by rfl) (fun _ _ => ?_)) | (refine WpH.skip (by rfl) ?_; simp only [Act.put, List.setIfInBounds_toArray, List.set_cons_zero, List.set_cons_succ])) | go_values | go_skip | go_guarded | go_step | go_upon | go_back)
  skip
  go_ret
  exact ⟨rfl, (Did.of_below HPX.out D5).via B0⟩
set_option maxRecDepth 200000 in
set_option maxHeartbeats 8000000 in
theorem does3_yes (w : World) (pb mb : Nat) (S S' : Nat → Prop) (l : List El) (K base : Nat) (do_ n : Int) (e : El) (hP : MPair w pb mb S l K base) (hl : l.length ≤ 1048000) (hK : K ≤ 1099511627776) (hs : Sents w S' a) (hsb : ∀ b, S' b → b < base) (hin : e.In) (i : Int) (hd : do_ % 11 = 3) (hyes : e.nm ∈ l.map El.nm) : Calls Tryz.prog 9 #[.pointer (some ⟨pb, 0, none⟩), .agg #[.int .i64 do_, .int .i64 i, .int .i64 n, .int .i64 e.epoch, .int .i64 e.rep, .int .i64 e.num, .int .i32 e.char, .int .i64 e.hides]] w fun r w' => r = .returned (.bool true) ∧ Did w w' pb mb S l K base := by
  have B0 : Below w.heap.size w (w.alloc (.cells #[.int .i64 do_, .int .i64 i, .int .i64 n, .int .i64 e.epoch, .int .i64 e.rep, .int .i64 e.num, .int .i32 e.char, .int .i64 e.hides] 34)) := balloc (Below.refl _ _)
  have hX := Blk.new w 34 #[.int .i64 do_, .int .i64 i, .int .i64 n, .int .i64 e.epoch, .int .i64 e.rep, .int .i64 e.num, .int .i32 e.char, .int .i64 e.hides]
  have hM0 := (hP.mdl.more (S' := fun b => S b ∧ b < w.heap.size) fun b h1 h2 => ⟨h2, h1⟩).step B0
  have hPX := hP.step B0
  have hsX := hs.step B0
  have hwx := B0.size
  have HI := hid (fun W => within_any do_ 11 (by decide) (by decide) W)
  rw [hd] at HI
  have Hpw := hid hP.cell.2
  clear hP hs
  go_enter Tryz.func9, Tryz.ntmps9
  repeat' (first | (with_reducible refine stop_region 1 ?_) | go_values | go_skip | go_guarded | go_step | go_upon | go_back)
  refine Stop.go ?_
  generalize w.alloc (.cells #[.int .i64 do_, .int .i64 i, .int .i64 n, .int .i64 e.epoch, .int .i64 e.rep, .int .i64 e.num, .int .i32 e.char, .int .i64 e.hides] 34) = X at *
  obtain ⟨A, c, hB, hrow, hM, hS, hbp, hnd⟩ := hPX
  have hPX : MPair X pb mb S l K base := ⟨A, c, hB, hrow, hM, hS, hbp, hnd⟩
  have HPX := hid hPX
  have Hnd := hid hnd
  have HSn := hid hS
  have hpS : ¬ (S pb ∧ pb < w.heap.size) := fun h => (hS pb h.1).2 rfl
  have hxS : ¬ (S w.heap.size ∧ w.heap.size < w.heap.size) := fun h => Nat.lt_irrefl _ h.2
  have hpl := hB.lt
  have hA1 := hB.cell 1
  simp at hA1
  have HA1 := hid hA1
  have Hsb := hid (fun b (h : S' b) => (by have := hsb b h; omega : b < pb ∧ b < X.heap.size))
  clear hnd hS hA1 hsb hPX
  have D0 := Below.refl X.heap.size X
  have kk := hB.step D0; have p0 := kk.cell 0; have p1 := kk.cell 1; have pf1 := kk.frozen 1; have pl := kk.lt; simp at p0 p1; clear kk; have kx := hX.step D0; obtain ⟨x0, x1, x2, x3, x4, x5, x6, x7, xl⟩ := kx.eight5; clear kx
  obtain ⟨k, hk⟩ := ixOf_mem hyes
  obtain ⟨x0, hx0, hxn, hxf⟩ := ixOf_get hk
  have hkl := (List.getElem?_eq_some_iff.1 hx0).1
  have HM := hid (fun W (hb : Below X.heap.size X W) => (mindex_ok W S mb l K e.nm (hM.step hb) (by omega) ⟨hin.1, hin.2.1, hin.2.2.1⟩ hyes).mono (R' := fun r w' => r = .returned (.tuple #[.int .i64 k, .bool true]) ∧ Below W.heap.size W w') fun r w' ⟨⟨k', h1, h2⟩, hb⟩ => by
    rw [hk] at h2
    injection h2 with h2
    subst h2
    exact ⟨h1, hb⟩)
  have HR := hid (fun W (hb : Below X.heap.size X W) => (ref5Index_at A l.length c l _ e.nm W (hrow.step hb) (by omega)).mono (R' := fun r w' => r = .returned (.int .i64 k) ∧ Below W.heap.size W w') fun r w' ⟨h, hb⟩ => by
    rcases h with ⟨k', x, h1, h2, h3, h4⟩ | ⟨h1, h2⟩
    · obtain rfl : k' = k := first_same h2 h3 h4 hx0 hxn hxf
      exact ⟨h1, hb⟩
    · exact absurd hyes h2)
  unfold El.nm at HM HR
  dsimp only at HM HR
  have hkb : (k : Int) ≤ 1048576 := by omega
  have hk0 : (k : Int) ≥ 0 := by omega
  have hDd := D0.drew
  have kk := hB.step hDd; have p0 := kk.cell 0; have p1 := kk.cell 1; have pf1 := kk.frozen 1; have pl := kk.lt; simp at p0 p1; clear kk; have kx := hX.step hDd; obtain ⟨x0, x1, x2, x3, x4, x5, x6, x7, xl⟩ := kx.eight5; clear kx
  clear hM0 hM hrow hyes hk hx0 hxn hxf hkl
  repeat' (first | (go_at_call 32; go_must ((with_reducible refine Calls.mono (HI.out _) ?_); rintro _ _ ⟨rfl, rfl⟩; dsimp only)) | ((with_reducible refine region_at 21 ?_); refine wp_region_order [(0, true, false), (1, true, false), (2, true, false), (3, true, false), (4, true, false), (5, true, false), (6, true, false), (7, false, false), (8, true, false), (9, true, false), (10, true, false), (11, true, false), (12, true, false)] (by kernel_rfl) (by kernel_rfl) (by kernel_rfl) rfl rfl ?_) | ((with_reducible refine region_at 22 ?_); refine wp_region_order [(0, true, false), (1, true, false), (2, true, false), (3, true, false), (4, true, false), (5, true, false), (6, true, false), (7, false, false), (8, true, false)] (by kernel_rfl) (by kernel_rfl) (by kernel_rfl) rfl rfl ?_) | (go_at_call 39; go_must ((with_reducible refine Calls.mono (HM.out _ hDd) ?_); rintro _ w4 ⟨rfl, hb4⟩; have D4 := (bvia hDd hb4).drew; have kk := hB.step D4; have p0 := kk.cell 0; have p1 := kk.cell 1; have pf1 := kk.frozen 1; have pl := kk.lt; simp at p0 p1; clear kk; have kx := hX.step D4; obtain ⟨x0, x1, x2, x3, x4, x5, x6, x7, xl⟩ := kx.eight5; clear kx; dsimp only)) | (go_at_call 40; go_must ((with_reducible refine Calls.mono (HR.out _ D4) ?_); rintro _ w5 ⟨rfl, hb5⟩; have D5 := bvia D4 hb5; dsimp only)) | (with_reducible refine Keep.last ?_) | (with_reducible refine Keep.below (by assumption) ?_) | (with_reducible refine Keep.kept (by assumption) ?_) | (with_reducible refine Keep.alloc ?_) | (with_reducible refine Keep.same ?_) | ((with_reducible refine WpH.here ?_); first | (refine WpH.nil ?_; refine NoP.normal ?_) | (refine WpH.load (by rfl) (by rfl) (by go_simp; rfl) ?_; simp only [Act.put, List.setIfInBounds_toArray, List.set_cons_zero, List.set_cons_succ]) | (refine WpH.loadT (by rfl) (by rfl) (by go_simp; rfl) (by rintro _ _ ⟨⟩; exact ⟨_, _, _, _, _, _, by rfl, by assumption, by assumption⟩) ?_; simp only [Act.put, List.setIfInBounds_toArray, List.set_cons_zero, List.set_cons_succ]) | (refine WpH.pure (by rfl) (fun w_ => by go_simp; (try go_bits); rfl) ?_; simp only [Act.put, List.setIfInBounds_toArray, List.set_cons_zero, List.set_cons_succ]) | (refine WpH.wild1 (by rfl) (fun _ _ => ?_)) | (refine WpH.skip (by rfl) ?_; simp only [Act.put, List.setIfInBounds_toArray, List.set_cons_zero, List.set_cons_succ])) | go_values | go_skip | go_guarded | go_step | go_upon | go_back)
  skip
  go_ret
  exact ⟨rfl, (Did.of_below HPX.out D5).via B0⟩
end Go.Proofs.YtfihjajllfihjaaGreatDoor
