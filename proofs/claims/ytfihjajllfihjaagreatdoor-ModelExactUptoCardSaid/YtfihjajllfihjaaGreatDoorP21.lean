/- An element of a model hidden once more, or once less. Conditions: the model lies in memory, fewer than 2^29 elements; the element's number of hidings stays in its bounds. The document's rows of elements: weighed, copied, put, cut, found: the walks. Conditions: the rows lie in memory, fewer than 2^30 elements. -/
import Derived.Test.YtfihjajllfihjaaGreatDoorSModel2
import Derived.Test.YtfihjajllfihjaaGreatDoorSTree14
import Derived.Test.YtfihjajllfihjaaGreatDoorP18
namespace Go.Proofs.YtfihjajllfihjaaGreatDoor
set_option linter.unusedSimpArgs false
set_option linter.unusedVariables false
open Go Go.RowKit
def El.hide (e : El) (by_ : Int) : El := { e with hides := e.hides + by_ }
theorem fairH_bounds {n : Int} (h : fairH n = true) : -1099511627776 ≤ n ∧ n ≤ 1099511627776 := by simpa [fairH] using h
theorem map_nm_set (l : List El) (i : Nat) (e : El) (d : Int) (he : l[i]? = some e) : (l.set i (e.hide d)).map El.nm = l.map El.nm := by
  rw [List.map_set]
  obtain ⟨hi, rfl⟩ := List.getElem?_eq_some_iff.1 he
  have : El.nm (El.hide l[i] d) = (l.map El.nm)[i]'(by simpa using hi) := by simp [El.nm, El.hide]
  rw [this, List.set_getElem_self]
set_option maxRecDepth 50000 in
set_option maxHeartbeats 4000000 in
theorem madd_ok (w : World) (S : Nat → Prop) (mb : Nat) (l : List El) (K i : Nat) (e : El) (d : Int) (hd : d = 1 ∨ d = -1) (h : Mdl w S mb l K) (hl : l.length ≤ 536870912) (he : l[i]? = some e) (hf : fairH (e.hides + d) = true) :
    Calls Tryz.prog 36 #[.pointer (some ⟨mb, 0, none⟩), .int .i64 i, .int .i64 d] w fun r w' => r = .returned .nilIface ∧ Mdl w' (Fr w S) mb (l.set i (e.hide d)) K ∧ Out S w w' := by
  have hfb := fairH_bounds hf
  obtain ⟨gt, gm, p, T, h1, h2, h3, rfl, h5, h6, h7, h8, h9⟩ := h
  have hi := (List.getElem?_eq_some_iff.1 he).1
  have hgood := h9 e (List.mem_of_getElem? he)
  have hhb := fairH_bounds hgood.hides
  have He := hid he
  have m0 := h1.cell 0
  simp at m0
  have hml := h1.lt
  have Hk := hid (And.intro h5 h9)
  clear h5 h9 he
  rcases hd with rfl | rfl
  · skip
    have HA := hid (at_ok T p gt 64 i _ w h2 h3 (by omega) hi)
    have hnz : -9223372036854775808 ≤ e.hides := by omega
    have hpz : e.hides + 1 ≤ 9223372036854775807 := by omega
    have hqz : -9223372036854775808 ≤ e.hides + 1 := by omega
    have HF := hid (fun W => hideable_any (e.hides + 1) W)
    rw [hf] at HF
    have HF0 := hid hf
    clear hf
    go_enter Tryz.func36, Tryz.ntmps36
    repeat' (first | (go_at_call 84; go_must ((with_reducible refine Calls.mono HA.out ?_); rintro _ w1 ⟨⟨e0, rfl, he0⟩, hb1⟩; obtain rfl : e0 = e := Option.some.inj (he0.symm.trans He.out); clear he0; unfold El.agg; dsimp only)) | (go_at_call 85; go_must ((with_reducible refine Calls.mono (HF.out _) ?_); rintro _ _ ⟨rfl, rfl⟩; dsimp only)) | (with_reducible refine stop_region 7 ?_) | go_values | go_skip | go_guarded | go_step | go_upon | go_back)
    refine Stop.go ?_
    have eX : Below w1.heap.size w1 (w1.alloc (.cells #[.int .i64 e0.epoch, .int .i64 e0.rep, .int .i64 e0.num, .int .i32 e0.char, .int .i64 (e0.hides + 1)] 32)) := (Below.refl _ _).alloc (Nat.le_refl _) _
    have hxX := Blk.new w1 32 #[.int .i64 e0.epoch, .int .i64 e0.rep, .int .i64 e0.num, .int .i32 e0.char, .int .i64 (e0.hides + 1)]
    have b2 := hb1.trans (eX.mono hb1.size)
    generalize w1.alloc (.cells #[.int .i64 e0.epoch, .int .i64 e0.rep, .int .i64 e0.num, .int .i32 e0.char, .int .i64 (e0.hides + 1)] 32) = X at *
    have k1 := h1.step b2
    have k2 := h2.step b2
    have HS := hid (tset_ok T p gt 64 i (e0.hide 1) (fun b => S b ∧ b ≠ gt) X.drew k2.drew (h3.step b2).drew (fun h => h.2 rfl) (by omega) hi)
    unfold El.hide at HS
    dsimp only at HS
    have t1 : mb ≠ gt := k1.ne k2 (by decide)
    have t2 : w1.heap.size ≠ gt := hxX.ne k2 (by decide)
    have q1 : X.drew.heap[mb]? = some (.cells #[.pointer (some ⟨gt, 0, none⟩), .map (some gm)] 92 (0, 0)) := k1
    have q2 : X.drew.heap[w1.heap.size]? = some (.cells #[.int .i64 e0.epoch, .int .i64 e0.rep, .int .i64 e0.num, .int .i32 e0.char, .int .i64 (e0.hides + 1)] 32 (0, 0)) := hxX
    have n0 := k1.cell 0
    have y0 := hxX.cell 0
    have y1 := hxX.cell 1
    have y2 := hxX.cell 2
    have y3 := hxX.cell 3
    have y4 := hxX.cell 4
    simp at n0 y0 y1 y2 y3 y4
    clear m0
    repeat' (first | ((with_reducible refine region_at 7 ?_); refine wp_region_orderT (fun b => b ≠ gt) [(0, true, false), (1, true, false), (2, true, false), (3, true, false), (4, true, false), (5, true, false), (6, true, false), (7, false, false), (8, true, false)] (by kernel_rfl) (by kernel_rfl) (by kernel_rfl) rfl rfl ?_) | (go_at_call 86; go_must ((with_reducible refine Calls.mono HS.out ?_); rintro _ w5 ⟨p5, T5, rfl, hT5, hb5, ⟨hq5, _⟩, hB5⟩; have hq5' := hid hq5; clear hq5; have hk5 : KeepT (fun b => b ≠ gt) _ w5 := ⟨hB5.size, fun b hl hb => hB5.block b hl hb⟩; dsimp only)) | (with_reducible refine Keep.last ?_) | (with_reducible refine Keep.below (by assumption) ?_) | (with_reducible refine Keep.kept (by assumption) ?_) | (with_reducible refine Keep.alloc ?_) | (with_reducible refine Keep.same ?_) | ((with_reducible refine WpH.here ?_); first | (refine WpH.nil ?_; refine NoP.normal ?_) | (refine WpH.load (by rfl) (by rfl) (by go_simp; rfl) ?_; simp only [Act.put, List.setIfInBounds_toArray, List.set_cons_zero, List.set_cons_succ]) | (refine WpH.loadT (by rfl) (by rfl) (by go_simp; rfl) (by rintro _ _ ⟨⟩; exact ⟨_, _, _, _, _, _, by rfl, by assumption, by assumption⟩) ?_; simp only [Act.put, List.setIfInBounds_toArray, List.set_cons_zero, List.set_cons_succ]) | (refine WpH.pure (by rfl) (fun w_ => by go_simp; (try go_bits); rfl) ?_; simp only [Act.put, List.setIfInBounds_toArray, List.set_cons_zero, List.set_cons_succ]) | (refine WpH.wild1 (by rfl) (fun _ _ => ?_)) | (refine WpH.skip (by rfl) ?_; simp only [Act.put, List.setIfInBounds_toArray, List.set_cons_zero, List.set_cons_succ])) | go_values | go_skip | go_guarded | go_step | go_upon | go_back)
    go_ret
    have hgm := Hk.out.1.ne_blk h2
    have hI2 := Hk.out.1.heap (b2.block _ Hk.out.1.lt)
    refine ⟨rfl, ⟨gt, gm, p5, T5, hB5.blk k1.drew t1, hb5, hT5.more (fun b _ h => ?_), hq5'.out, ?_, .inl h6, .inl h7, .inl h8, fun x hx => ?_⟩, ((Out.of_below b2).trans (Out.drew (S := S)) (fun _ _ h => h)).trans (Out.of_but hB5 h7) (fun _ _ h => h)⟩
    · rcases h with h | h
      · exact ⟨.inl h.1, h.2⟩
      · have h' : X.heap.size ≤ b := h
        exact ⟨.inr (Nat.le_trans b2.size h'), by have := k2.lt; omega⟩
    · show IsIds w5 gm K ((T.all.set i (El.hide e0 1)).map El.nm)
      rw [map_nm_set _ _ _ _ He.out]
      exact (hI2.drew).heap (hB5.block _ hI2.lt (Ne.symm hgm))
    · rcases List.mem_or_eq_of_mem_set hx with hx | rfl
      · exact Hk.out.2 x hx
      · exact ⟨hgood.char, HF0.out, hgood.nm⟩
  · skip
    have HA := hid (at_ok T p gt 64 i _ w h2 h3 (by omega) hi)
    have hnz : -9223372036854775808 ≤ e.hides := by omega
    have hpz : e.hides + (-1) ≤ 9223372036854775807 := by omega
    have hqz : -9223372036854775808 ≤ e.hides + (-1) := by omega
    have HF := hid (fun W => hideable_any (e.hides + (-1)) W)
    rw [hf] at HF
    have HF0 := hid hf
    clear hf
    go_enter Tryz.func36, Tryz.ntmps36
    repeat' (first | (go_at_call 84; go_must ((with_reducible refine Calls.mono HA.out ?_); rintro _ w1 ⟨⟨e0, rfl, he0⟩, hb1⟩; obtain rfl : e0 = e := Option.some.inj (he0.symm.trans He.out); clear he0; unfold El.agg; dsimp only)) | (go_at_call 85; go_must ((with_reducible refine Calls.mono (HF.out _) ?_); rintro _ _ ⟨rfl, rfl⟩; dsimp only)) | (with_reducible refine stop_region 7 ?_) | (with_reducible refine Keep.last ?_) | (with_reducible refine Keep.below (by assumption) ?_) | (with_reducible refine Keep.kept (by assumption) ?_) | (with_reducible refine Keep.alloc ?_) | (with_reducible refine Keep.same ?_) | ((with_reducible refine WpH.here ?_); first | (refine WpH.nil ?_; refine NoP.normal ?_) | (refine WpH.load (by rfl) (by rfl) (by go_simp; rfl) ?_; simp only [Act.put, List.setIfInBounds_toArray, List.set_cons_zero, List.set_cons_succ]) | (refine WpH.loadT (by rfl) (by rfl) (by go_simp; rfl) (by rintro _ _ ⟨⟩; exact ⟨_, _, _, _, _, _, by rfl, by assumption, by assumption⟩) ?_; simp only [Act.put, List.setIfInBounds_toArray, List.set_cons_zero, List.set_cons_succ]) | (refine WpH.pure (by rfl) (fun w_ => by go_simp; (try go_bits); rfl) ?_; simp only [Act.put, List.setIfInBounds_toArray, List.set_cons_zero, List.set_cons_succ]) | (refine WpH.wild1 (by rfl) (fun _ _ => ?_)) | (refine WpH.skip (by rfl) ?_; simp only [Act.put, List.setIfInBounds_toArray, List.set_cons_zero, List.set_cons_succ])) | go_values | go_skip | go_guarded | go_step | go_upon | go_back)
    refine Stop.go ?_
    have eX : Below w1.heap.size w1 (w1.alloc (.cells #[.int .i64 e0.epoch, .int .i64 e0.rep, .int .i64 e0.num, .int .i32 e0.char, .int .i64 (e0.hides + (-1))] 32)) := (Below.refl _ _).alloc (Nat.le_refl _) _
    have hxX := Blk.new w1 32 #[.int .i64 e0.epoch, .int .i64 e0.rep, .int .i64 e0.num, .int .i32 e0.char, .int .i64 (e0.hides + (-1))]
    have b2 := hb1.trans (eX.mono hb1.size)
    generalize w1.alloc (.cells #[.int .i64 e0.epoch, .int .i64 e0.rep, .int .i64 e0.num, .int .i32 e0.char, .int .i64 (e0.hides + (-1))] 32) = X at *
    have k1 := h1.step b2
    have k2 := h2.step b2
    have HS := hid (tset_ok T p gt 64 i (e0.hide (-1)) (fun b => S b ∧ b ≠ gt) X.drew k2.drew (h3.step b2).drew (fun h => h.2 rfl) (by omega) hi)
    unfold El.hide at HS
    dsimp only at HS
    have t1 : mb ≠ gt := k1.ne k2 (by decide)
    have t2 : w1.heap.size ≠ gt := hxX.ne k2 (by decide)
    have q1 : X.drew.heap[mb]? = some (.cells #[.pointer (some ⟨gt, 0, none⟩), .map (some gm)] 92 (0, 0)) := k1
    have q2 : X.drew.heap[w1.heap.size]? = some (.cells #[.int .i64 e0.epoch, .int .i64 e0.rep, .int .i64 e0.num, .int .i32 e0.char, .int .i64 (e0.hides + (-1))] 32 (0, 0)) := hxX
    have n0 := k1.cell 0
    have y0 := hxX.cell 0
    have y1 := hxX.cell 1
    have y2 := hxX.cell 2
    have y3 := hxX.cell 3
    have y4 := hxX.cell 4
    simp at n0 y0 y1 y2 y3 y4
    clear m0
    repeat' (first | ((with_reducible refine region_at 7 ?_); refine wp_region_orderT (fun b => b ≠ gt) [(0, true, false), (1, true, false), (2, true, false), (3, true, false), (4, true, false), (5, true, false), (6, true, false), (7, false, false), (8, true, false)] (by kernel_rfl) (by kernel_rfl) (by kernel_rfl) rfl rfl ?_) | (go_at_call 86; go_must ((with_reducible refine Calls.mono HS.out ?_); rintro _ w5 ⟨p5, T5, rfl, hT5, hb5, ⟨hq5, _⟩, hB5⟩; have hq5' := hid hq5; clear hq5; have hk5 : KeepT (fun b => b ≠ gt) _ w5 := ⟨hB5.size, fun b hl hb => hB5.block b hl hb⟩; dsimp only)) | (with_reducible refine Keep.last ?_) | (with_reducible refine Keep.below (by assumption) ?_) | (with_reducible refine Keep.kept (by assumption) ?_) | (with_reducible refine Keep.alloc ?_) | (with_reducible refine Keep.same ?_) | ((with_reducible refine WpH.here ?_); first | (refine WpH.nil ?_; refine NoP.normal ?_) | (refine WpH.load (by rfl) (by rfl) (by go_simp; rfl) ?_; simp only [Act.put, List.setIfInBounds_toArray, List.set_cons_zero, List.set_cons_succ]) | (refine WpH.loadT (by rfl) (by rfl) (by go_simp; rfl) (by rintro _ _ ⟨⟩; exact ⟨_, _, _, _, _, _, by rfl, by assumption, by assumption⟩) ?_; simp only [Act.put, List.setIfInBounds_toArray, List.set_cons_zero, List.set_cons_succ]) | (refine WpH.pure (by rfl) (fun w_ => by go_simp; (try go_bits); rfl) ?_; simp only [Act.put, List.setIfInBounds_toArray, List.set_cons_zero, List.set_cons_succ]) | (refine WpH.wild1 (by rfl) (fun _ _ => ?_)) | (refine WpH.skip (by rfl) ?_; simp only [Act.put, List.setIfInBounds_toArray, List.set_cons_zero, List.set_cons_succ])) | go_values | go_skip | go_guarded | go_step | go_upon | go_back)
    go_ret
    have hgm := Hk.out.1.ne_blk h2
    have hI2 := Hk.out.1.heap (b2.block _ Hk.out.1.lt)
    refine ⟨rfl, ⟨gt, gm, p5, T5, hB5.blk k1.drew t1, hb5, hT5.more (fun b _ h => ?_), hq5'.out, ?_, .inl h6, .inl h7, .inl h8, fun x hx => ?_⟩, ((Out.of_below b2).trans (Out.drew (S := S)) (fun _ _ h => h)).trans (Out.of_but hB5 h7) (fun _ _ h => h)⟩
    · rcases h with h | h
      · exact ⟨.inl h.1, h.2⟩
      · have h' : X.heap.size ≤ b := h
        exact ⟨.inr (Nat.le_trans b2.size h'), by have := k2.lt; omega⟩
    · show IsIds w5 gm K ((T.all.set i (El.hide e0 (-1))).map El.nm)
      rw [map_nm_set _ _ _ _ He.out]
      exact (hI2.drew).heap (hB5.block _ hI2.lt (Ne.symm hgm))
    · rcases List.mem_or_eq_of_mem_set hx with hx | rfl
      · exact Hk.out.2 x hx
      · exact ⟨hgood.char, HF0.out, hgood.nm⟩
end Go.Proofs.YtfihjajllfihjaaGreatDoor
namespace Go.Proofs.YtfihjajllfihjaaGreatDoor
set_option linter.unusedSimpArgs false
set_option linter.unusedVariables false
open Go Go.RowKit
/-- two boxes -/
theorem boxes2 (w : World) (t u : TypeId) (x y : Array Value) : let W := (w.alloc (.cells x t)).alloc (.cells y u)
    Blk W w.heap.size t x ∧ Blk W (w.heap.size + 1) u y ∧ Below w.heap.size w W := by
  intro W
  refine ⟨(Blk.new w t x).alloc _, ?_, balloc (balloc (Below.refl _ _))⟩
  have := Blk.new (w.alloc (.cells x t)) u y
  rw [show (w.alloc (.cells x t)).heap.size = w.heap.size + 1 from Array.size_push _] at this
  exact this
theorem Blk.five {w : World} {g : Nat} {t : TypeId} {x y z u v : Value} (h : Blk w g t #[x, y, z, u, v]) : w.cell? ⟨g, 0, none⟩ = some x ∧ w.cell? ⟨g, 1, none⟩ = some y ∧ w.cell? ⟨g, 2, none⟩ = some z ∧ w.cell? ⟨g, 3, none⟩ = some u ∧ w.cell? ⟨g, 4, none⟩ = some v ∧ g < w.heap.size :=
  ⟨h.cell 0, h.cell 1, h.cell 2, h.cell 3, h.cell 4, h.lt⟩
theorem size_set (w : World) (p : Addr) (u : Value) : (w.setCell p u).heap.size = w.heap.size := by simp [World.setCell]
theorem refLive_any (e : El) (w : World) : Calls Tryz.prog 89 #[.agg #[.int .i64 e.epoch, .int .i64 e.rep, .int .i64 e.num, .int .i32 e.char, .int .i64 e.hides]] w fun r w' => r = .returned (.bool (decide (e.hides ≤ 0))) ∧ Below w.heap.size w w' := by
  go_enter Tryz.func89, Tryz.ntmps89
  repeat' (first | go_values | go_skip | go_guarded | go_step | go_upon | go_back)
  go_ret
  exact ⟨rfl, balloc (Below.refl _ _)⟩
set_option maxRecDepth 20000 in
theorem refWeigh_any (e : El) (w : World) : Calls Tryz.prog 47 #[.agg #[.int .i64 e.epoch, .int .i64 e.rep, .int .i64 e.num, .int .i32 e.char, .int .i64 e.hides]] w fun r w' => r = .returned (.agg #[.int .i64 e.live, .int .i64 e.lines]) ∧ Below w.heap.size w w' := by
  have HL := hid (fun W => refLive_any e W)
  obtain ⟨hX, hR, hb⟩ := boxes2 w 32 40 #[.int .i64 e.epoch, .int .i64 e.rep, .int .i64 e.num, .int .i32 e.char, .int .i64 e.hides] #[.int .i64 0, .int .i64 0]
  by_cases hh : e.hides ≤ 0
  · simp only [hh, decide_true] at HL
    have h1 : e.live = 1 := by unfold El.live; rw [if_neg (by omega)]
    rw [h1]
    clear h1
    go_enter Tryz.func47, Tryz.ntmps47
    repeat' (first | (go_at_call 89; go_must ((with_reducible refine Calls.mono (HL.out _) ?_); rintro _ w1 ⟨rfl, hb1⟩; obtain ⟨x0, x1, x2, x3, x4, xl⟩ := (hX.step hb1).five; obtain ⟨r0, r1, rf0, rf1⟩ := (hR.step hb1).two; have hl1 := (hR.step hb1).lt; dsimp only)) | go_values | go_skip | go_guarded | go_step | go_upon | go_back)
    · have hc : (e.char == 10) = true := by assumption
      have h2 : e.lines = 1 := by unfold El.lines; rw [if_neg (by omega), if_pos (by simpa using hc)]
      exact bodyPost_ret (v := .agg #[.int .i64 1, .int .i64 1]) (by simp [results, Tryz.results47, go_sem, r0, r1, hl1, size_set]) rfl ⟨by rw [h2]; rfl, by (repeat' (first | (with_reducible exact Below.refl _ _) | (with_reducible assumption) | (with_reducible refine balloc ?_) | (with_reducible refine bdrew ?_) | (with_reducible refine bset ?_ (by (try dsimp only); omega)) | (with_reducible refine bvia ?_ (by assumption))))⟩
    · have hc : (e.char == 10) = false := by assumption
      have h2 : e.lines = 0 := by unfold El.lines; rw [if_neg (by omega), if_neg (by simpa using hc)]
      exact bodyPost_ret (v := .agg #[.int .i64 1, .int .i64 0]) (by simp [results, Tryz.results47, go_sem, r0, r1, hl1, size_set]) rfl ⟨by rw [h2]; rfl, by (repeat' (first | (with_reducible exact Below.refl _ _) | (with_reducible assumption) | (with_reducible refine balloc ?_) | (with_reducible refine bdrew ?_) | (with_reducible refine bset ?_ (by (try dsimp only); omega)) | (with_reducible refine bvia ?_ (by assumption))))⟩
  · have h1 : e.live = 0 := by unfold El.live; rw [if_pos (by omega)]
    have h2 : e.lines = 0 := by unfold El.lines; rw [if_pos (by omega)]
    simp only [hh, decide_false] at HL
    rw [h1, h2]
    clear h1 h2
    go_enter Tryz.func47, Tryz.ntmps47
    repeat' (first | (go_at_call 89; go_must ((with_reducible refine Calls.mono (HL.out _) ?_); rintro _ w1 ⟨rfl, hb1⟩; obtain ⟨x0, x1, x2, x3, x4, xl⟩ := (hX.step hb1).five; obtain ⟨r0, r1, rf0, rf1⟩ := (hR.step hb1).two; have hl1 := (hR.step hb1).lt; dsimp only)) | go_values | go_skip | go_guarded | go_step | go_upon | go_back)
    exact bodyPost_ret (v := .agg #[.int .i64 0, .int .i64 0]) (by simp [results, Tryz.results47, go_sem, r0, r1, hl1, size_set]) rfl ⟨rfl, by (repeat' (first | (with_reducible exact Below.refl _ _) | (with_reducible assumption) | (with_reducible refine balloc ?_) | (with_reducible refine bdrew ?_) | (with_reducible refine bset ?_ (by (try dsimp only); omega)) | (with_reducible refine bvia ?_ (by assumption))))⟩
set_option maxRecDepth 20000 in
set_option maxHeartbeats 1000000 in
theorem refSum_any (A : Option Addr) (n c : Nat) (es : List El) (S : Nat → Prop) (w : World) (h : Row w S A n c es) (hn : n ≤ 1099511627776) :
    Calls Tryz.prog 12 #[.slice A n c] w fun e w' => e = .returned (.agg #[.int .i64 (liveOf es), .int .i64 (linesOf es)]) ∧ Below w.heap.size w w' := by
  have Hr := hid h
  clear h
  obtain ⟨hX, hR, hb⟩ := boxes2 w 40 40 #[.int .i64 0, .int .i64 0] #[.int .i64 0, .int .i64 0]
  go_enter Tryz.func12, Tryz.ntmps12
  repeat' (first | go_values | go_skip | go_guarded | go_step | go_upon | go_back)
  go_loopw [4] (fun i wr => ∃ k : Nat, i = .int .i64 k ∧ k ≤ n ∧ Blk wr (w.heap.size + 1) 40 #[.int .i64 (liveOf (es.take k)), .int .i64 (linesOf (es.take k))] ∧ Blk wr w.heap.size 40 #[.int .i64 0, .int .i64 0] ∧ Below w.heap.size w wr) (fun i wr => n - (intOf i).toNat)
  case atStart => exact ⟨0, rfl, by omega, hR, hX, hb⟩
  case round =>
    obtain ⟨k, rfl, hk, hblk, hres, hbel⟩ := hrel
    have hl1 := liveOf_le (es.take k)
    have hl2 := linesOf_le (es.take k)
    have hl3 : (es.take k).length ≤ k := List.length_take_le _ _
    by_cases hlt : k < n
    · obtain ⟨b, off, e, rfl, hS, he, c0, c1, c2, c3, c4⟩ := (Hr.out.step hbel).at_ hlt
      have hls := liveOf_snoc he
      have hns := linesOf_snoc he
      have hel := e.live_le
      have hen := e.lines_le
      have HH := hid (And.intro hls (And.intro hns he))
      have HW := hid (fun W => refWeigh_any e W)
      clear hls hns he
      have HB := hid (And.intro hblk hres)
      clear hblk hres hX hR
      repeat' (first | (go_at_call 47; go_must ((with_reducible refine Calls.mono (HW.out _) ?_); rintro _ w1 ⟨rfl, hb1⟩; dsimp only)) | (with_reducible refine stop_region 6 ?_) | go_values | go_skip | go_guarded | go_step | go_upon | go_back)
      refine Stop.go ?_
      have eX : Below w1.heap.size w1 (w1.alloc (.cells #[.int .i64 e.live, .int .i64 e.lines] 40)) := balloc (Below.refl _ _)
      have hZ := Blk.new w1 40 #[.int .i64 e.live, .int .i64 e.lines]
      have hblk := (HB.out.1.step hb1).step eX
      have hres := (HB.out.2.step hb1).step eX
      have hbX := bvia (bvia hbel hb1) eX
      have hne : w1.heap.size ≠ w.heap.size + 1 := by have := (HB.out.1.step hb1).lt; omega
      clear c0 c1 c2 c3 c4
      generalize w1.alloc (.cells #[.int .i64 e.live, .int .i64 e.lines] 40) = X at *
      obtain ⟨z0, z1, zf0, zf1⟩ := hZ.two
      obtain ⟨s0, s1, sf0, sf1⟩ := hblk.two
      have hzl := hZ.lt
      have hsl := hblk.lt
      repeat' (first | go_values | go_skip | go_guarded | go_step | go_upon | go_back)
      go_roundw
      case rel =>
        obtain ⟨h1, h2, _⟩ := HH.out
        refine ⟨k + 1, by go_num, by omega, ?_, (hres.far (by show w.heap.size ≠ w.heap.size + 1; omega) _).far (by show w.heap.size ≠ w.heap.size + 1; omega) _, by (repeat' (first | (with_reducible exact Below.refl _ _) | (with_reducible assumption) | (with_reducible refine balloc ?_) | (with_reducible refine bdrew ?_) | (with_reducible refine bset ?_ (by (try dsimp only); omega)) | (with_reducible refine bvia ?_ (by assumption))))⟩
        rw [h1, h2]
        simpa using hblk.set2
      case measure => simp [intOf]; omega
    · obtain rfl : k = n := by omega
      have hl : es.take k = es := List.take_of_length_le (by rw [Hr.out.1]; omega)
      rw [hl] at hblk
      clear hl
      obtain ⟨s0, s1, sf0, sf1⟩ := hblk.two
      obtain ⟨r0, r1, rf0, rf1⟩ := hres.two
      have hrl := hres.lt
      repeat' (first | go_values | go_skip | go_guarded | go_step | go_upon | go_back)
      exact bodyPost_ret (v := .agg #[.int .i64 (liveOf es), .int .i64 (linesOf es)]) (by simp [results, Tryz.results12, go_sem, r0, r1, hrl, size_set]) rfl ⟨rfl, by (repeat' (first | (with_reducible exact Below.refl _ _) | (with_reducible assumption) | (with_reducible refine balloc ?_) | (with_reducible refine bdrew ?_) | (with_reducible refine bset ?_ (by (try dsimp only); omega)) | (with_reducible refine bvia ?_ (by assumption))))⟩
theorem Own.lit {w : World} (cs : Array Value) (es : List El) (base : Nat) (hb : base ≤ w.heap.size) (hm : es.length ≤ maxLen) (hc : cs.toList = cellsOf es) : Own (w.alloc (.cells cs 32)) base (some ⟨w.heap.size, 0, none⟩) es.length es.length es := by
  refine ⟨rfl, ?_⟩
  rw [← hc]
  refine World.ownsRow_lit w cs es.length hb hm ?_
  rw [← Array.length_toList, hc, cellsOf_length]
theorem refCopy_any (A : Option Addr) (n c : Nat) (es : List El) (S : Nat → Prop) (w : World) (h : Row w S A n c es) (hn : n ≤ 1099511627776) :
    Calls Tryz.prog 83 #[.slice A n c] w fun e w' => ∃ A' c', e = .returned (.slice A' n c') ∧ Own w' w.heap.size A' n c' es ∧ Below w.heap.size w w' := by
  have hE := Own.lit (w := w) #[] [] w.heap.size (Nat.le_refl _) (Nat.zero_le _) rfl
  have eE : Below w.heap.size w (w.alloc (.cells #[] 32)) := balloc (Below.refl _ _)
  have h1 := h.step eE
  go_enter Tryz.func83, Tryz.ntmps83
  repeat' (first | ((with_reducible refine append_here ?_); refine wp_append_el w.heap.size _ A 0 0 n c [] es S (by rfl) (by rfl) hE h1 eE.size (by omega) ?_; intro A' c' w1 hA hb1 hsm1 hat1 hz1) | go_values | go_skip | go_guarded | go_step | go_upon | go_back)
  go_ret
  rw [Nat.zero_add, List.nil_append] at *
  exact ⟨A', c', rfl, hA, eE.trans hb1⟩
set_option maxRecDepth 20000 in
set_option maxHeartbeats 1000000 in
theorem refPut_any (A : Option Addr) (n c i : Nat) (B : Option Addr) (m d : Nat) (es fs : List El) (S S' : Nat → Prop) (w : World) (h : Row w S A n c es) (h' : Row w S' B m d fs) (hn : n + m ≤ 1099511627776) (hi : i ≤ n) :
    Calls Tryz.prog 80 #[.slice A n c, .int .i64 i, .slice B m d] w fun e w' => ∃ A' c', e = .returned (.slice A' (n + m) c') ∧ Own w' w.heap.size A' (n + m) c' (es.take i ++ fs ++ es.drop i) ∧ Below w.heap.size w w' := by
  have hT := h.take_ hi
  have hD := (h.drop_ hi).more (S' := fun b => b < w.heap.size) fun b hb _ => hb
  have hF := h'.more (S' := fun b => b < w.heap.size) fun b hb _ => hb
  have HC := hid (refCopy_any A i c _ S w hT (by omega))
  have hic := h.2.1
  have hin := h.len_le
  have hcm := h.2.2.1
  unfold maxLen at hin hcm
  clear hT
  go_enter Tryz.func80, Tryz.ntmps80
  repeat' (first | (go_at_call 83; go_must ((with_reducible refine Calls.mono HC.out ?_); rintro _ w1 ⟨A1, c1, rfl, hA1, hb1⟩; have hF1 := hF.step hb1; have hD1 := hD.step hb1; have hz1 := hb1.size; dsimp only)) | ((with_reducible refine append_here ?_); first | (refine wp_append_el w.heap.size A1 B i c1 m d _ fs _ (by rfl) (by rfl) hA1 hF1 hz1 (by omega) ?_; intro A2 c2 w2 hA2 hb2 hsm2 hat2 hz2; have hD2 := hD1.keep (w' := w2) (fun b hb _ => hb2.block b hb); have hz2' := Nat.le_trans hz1 hz2) | (refine wp_append_el w.heap.size A2 _ (i + m) c2 (n - i) (c - i) _ (es.drop i) _ (by rfl) (by rfl) hA2 hD2 hz2' (by omega) ?_; intro A3 c3 w3 hA3 hb3 hsm3 hat3 hz3)) | go_values | go_skip | go_guarded | go_step | go_upon | go_back)
  skip
  go_ret
  rw [show i + m + (n - i) = n + m from by omega] at hA3 ⊢
  exact ⟨A3, c3, rfl, hA3, (hb1.trans hb2).trans hb3⟩
end Go.Proofs.YtfihjajllfihjaaGreatDoor
