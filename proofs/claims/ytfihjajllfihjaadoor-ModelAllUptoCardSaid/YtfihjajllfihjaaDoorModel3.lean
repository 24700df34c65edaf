/- An element of a model hidden once more, or once less. Conditions: the model lies in memory, fewer than 2^29 elements; the element's number of hidings stays in its bounds. -/
import Derived.Test.YtfihjajllfihjaaDoorModel2
import Derived.Test.YtfihjajllfihjaaDoorTree14
namespace Go.Proofs.YtfihjajllfihjaaDoor
set_option linter.unusedSimpArgs false
set_option linter.unusedVariables false
open Go Go.RowKit
def El.hide (e : El) (by_ : Int) : El := { e with hides := e.hides + by_ }
theorem fairH_bounds {n : Int} (h : fairH n = true) : -1099511627776 ≤ n ∧ n ≤ 1099511627776 := by simpa [fairH] using h
theorem map_nm_set (l : List El) (i : Nat) (e : El) (d : Int) (he : l[i]? = some e) : (l.set i (e.hide d)).map El.nm = l.map El.nm := by
  rw [List.map_set]
  obtain ⟨hi, rfl⟩ := List.getElem?_eq_some_iff.1 he
  have : El.nm (El.hide l[i] d) = (l.map El.nm)[i]'(by simpa using hi) := by simp [El.nm, El.hide]
  rw [this, List.set_getElem_self]
set_option maxRecDepth 50000 in
set_option maxHeartbeats 4000000 in
theorem madd_ok (w : World) (S : Nat → Prop) (mb : Nat) (l : List El) (K i : Nat) (e : El) (d : Int) (hd : d = 1 ∨ d = -1) (h : Mdl w S mb l K) (hl : l.length ≤ 536870912) (he : l[i]? = some e) (hf : fairH (e.hides + d) = true) :
    Calls Tryd.prog 40 #[.pointer (some ⟨mb, 0, none⟩), .int .i64 i, .int .i64 d] w fun r w' => r = .returned .nilIface ∧ Mdl w' (Fr w S) mb (l.set i (e.hide d)) K ∧ Out S w w' := by
  have hfb := fairH_bounds hf
  obtain ⟨gt, gm, p, T, h1, h2, h3, rfl, h5, h6, h7, h8, h9⟩ := h
  have hi := (List.getElem?_eq_some_iff.1 he).1
  have hgood := h9 e (List.mem_of_getElem? he)
  have hhb := fairH_bounds hgood.hides
  have He := hid he
  have m0 := h1.cell 0
  simp at m0
  have hml := h1.lt
  have Hk := hid (And.intro h5 h9)
  clear h5 h9 he
  rcases hd with rfl | rfl
  · skip
    have HA := hid (at_ok T p gt 64 i _ w h2 h3 (by omega) hi)
    have hnz : -9223372036854775808 ≤ e.hides := by omega
    have hpz : e.hides + 1 ≤ 9223372036854775807 := by omega
    have hqz : -9223372036854775808 ≤ e.hides + 1 := by omega
    have HF := hid (fun W => hideable_any (e.hides + 1) W)
    rw [hf] at HF
    have HF0 := hid hf
    clear hf
    go_enter Tryd.func40, Tryd.ntmps40
    repeat' (first | (go_at_call 85; go_must ((with_reducible refine Calls.mono HA.out ?_); rintro _ w1 ⟨⟨e0, rfl, he0⟩, hb1⟩; obtain rfl : e0 = e := Option.some.inj (he0.symm.trans He.out); clear he0; unfold El.agg; dsimp only)) | (go_at_call 93; go_must ((with_reducible refine Calls.mono (HF.out _) ?_); rintro _ _ ⟨rfl, rfl⟩; dsimp only)) | (with_reducible refine stop_region 7 ?_) | (with_reducible refine Keep.last ?_) | (with_reducible refine Keep.below (by assumption) ?_) | (with_reducible refine Keep.kept (by assumption) ?_) | (with_reducible refine Keep.alloc ?_) | (with_reducible refine Keep.same ?_) | ((with_reducible refine WpH.here ?_); first | (refine WpH.nil ?_; refine NoP.normal ?_) | (refine WpH.load (by rfl) (by rfl) (by go_simp; rfl) ?_; simp only [Act.put, List.setIfInBounds_toArray, List.set_cons_zero, List.set_cons_succ]) | (refine WpH.loadT (by rfl) (by rfl) (by go_simp; rfl) (by rintro _ _ ⟨⟩; exact ⟨_, _, _, _, _, _, by rfl, by assumption, by assumption⟩) ?_; simp only [Act.put, List.setIfInBounds_toArray, List.set_cons_zero, List.set_cons_succ]) | (refine WpH.pure (by rfl) (fun w_ => by go_simp; (try go_bits); rfl) ?_; simp only [Act.put, List.setIfInBounds_toArray, List.set_cons_zero, List.set_cons_succ]) | (refine WpH.wild1 (by rfl) (fun _ _ => ?_)) | (refine WpH.skip (by rfl) ?_; simp only [Act.put, List.setIfInBounds_toArray, List.set_cons_zero, List.set_cons_succ])) | go_values | go_skip | go_guarded | go_step | go_upon | go_back)
    refine Stop.go ?_
    have eX : Below w1.heap.size w1 (w1.alloc (.cells #[.int .i64 e0.epoch, .int .i64 e0.rep, .int .i64 e0.num, .int .i32 e0.char, .int .i64 (e0.hides + 1)] 42)) := (Below.refl _ _).alloc (Nat.le_refl _) _
    have hxX := Blk.new w1 42 #[.int .i64 e0.epoch, .int .i64 e0.rep, .int .i64 e0.num, .int .i32 e0.char, .int .i64 (e0.hides + 1)]
    have b2 := hb1.trans (eX.mono hb1.size)
    generalize w1.alloc (.cells #[.int .i64 e0.epoch, .int .i64 e0.rep, .int .i64 e0.num, .int .i32 e0.char, .int .i64 (e0.hides + 1)] 42) = X at *
    have k1 := h1.step b2
    have k2 := h2.step b2
    have HS := hid (tset_ok T p gt 64 i (e0.hide 1) (fun b => S b ∧ b ≠ gt) X.drew k2.drew (h3.step b2).drew (fun h => h.2 rfl) (by omega) hi)
    unfold El.hide at HS
    dsimp only at HS
    have t1 : mb ≠ gt := k1.ne k2 (by decide)
    have t2 : w1.heap.size ≠ gt := hxX.ne k2 (by decide)
    have q1 : X.drew.heap[mb]? = some (.cells #[.pointer (some ⟨gt, 0, none⟩), .map (some gm)] 138 (0, 0)) := k1
    have q2 : X.drew.heap[w1.heap.size]? = some (.cells #[.int .i64 e0.epoch, .int .i64 e0.rep, .int .i64 e0.num, .int .i32 e0.char, .int .i64 (e0.hides + 1)] 42 (0, 0)) := hxX
    have n0 := k1.cell 0
    have y0 := hxX.cell 0
    have y1 := hxX.cell 1
    have y2 := hxX.cell 2
    have y3 := hxX.cell 3
    have y4 := hxX.cell 4
    simp at n0 y0 y1 y2 y3 y4
    clear m0
    repeat' (first | ((with_reducible refine region_at 7 ?_); refine wp_region_orderT (fun b => b ≠ gt) [(0, true, false), (1, true, false), (2, true, false), (3, true, false), (4, true, false), (5, true, false), (6, true, false), (7, false, false), (8, true, false)] (by kernel_rfl) (by kernel_rfl) (by kernel_rfl) rfl rfl ?_) | (go_at_call 94; go_must ((with_reducible refine Calls.mono HS.out ?_); rintro _ w5 ⟨p5, T5, rfl, hT5, hb5, ⟨hq5, _⟩, hB5⟩; have hq5' := hid hq5; clear hq5; have hk5 : KeepT (fun b => b ≠ gt) _ w5 := ⟨hB5.size, fun b hl hb => hB5.block b hl hb⟩; dsimp only)) | (with_reducible refine Keep.last ?_) | (with_reducible refine Keep.below (by assumption) ?_) | (with_reducible refine Keep.kept (by assumption) ?_) | (with_reducible refine Keep.alloc ?_) | (with_reducible refine Keep.same ?_) | ((with_reducible refine WpH.here ?_); first | (refine WpH.nil ?_; refine NoP.normal ?_) | (refine WpH.load (by rfl) (by rfl) (by go_simp; rfl) ?_; simp only [Act.put, List.setIfInBounds_toArray, List.set_cons_zero, List.set_cons_succ]) | (refine WpH.loadT (by rfl) (by rfl) (by go_simp; rfl) (by rintro _ _ ⟨⟩; exact ⟨_, _, _, _, _, _, by rfl, by assumption, by assumption⟩) ?_; simp only [Act.put, List.setIfInBounds_toArray, List.set_cons_zero, List.set_cons_succ]) | (refine WpH.pure (by rfl) (fun w_ => by go_simp; (try go_bits); rfl) ?_; simp only [Act.put, List.setIfInBounds_toArray, List.set_cons_zero, List.set_cons_succ]) | (refine WpH.wild1 (by rfl) (fun _ _ => ?_)) | (refine WpH.skip (by rfl) ?_; simp only [Act.put, List.setIfInBounds_toArray, List.set_cons_zero, List.set_cons_succ])) | go_values | go_skip | go_guarded | go_step | go_upon | go_back)
    go_ret
    have hgm := Hk.out.1.ne_blk h2
    have hI2 := Hk.out.1.heap (b2.block _ Hk.out.1.lt)
    refine ⟨rfl, ⟨gt, gm, p5, T5, hB5.blk k1.drew t1, hb5, hT5.more (fun b _ h => ?_), hq5'.out, ?_, .inl h6, .inl h7, .inl h8, fun x hx => ?_⟩, ((Out.of_below b2).trans (Out.drew (S := S)) (fun _ _ h => h)).trans (Out.of_but hB5 h7) (fun _ _ h => h)⟩
    · rcases h with h | h
      · exact ⟨.inl h.1, h.2⟩
      · have h' : X.heap.size ≤ b := h
        exact ⟨.inr (Nat.le_trans b2.size h'), by have := k2.lt; omega⟩
    · show IsIds w5 gm K ((T.all.set i (El.hide e0 1)).map El.nm)
      rw [map_nm_set _ _ _ _ He.out]
      exact (hI2.drew).heap (hB5.block _ hI2.lt (Ne.symm hgm))
    · rcases List.mem_or_eq_of_mem_set hx with hx | rfl
      · exact Hk.out.2 x hx
      · exact ⟨hgood.char, HF0.out, hgood.nm⟩
  · skip
    have HA := hid (at_ok T p gt 64 i _ w h2 h3 (by omega) hi)
    have hnz : -9223372036854775808 ≤ e.hides := by omega
    have hpz : e.hides + (-1) ≤ 9223372036854775807 := by omega
    have hqz : -9223372036854775808 ≤ e.hides + (-1) := by omega
    have HF := hid (fun W => hideable_any (e.hides + (-1)) W)
    rw [hf] at HF
    have HF0 := hid hf
    clear hf
    go_enter Tryd.func40, Tryd.ntmps40
    repeat' (first | (go_at_call 85; go_must ((with_reducible refine Calls.mono HA.out ?_); rintro _ w1 ⟨⟨e0, rfl, he0⟩, hb1⟩; obtain rfl : e0 = e := Option.some.inj (he0.symm.trans He.out); clear he0; unfold El.agg; dsimp only)) | (go_at_call 93; go_must ((with_reducible refine Calls.mono (HF.out _) ?_); rintro _ _ ⟨rfl, rfl⟩; dsimp only)) | (with_reducible refine stop_region 7 ?_) | (with_reducible refine Keep.last ?_) | (with_reducible refine Keep.below (by assumption) ?_) | (with_reducible refine Keep.kept (by assumption) ?_) | (with_reducible refine Keep.alloc ?_) | (with_reducible refine Keep.same ?_) | ((with_reducible refine WpH.here ?_); first | (refine WpH.nil ?_; refine NoP.normal ?_) | (refine WpH.load (by rfl) (by rfl) (by go_simp; rfl) ?_; simp only [Act.put, List.setIfInBounds_toArray, List.set_cons_zero, List.set_cons_succ]) | (refine WpH.loadT (by rfl) (by rfl) (by go_simp; rfl) (by rintro _ _ ⟨⟩; exact ⟨_, _, _, _, _, _, by rfl, by assumption, by assumption⟩) ?_; simp only [Act.put, List.setIfInBounds_toArray, List.set_cons_zero, List.set_cons_succ]) | (refine WpH.pure (by rfl) (fun w_ => by go_simp; (try go_bits); rfl) ?_; simp only [Act.put, List.setIfInBounds_toArray, List.set_cons_zero, List.set_cons_succ]) | (refine WpH.wild1 (by rfl) (fun _ _ => ?_)) | (refine WpH.skip (by rfl) ?_; simp only [Act.put, List.setIfInBounds_toArray, List.set_cons_zero, List.set_cons_succ])) | go_values | go_skip | go_guarded | go_step | go_upon | go_back)
    refine Stop.go ?_
    have eX : Below w1.heap.size w1 (w1.alloc (.cells #[.int .i64 e0.epoch, .int .i64 e0.rep, .int .i64 e0.num, .int .i32 e0.char, .int .i64 (e0.hides + (-1))] 42)) := (Below.refl _ _).alloc (Nat.le_refl _) _
    have hxX := Blk.new w1 42 #[.int .i64 e0.epoch, .int .i64 e0.rep, .int .i64 e0.num, .int .i32 e0.char, .int .i64 (e0.hides + (-1))]
    have b2 := hb1.trans (eX.mono hb1.size)
    generalize w1.alloc (.cells #[.int .i64 e0.epoch, .int .i64 e0.rep, .int .i64 e0.num, .int .i32 e0.char, .int .i64 (e0.hides + (-1))] 42) = X at *
    have k1 := h1.step b2
    have k2 := h2.step b2
    have HS := hid (tset_ok T p gt 64 i (e0.hide (-1)) (fun b => S b ∧ b ≠ gt) X.drew k2.drew (h3.step b2).drew (fun h => h.2 rfl) (by omega) hi)
    unfold El.hide at HS
    dsimp only at HS
    have t1 : mb ≠ gt := k1.ne k2 (by decide)
    have t2 : w1.heap.size ≠ gt := hxX.ne k2 (by decide)
    have q1 : X.drew.heap[mb]? = some (.cells #[.pointer (some ⟨gt, 0, none⟩), .map (some gm)] 138 (0, 0)) := k1
    have q2 : X.drew.heap[w1.heap.size]? = some (.cells #[.int .i64 e0.epoch, .int .i64 e0.rep, .int .i64 e0.num, .int .i32 e0.char, .int .i64 (e0.hides + (-1))] 42 (0, 0)) := hxX
    have n0 := k1.cell 0
    have y0 := hxX.cell 0
    have y1 := hxX.cell 1
    have y2 := hxX.cell 2
    have y3 := hxX.cell 3
    have y4 := hxX.cell 4
    simp at n0 y0 y1 y2 y3 y4
    clear m0
    repeat' (first | ((with_reducible refine region_at 7 ?_); refine wp_region_orderT (fun b => b ≠ gt) [(0, true, false), (1, true, false), (2, true, false), (3, true, false), (4, true, false), (5, true, false), (6, true, false), (7, false, false), (8, true, false)] (by kernel_rfl) (by kernel_rfl) (by kernel_rfl) rfl rfl ?_) | (go_at_call 94; go_must ((with_reducible refine Calls.mono HS.out ?_); rintro _ w5 ⟨p5, T5, rfl, hT5, hb5, ⟨hq5, _⟩, hB5⟩; have hq5' := hid hq5; clear hq5; have hk5 : KeepT (fun b => b ≠ gt) _ w5 := ⟨hB5.size, fun b hl hb => hB5.block b hl hb⟩; dsimp only)) | (with_reducible refine Keep.last ?_) | (with_reducible refine Keep.below (by assumption) ?_) | (with_reducible refine Keep.kept (by assumption) ?_) | (with_reducible refine Keep.alloc ?_) | (with_reducible refine Keep.same ?_) | ((with_reducible refine WpH.here ?_); first | (refine WpH.nil ?_; refine NoP.normal ?_) | (refine WpH.load (by rfl) (by rfl) (by go_simp; rfl) ?_; simp only [Act.put, List.setIfInBounds_toArray, List.set_cons_zero, List.set_cons_succ]) | (refine WpH.loadT (by rfl) (by rfl) (by go_simp; rfl) (by rintro _ _ ⟨⟩; exact ⟨_, _, _, _, _, _, by rfl, by assumption, by assumption⟩) ?_; simp only [Act.put, List.setIfInBounds_toArray, List.set_cons_zero, List.set_cons_succ]) | (refine WpH.pure (by rfl) (fun w_ => by go_simp; (try go_bits); rfl) ?_; simp only [Act.put, List.setIfInBounds_toArray, List.set_cons_zero, List.set_cons_succ]) | (refine WpH.wild1 (by rfl) (fun _ _ => ?_)) | (refine WpH.skip (by rfl) ?_; simp only [Act.put, List.setIfInBounds_toArray, List.set_cons_zero, List.set_cons_succ])) | go_values | go_skip | go_guarded | go_step | go_upon | go_back)
    go_ret
    have hgm := Hk.out.1.ne_blk h2
    have hI2 := Hk.out.1.heap (b2.block _ Hk.out.1.lt)
    refine ⟨rfl, ⟨gt, gm, p5, T5, hB5.blk k1.drew t1, hb5, hT5.more (fun b _ h => ?_), hq5'.out, ?_, .inl h6, .inl h7, .inl h8, fun x hx => ?_⟩, ((Out.of_below b2).trans (Out.drew (S := S)) (fun _ _ h => h)).trans (Out.of_but hB5 h7) (fun _ _ h => h)⟩
    · rcases h with h | h
      · exact ⟨.inl h.1, h.2⟩
      · have h' : X.heap.size ≤ b := h
        exact ⟨.inr (Nat.le_trans b2.size h'), by have := k2.lt; omega⟩
    · show IsIds w5 gm K ((T.all.set i (El.hide e0 (-1))).map El.nm)
      rw [map_nm_set _ _ _ _ He.out]
      exact (hI2.drew).heap (hB5.block _ hI2.lt (Ne.symm hgm))
    · rcases List.mem_or_eq_of_mem_set hx with hx | rfl
      · exact Hk.out.2 x hx
      · exact ⟨hgood.char, HF0.out, hgood.nm⟩
end Go.Proofs.YtfihjajllfihjaaDoor
