/- Chapter 13's At, Where, Rebase over a model: the walks. Conditions: the model and the reasons lie in memory, the anchor's numbers fit their kinds, fewer than 2^29 elements. -/
import Derived.Test.YtfihjajllfihjaaDoorMIndex
import Derived.Test.YtfihjajllfihjaaDoorMAsk2
import Derived.Test.YtfihjajllfihjaaDoorModelNo
namespace Go.Proofs.YtfihjajllfihjaaDoor
set_option linter.unusedSimpArgs false
set_option linter.unusedVariables false
open Go Go.RowKit
variable {a : Nat → Addr}
def ancAgg (x : Anc) : Value := .agg #[.bool x.front, .int .i64 x.id.epoch, .int .i64 x.id.rep, .int .i64 x.id.num]
theorem gapOf_zero (l : List El) : gapOf l 0 = ⟨true, ⟨0, 0, 0⟩⟩ := if_pos rfl
set_option maxRecDepth 50000 in
set_option maxHeartbeats 2000000 in
theorem gap_any (w : World) (S : Nat → Prop) (mb : Nat) (l : List El) (K p : Nat) (h : Mdl w S mb l K) (hl : l.length ≤ 536870912) (hp : p ≤ liveOf l) :
    Calls Tryd.prog 88 #[.pointer (some ⟨mb, 0, none⟩), .int .i64 p] w fun e w' => e = .returned (ancAgg (gapOf l p)) ∧ Below w.heap.size w w' := by
  by_cases h0 : p = 0
  · subst h0
    rw [gapOf_zero]
    clear h hp
    go_enter Tryd.func88, Tryd.ntmps88
    repeat' (first | (with_reducible refine Keep.last ?_) | (with_reducible refine Keep.below (by assumption) ?_) | (with_reducible refine Keep.kept (by assumption) ?_) | (with_reducible refine Keep.alloc ?_) | (with_reducible refine Keep.same ?_) | ((with_reducible refine WpH.here ?_); first | (refine WpH.nil ?_; refine NoP.normal ?_) | (refine WpH.load (by rfl) (by rfl) (by go_simp; rfl) ?_; simp only [Act.put, List.setIfInBounds_toArray, List.set_cons_zero, List.set_cons_succ]) | (refine WpH.loadT (by rfl) (by rfl) (by go_simp; rfl) (by rintro _ _ ⟨⟩; exact ⟨_, _, _, _, _, _, by rfl, by assumption, by assumption⟩) ?_; simp only [Act.put, List.setIfInBounds_toArray, List.set_cons_zero, List.set_cons_succ]) | (refine WpH.pure (by rfl) (fun w_ => by go_simp; (try go_bits); rfl) ?_; simp only [Act.put, List.setIfInBounds_toArray, List.set_cons_zero, List.set_cons_succ]) | (refine WpH.wild1 (by rfl) (fun _ _ => ?_)) | (refine WpH.skip (by rfl) ?_; simp only [Act.put, List.setIfInBounds_toArray, List.set_cons_zero, List.set_cons_succ])) | go_values | go_skip | go_guarded | go_step | go_upon | go_back)
    skip
    refine bodyPost_ret (v := .agg #[.bool true, .int .i64 0, .int .i64 0, .int .i64 0]) (by simp [results, Tryd.results88, go_sem]) rfl ⟨rfl, by (repeat' (first | (with_reducible exact Below.refl _ _) | (with_reducible assumption) | (with_reducible refine balloc ?_) | (with_reducible refine bdrew ?_) | (with_reducible refine bset ?_ (by (try dsimp only); omega)) | (with_reducible refine bvia ?_ (by assumption))))⟩
  · obtain ⟨q, rfl⟩ : ∃ q, p = q + 1 := ⟨p - 1, by omega⟩
    have b0 : Below w.heap.size w (w.alloc (.cells #[.bool false, .int .i64 0, .int .i64 0, .int .i64 0] 57)) := balloc (Below.refl _ _)
    have hB := Blk.new w 57 #[.bool false, .int .i64 0, .int .i64 0, .int .i64 0]
    have hle := liveOf_le l
    have HO := hid (mmodelof_ok _ S mb l K q (h.step b0) hl (by omega))
    have HA := hid (fun W m e0 (hb : Below w.heap.size w W) he => mat_ok W S mb l K m e0 (h.step hb) hl he)
    have h0' : ¬ ((q : Int) + 1 = 0) := by omega
    have hq0 : (q : Int) ≤ 536870912 := by omega
    clear h hp h0
    go_enter Tryd.func88, Tryd.ntmps88
    repeat' (first | (go_at_call 27; go_must ((with_reducible refine Calls.mono HO.out ?_); rintro _ w2 ⟨⟨m, e0, rfl, he0, hv0, hs0⟩, hb2⟩; have hm := (List.getElem?_eq_some_iff.1 he0).1; have B2 := bvia b0 hb2; have HA2 := hid (HA.out w2 m e0 B2 he0); have Hg := hid (gapOf_live he0 hv0 hs0); clear he0 hv0 hs0; dsimp only)) | (go_at_call 134; go_must ((with_reducible refine Calls.mono HA2.out ?_); rintro _ w3 ⟨rfl, hb3⟩; have hE := Blk.new w3 42 #[.int .i64 e0.epoch, .int .i64 e0.rep, .int .i64 e0.num, .int .i32 e0.char, .int .i64 e0.hides]; obtain ⟨x0, x1, x2, x3, x4, xl⟩ := hE.five; have hB1 := ((hB.step hb2).step hb3).alloc (.cells #[.int .i64 e0.epoch, .int .i64 e0.rep, .int .i64 e0.num, .int .i32 e0.char, .int .i64 e0.hides] 42); have g0 := hB1.cell 0; have g1 := hB1.cell 1; have g2 := hB1.cell 2; have g3 := hB1.cell 3; have f0 := hB1.frozen 0; have f1 := hB1.frozen 1; have f2 := hB1.frozen 2; have f3 := hB1.frozen 3; have gl := hB1.lt; simp at g0 g1 g2 g3; dsimp only)) | (with_reducible refine Keep.last ?_) | (with_reducible refine Keep.below (by assumption) ?_) | (with_reducible refine Keep.kept (by assumption) ?_) | (with_reducible refine Keep.alloc ?_) | (with_reducible refine Keep.same ?_) | ((with_reducible refine WpH.here ?_); first | (refine WpH.nil ?_; refine NoP.normal ?_) | (refine WpH.load (by rfl) (by rfl) (by go_simp; rfl) ?_; simp only [Act.put, List.setIfInBounds_toArray, List.set_cons_zero, List.set_cons_succ]) | (refine WpH.loadT (by rfl) (by rfl) (by go_simp; rfl) (by rintro _ _ ⟨⟩; exact ⟨_, _, _, _, _, _, by rfl, by assumption, by assumption⟩) ?_; simp only [Act.put, List.setIfInBounds_toArray, List.set_cons_zero, List.set_cons_succ]) | (refine WpH.pure (by rfl) (fun w_ => by go_simp; (try go_bits); rfl) ?_; simp only [Act.put, List.setIfInBounds_toArray, List.set_cons_zero, List.set_cons_succ]) | (refine WpH.wild1 (by rfl) (fun _ _ => ?_)) | (refine WpH.skip (by rfl) ?_; simp only [Act.put, List.setIfInBounds_toArray, List.set_cons_zero, List.set_cons_succ])) | go_values | go_skip | go_guarded | go_step | go_upon | go_back)
    skip
    rw [Hg.out]
    refine bodyPost_ret (v := .agg #[.bool false, .int .i64 e0.epoch, .int .i64 e0.rep, .int .i64 e0.num]) (by simp [results, Tryd.results88, go_sem, g0, g1, g2, g3, gl, size_set]) rfl ⟨rfl, ?_⟩
    have hB3 := bvia B2 hb3
    have := balloc (o := .cells #[.int .i64 e0.epoch, .int .i64 e0.rep, .int .i64 e0.num, .int .i32 e0.char, .int .i64 e0.hides] 42) hB3
    exact bset (bset (bset (bset this (Nat.le_refl _)) (Nat.le_refl _)) (Nat.le_refl _)) (Nat.le_refl _)
/-- an anchor's value -/
theorem liveOf_next {l : List El} {k : Nat} {e : El} (he : l[k]? = some e) : liveOf (l.take (k + 1)) = liveOf (l.take k) + e.live := by
  rw [take_snoc_el he, liveOf_append]
  simp [liveOf]
set_option maxRecDepth 50000 in
set_option maxHeartbeats 2000000 in
theorem awhere_any (w : World) (S : Nat → Prop) (mb : Nat) (l : List El) (K : Nat) (x : Anc) (h : Mdl w S mb l K) (hl : l.length ≤ 536870912) (hx : x.id.In) :
    Calls Tryd.prog 33 #[.pointer (some ⟨mb, 0, none⟩), .agg #[.bool x.front, .int .i64 x.id.epoch, .int .i64 x.id.rep, .int .i64 x.id.num]] w fun e w' => e = .returned (.tuple #[.int .i64 (whereOf l x).1, .bool (whereOf l x).2]) ∧ Below w.heap.size w w' := by
  have b1 : Below w.heap.size w (w.alloc (.cells #[.bool x.front, .int .i64 x.id.epoch, .int .i64 x.id.rep, .int .i64 x.id.num] 57)) := balloc (Below.refl _ _)
  obtain ⟨fr, id⟩ := x
  dsimp only at hx b1 ⊢
  cases fr
  · by_cases hm : id ∈ l.map El.nm
    · have HI := hid (mindex_ok _ S mb l K id (h.step b1) hl hx hm)
      have HV := hid (fun W k e0 (hb : Below w.heap.size w W) he => mviewof_in W S mb l K k e0 (h.step hb) hl he)
      have hle := liveOf_le l
      clear h hm
      go_enter Tryd.func33, Tryd.ntmps33
      repeat' (first | (go_at_call 89; go_must ((with_reducible refine Calls.mono HI.out ?_); rintro _ w2 ⟨⟨k, rfl, hk⟩, hb2⟩; have B2 := bvia b1 hb2; obtain ⟨e0, he0, hn0, -⟩ := ixOf_get hk; have Hk := hid (And.intro hk he0); have HV2 := hid (HV.out w2 k e0 B2 he0); have hkl := (List.getElem?_eq_some_iff.1 he0).1; have hlk := liveOf_le (l.take k); rw [List.length_take] at hlk; have hlb : (liveOf (l.take k) : Int) ≤ 536870912 := (by omega); clear hk he0 hn0 hlk; dsimp only)) | (go_at_call 28; go_must ((with_reducible refine Calls.mono HV2.out ?_); rintro _ w3 ⟨rfl, hb3⟩; dsimp only)) | (with_reducible refine Keep.last ?_) | (with_reducible refine Keep.below (by assumption) ?_) | (with_reducible refine Keep.kept (by assumption) ?_) | (with_reducible refine Keep.alloc ?_) | (with_reducible refine Keep.same ?_) | ((with_reducible refine WpH.here ?_); first | (refine WpH.nil ?_; refine NoP.normal ?_) | (refine WpH.load (by rfl) (by rfl) (by go_simp; rfl) ?_; simp only [Act.put, List.setIfInBounds_toArray, List.set_cons_zero, List.set_cons_succ]) | (refine WpH.loadT (by rfl) (by rfl) (by go_simp; rfl) (by rintro _ _ ⟨⟩; exact ⟨_, _, _, _, _, _, by rfl, by assumption, by assumption⟩) ?_; simp only [Act.put, List.setIfInBounds_toArray, List.set_cons_zero, List.set_cons_succ]) | (refine WpH.pure (by rfl) (fun w_ => by go_simp; (try go_bits); rfl) ?_; simp only [Act.put, List.setIfInBounds_toArray, List.set_cons_zero, List.set_cons_succ]) | (refine WpH.wild1 (by rfl) (fun _ _ => ?_)) | (refine WpH.skip (by rfl) ?_; simp only [Act.put, List.setIfInBounds_toArray, List.set_cons_zero, List.set_cons_succ])) | go_values | go_skip | go_guarded | go_step | go_upon | go_back)
      all_goals
        skip
        have hw := whereOf_some (x := ⟨false, id⟩) rfl Hk.out.1
        rw [liveOf_next Hk.out.2] at hw
        rw [hw]
        have hev : e0.live = 1 ∨ e0.live = 0 := by unfold El.live; split <;> simp
        go_ret2
        refine ⟨?_, bvia B2 hb3⟩
        first
          | (have hv : e0.live = 1 := (by assumption); rw [hv]; rfl)
          | (have hv : e0.live = 0 := hev.resolve_left (by assumption); rw [hv]; rfl)
    · have HI := hid (mindex_no _ S mb l K id (h.step b1) hx hm)
      have hw := whereOf_none (x := ⟨false, id⟩) rfl (ixOf_none hm)
      rw [hw]
      clear h hm hw
      go_enter Tryd.func33, Tryd.ntmps33
      repeat' (first | (go_at_call 89; go_must ((with_reducible refine Calls.mono HI.out ?_); rintro _ w2 ⟨rfl, hb2⟩; dsimp only)) | (with_reducible refine Keep.last ?_) | (with_reducible refine Keep.below (by assumption) ?_) | (with_reducible refine Keep.kept (by assumption) ?_) | (with_reducible refine Keep.alloc ?_) | (with_reducible refine Keep.same ?_) | ((with_reducible refine WpH.here ?_); first | (refine WpH.nil ?_; refine NoP.normal ?_) | (refine WpH.load (by rfl) (by rfl) (by go_simp; rfl) ?_; simp only [Act.put, List.setIfInBounds_toArray, List.set_cons_zero, List.set_cons_succ]) | (refine WpH.loadT (by rfl) (by rfl) (by go_simp; rfl) (by rintro _ _ ⟨⟩; exact ⟨_, _, _, _, _, _, by rfl, by assumption, by assumption⟩) ?_; simp only [Act.put, List.setIfInBounds_toArray, List.set_cons_zero, List.set_cons_succ]) | (refine WpH.pure (by rfl) (fun w_ => by go_simp; (try go_bits); rfl) ?_; simp only [Act.put, List.setIfInBounds_toArray, List.set_cons_zero, List.set_cons_succ]) | (refine WpH.wild1 (by rfl) (fun _ _ => ?_)) | (refine WpH.skip (by rfl) ?_; simp only [Act.put, List.setIfInBounds_toArray, List.set_cons_zero, List.set_cons_succ])) | go_values | go_skip | go_guarded | go_step | go_upon | go_back)
      skip
      go_ret2
      exact ⟨rfl, bvia b1 hb2⟩
  · have hw := whereOf_front (l := l) (x := ⟨true, id⟩) rfl
    rw [hw]
    clear h hw
    go_enter Tryd.func33, Tryd.ntmps33
    repeat' (first | (with_reducible refine Keep.last ?_) | (with_reducible refine Keep.below (by assumption) ?_) | (with_reducible refine Keep.kept (by assumption) ?_) | (with_reducible refine Keep.alloc ?_) | (with_reducible refine Keep.same ?_) | ((with_reducible refine WpH.here ?_); first | (refine WpH.nil ?_; refine NoP.normal ?_) | (refine WpH.load (by rfl) (by rfl) (by go_simp; rfl) ?_; simp only [Act.put, List.setIfInBounds_toArray, List.set_cons_zero, List.set_cons_succ]) | (refine WpH.loadT (by rfl) (by rfl) (by go_simp; rfl) (by rintro _ _ ⟨⟩; exact ⟨_, _, _, _, _, _, by rfl, by assumption, by assumption⟩) ?_; simp only [Act.put, List.setIfInBounds_toArray, List.set_cons_zero, List.set_cons_succ]) | (refine WpH.pure (by rfl) (fun w_ => by go_simp; (try go_bits); rfl) ?_; simp only [Act.put, List.setIfInBounds_toArray, List.set_cons_zero, List.set_cons_succ]) | (refine WpH.wild1 (by rfl) (fun _ _ => ?_)) | (refine WpH.skip (by rfl) ?_; simp only [Act.put, List.setIfInBounds_toArray, List.set_cons_zero, List.set_cons_succ])) | go_values | go_skip | go_guarded | go_step | go_upon | go_back)
    skip
    go_ret2
    exact ⟨rfl, b1⟩
theorem awhere_nil (w : World) (x : Anc) : Calls Tryd.prog 33 #[.pointer none, .agg #[.bool x.front, .int .i64 x.id.epoch, .int .i64 x.id.rep, .int .i64 x.id.num]] w fun e w' => e = .returned (.tuple #[.int .i64 0, .bool false]) ∧ Below w.heap.size w w' := by
  have b1 : Below w.heap.size w (w.alloc (.cells #[.bool x.front, .int .i64 x.id.epoch, .int .i64 x.id.rep, .int .i64 x.id.num] 57)) := balloc (Below.refl _ _)
  go_enter Tryd.func33, Tryd.ntmps33
  repeat' (first | (with_reducible refine Keep.last ?_) | (with_reducible refine Keep.below (by assumption) ?_) | (with_reducible refine Keep.kept (by assumption) ?_) | (with_reducible refine Keep.alloc ?_) | (with_reducible refine Keep.same ?_) | ((with_reducible refine WpH.here ?_); first | (refine WpH.nil ?_; refine NoP.normal ?_) | (refine WpH.load (by rfl) (by rfl) (by go_simp; rfl) ?_; simp only [Act.put, List.setIfInBounds_toArray, List.set_cons_zero, List.set_cons_succ]) | (refine WpH.loadT (by rfl) (by rfl) (by go_simp; rfl) (by rintro _ _ ⟨⟩; exact ⟨_, _, _, _, _, _, by rfl, by assumption, by assumption⟩) ?_; simp only [Act.put, List.setIfInBounds_toArray, List.set_cons_zero, List.set_cons_succ]) | (refine WpH.pure (by rfl) (fun w_ => by go_simp; (try go_bits); rfl) ?_; simp only [Act.put, List.setIfInBounds_toArray, List.set_cons_zero, List.set_cons_succ]) | (refine WpH.wild1 (by rfl) (fun _ _ => ?_)) | (refine WpH.skip (by rfl) ?_; simp only [Act.put, List.setIfInBounds_toArray, List.set_cons_zero, List.set_cons_succ])) | go_values | go_skip | go_guarded | go_step | go_upon | go_back)
  go_ret2
  exact ⟨rfl, b1⟩
theorem whereOf_le {l : List El} {x : Anc} : (whereOf l x).1 ≤ liveOf l := by
  unfold whereOf
  split
  · exact Nat.zero_le _
  · split
    · next k _ =>
      have h := live_mono l (Nat.le_max_left (k + 1) l.length)
      rwa [List.take_of_length_le (Nat.le_max_right _ _)] at h
    · exact Nat.zero_le _
set_option maxRecDepth 50000 in
set_option maxHeartbeats 2000000 in
theorem arebase_any (w : World) (S : Nat → Prop) (mb : Nat) (l : List El) (K : Nat) (x : Anc) (h : Mdl w S mb l K) (hl : l.length ≤ 536870912) (hx : x.id.In) :
    Calls Tryd.prog 44 #[.pointer (some ⟨mb, 0, none⟩), .agg #[.bool x.front, .int .i64 x.id.epoch, .int .i64 x.id.rep, .int .i64 x.id.num]] w fun e w' => e = .returned (.tuple #[.agg #[.bool (rebaseOf l x).1.front, .int .i64 (rebaseOf l x).1.id.epoch, .int .i64 (rebaseOf l x).1.id.rep, .int .i64 (rebaseOf l x).1.id.num], .bool (rebaseOf l x).2]) ∧ Below w.heap.size w w' := by
  have b0 : Below w.heap.size w (w.alloc (.cells #[.bool x.front, .int .i64 x.id.epoch, .int .i64 x.id.rep, .int .i64 x.id.num] 57)) := balloc (Below.refl _ _)
  have s0 : (w.alloc (.cells #[.bool x.front, .int .i64 x.id.epoch, .int .i64 x.id.rep, .int .i64 x.id.num] 57)).heap.size = w.heap.size + 1 := Array.size_push _
  have b1 := balloc (o := .cells #[.bool false, .int .i64 0, .int .i64 0, .int .i64 0] 57) b0
  have hB := Blk.new (w.alloc (.cells #[.bool x.front, .int .i64 x.id.epoch, .int .i64 x.id.rep, .int .i64 x.id.num] 57)) 57 #[.bool false, .int .i64 0, .int .i64 0, .int .i64 0]
  rw [s0] at hB
  have HW := hid (awhere_any _ S mb l K x (h.step b1) hl hx)
  have HG := hid (fun W (hb : Below w.heap.size w W) => gap_any W S mb l K (whereOf l x).1 (h.step hb) hl whereOf_le)
  unfold ancAgg at HG
  clear h
  cases hw : (whereOf l x).2
  · rw [hw] at HW
    have hr : rebaseOf l x = (⟨false, ⟨0, 0, 0⟩⟩, false) := by unfold rebaseOf; rw [if_neg (by simp [hw])]
    rw [hr]
    clear hw hr
    go_enter Tryd.func44, Tryd.ntmps44
    repeat' (first | (go_at_call 33; go_must ((with_reducible refine Calls.mono HW.out ?_); rintro _ w2 ⟨rfl, hb2⟩; have hB1 := hB.step hb2; have g0 := hB1.cell 0; have g1 := hB1.cell 1; have g2 := hB1.cell 2; have g3 := hB1.cell 3; have f0 := hB1.frozen 0; have f1 := hB1.frozen 1; have f2 := hB1.frozen 2; have f3 := hB1.frozen 3; have gl := hB1.lt; simp at g0 g1 g2 g3; dsimp only)) | (with_reducible refine Keep.last ?_) | (with_reducible refine Keep.below (by assumption) ?_) | (with_reducible refine Keep.kept (by assumption) ?_) | (with_reducible refine Keep.alloc ?_) | (with_reducible refine Keep.same ?_) | ((with_reducible refine WpH.here ?_); first | (refine WpH.nil ?_; refine NoP.normal ?_) | (refine WpH.load (by rfl) (by rfl) (by go_simp; rfl) ?_; simp only [Act.put, List.setIfInBounds_toArray, List.set_cons_zero, List.set_cons_succ]) | (refine WpH.loadT (by rfl) (by rfl) (by go_simp; rfl) (by rintro _ _ ⟨⟩; exact ⟨_, _, _, _, _, _, by rfl, by assumption, by assumption⟩) ?_; simp only [Act.put, List.setIfInBounds_toArray, List.set_cons_zero, List.set_cons_succ]) | (refine WpH.pure (by rfl) (fun w_ => by go_simp; (try go_bits); rfl) ?_; simp only [Act.put, List.setIfInBounds_toArray, List.set_cons_zero, List.set_cons_succ]) | (refine WpH.wild1 (by rfl) (fun _ _ => ?_)) | (refine WpH.skip (by rfl) ?_; simp only [Act.put, List.setIfInBounds_toArray, List.set_cons_zero, List.set_cons_succ])) | go_values | go_skip | go_guarded | go_step | go_upon | go_back)
    skip
    refine bodyPost_ret (v := .tuple #[.agg #[.bool false, .int .i64 0, .int .i64 0, .int .i64 0], .bool false]) (by simp [results, Tryd.results44, go_sem, g0, g1, g2, g3, gl, size_set]) rfl ⟨rfl, ?_⟩
    exact bset (bset (bset (bset (bvia b1 hb2) (Nat.le_succ _)) (Nat.le_succ _)) (Nat.le_succ _)) (Nat.le_succ _)
  · rw [hw] at HW
    have hr : rebaseOf l x = (gapOf l (whereOf l x).1, true) := by unfold rebaseOf; rw [if_pos hw]
    rw [hr]
    clear hw hr
    dsimp only
    generalize gapOf l (whereOf l x).1 = g at *
    go_enter Tryd.func44, Tryd.ntmps44
    repeat' (first | (go_at_call 33; go_must ((with_reducible refine Calls.mono HW.out ?_); rintro _ w2 ⟨rfl, hb2⟩; have B2 := bvia b1 hb2; dsimp only)) | (go_at_call 88; go_must ((with_reducible refine Calls.mono (HG.out _ B2) ?_); rintro _ w3 ⟨rfl, hb3⟩; have hB1 := (hB.step hb2).step hb3; have g0 := hB1.cell 0; have g1 := hB1.cell 1; have g2 := hB1.cell 2; have g3 := hB1.cell 3; have f0 := hB1.frozen 0; have f1 := hB1.frozen 1; have f2 := hB1.frozen 2; have f3 := hB1.frozen 3; have gl := hB1.lt; simp at g0 g1 g2 g3; dsimp only)) | (with_reducible refine Keep.last ?_) | (with_reducible refine Keep.below (by assumption) ?_) | (with_reducible refine Keep.kept (by assumption) ?_) | (with_reducible refine Keep.alloc ?_) | (with_reducible refine Keep.same ?_) | ((with_reducible refine WpH.here ?_); first | (refine WpH.nil ?_; refine NoP.normal ?_) | (refine WpH.load (by rfl) (by rfl) (by go_simp; rfl) ?_; simp only [Act.put, List.setIfInBounds_toArray, List.set_cons_zero, List.set_cons_succ]) | (refine WpH.loadT (by rfl) (by rfl) (by go_simp; rfl) (by rintro _ _ ⟨⟩; exact ⟨_, _, _, _, _, _, by rfl, by assumption, by assumption⟩) ?_; simp only [Act.put, List.setIfInBounds_toArray, List.set_cons_zero, List.set_cons_succ]) | (refine WpH.pure (by rfl) (fun w_ => by go_simp; (try go_bits); rfl) ?_; simp only [Act.put, List.setIfInBounds_toArray, List.set_cons_zero, List.set_cons_succ]) | (refine WpH.wild1 (by rfl) (fun _ _ => ?_)) | (refine WpH.skip (by rfl) ?_; simp only [Act.put, List.setIfInBounds_toArray, List.set_cons_zero, List.set_cons_succ])) | go_values | go_skip | go_guarded | go_step | go_upon | go_back)
    skip
    refine bodyPost_ret (v := .tuple #[.agg #[.bool g.front, .int .i64 g.id.epoch, .int .i64 g.id.rep, .int .i64 g.id.num], .bool true]) (by simp [results, Tryd.results44, go_sem, g0, g1, g2, g3, gl, size_set]) rfl ⟨rfl, ?_⟩
    exact bset (bset (bset (bset (bvia B2 hb3) (Nat.le_succ _)) (Nat.le_succ _)) (Nat.le_succ _)) (Nat.le_succ _)
set_option maxRecDepth 50000 in
set_option maxHeartbeats 2000000 in
theorem aat_ok (w : World) (S : Nat → Prop) (mb : Nat) (l : List El) (K p : Nat) (h : Mdl w S mb l K) (hl : l.length ≤ 536870912) (hp : p ≤ liveOf l) :
    Calls Tryd.prog 32 #[.pointer (some ⟨mb, 0, none⟩), .int .i64 p] w fun e w' => e = .returned (.tuple #[.agg #[.bool (gapOf l p).front, .int .i64 (gapOf l p).id.epoch, .int .i64 (gapOf l p).id.rep, .int .i64 (gapOf l p).id.num], .nilIface]) ∧ Below w.heap.size w w' := by
  have b0 : Below w.heap.size w (w.alloc (.cells #[.bool false, .int .i64 0, .int .i64 0, .int .i64 0] 57)) := balloc (Below.refl _ _)
  have hB := Blk.new w 57 #[.bool false, .int .i64 0, .int .i64 0, .int .i64 0]
  have HL := hid (mlive_any _ S mb l K (h.step b0))
  have HG := hid (fun W (hb : Below w.heap.size w W) => gap_any W S mb l K p (h.step hb) hl hp)
  unfold ancAgg at HG
  have hle := liveOf_le l
  have hpn : ¬ (p : Int) < 0 := by omega
  have hpg : ¬ (p : Int) > liveOf l := by omega
  clear h hp
  generalize gapOf l p = g at *
  go_enter Tryd.func32, Tryd.ntmps32
  repeat' (first | (go_at_call 19; go_must ((with_reducible refine Calls.mono HL.out ?_); rintro _ w2 ⟨rfl, hb2⟩; have B2 := bvia b0 hb2; dsimp only)) | (go_at_call 88; go_must ((with_reducible refine Calls.mono (HG.out _ B2) ?_); rintro _ w3 ⟨rfl, hb3⟩; have hB1 := (hB.step hb2).step hb3; have g0 := hB1.cell 0; have g1 := hB1.cell 1; have g2 := hB1.cell 2; have g3 := hB1.cell 3; have f0 := hB1.frozen 0; have f1 := hB1.frozen 1; have f2 := hB1.frozen 2; have f3 := hB1.frozen 3; have gl := hB1.lt; simp at g0 g1 g2 g3; dsimp only)) | (with_reducible refine Keep.last ?_) | (with_reducible refine Keep.below (by assumption) ?_) | (with_reducible refine Keep.kept (by assumption) ?_) | (with_reducible refine Keep.alloc ?_) | (with_reducible refine Keep.same ?_) | ((with_reducible refine WpH.here ?_); first | (refine WpH.nil ?_; refine NoP.normal ?_) | (refine WpH.load (by rfl) (by rfl) (by go_simp; rfl) ?_; simp only [Act.put, List.setIfInBounds_toArray, List.set_cons_zero, List.set_cons_succ]) | (refine WpH.loadT (by rfl) (by rfl) (by go_simp; rfl) (by rintro _ _ ⟨⟩; exact ⟨_, _, _, _, _, _, by rfl, by assumption, by assumption⟩) ?_; simp only [Act.put, List.setIfInBounds_toArray, List.set_cons_zero, List.set_cons_succ]) | (refine WpH.pure (by rfl) (fun w_ => by go_simp; (try go_bits); rfl) ?_; simp only [Act.put, List.setIfInBounds_toArray, List.set_cons_zero, List.set_cons_succ]) | (refine WpH.wild1 (by rfl) (fun _ _ => ?_)) | (refine WpH.skip (by rfl) ?_; simp only [Act.put, List.setIfInBounds_toArray, List.set_cons_zero, List.set_cons_succ])) | go_values | go_skip | go_guarded | go_step | go_upon | go_back)
  skip
  refine bodyPost_ret (v := .tuple #[.agg #[.bool g.front, .int .i64 g.id.epoch, .int .i64 g.id.rep, .int .i64 g.id.num], .nilIface]) (by simp [results, Tryd.results32, go_sem, g0, g1, g2, g3, gl, size_set]) rfl ⟨rfl, ?_⟩
  exact bset (bset (bset (bset (bvia B2 hb3) (Nat.le_refl _)) (Nat.le_refl _)) (Nat.le_refl _)) (Nat.le_refl _)
set_option maxRecDepth 50000 in
set_option maxHeartbeats 2000000 in
theorem aat_no (w : World) (S S' : Nat → Prop) (mb : Nat) (l : List El) (K : Nat) (i : Int) (h : Mdl w S mb l K) (hl : l.length ≤ 536870912) (hi : i < 0 ∨ (liveOf l : Int) < i) (hs : Sents w S' a) :
    Calls Tryd.prog 32 #[.pointer (some ⟨mb, 0, none⟩), .int .i64 i] w fun e w' => ∃ v, e = .returned (.tuple #[.agg #[.bool false, .int .i64 0, .int .i64 0, .int .i64 0], v]) ∧ IsErr w' (Fr w S') a [⟨({ data := #[97, 110, 99, 104, 111, 114] } : ByteArray), ({ data := #[65, 116] } : ByteArray), atOf i⟩] 2 v ∧ Below w.heap.size w w' := by
  have b0 : Below w.heap.size w (w.alloc (.cells #[.bool false, .int .i64 0, .int .i64 0, .int .i64 0] 57)) := balloc (Below.refl _ _)
  have hB := Blk.new w 57 #[.bool false, .int .i64 0, .int .i64 0, .int .i64 0]
  have HE := hid (fun W => new_err (S := fun b => S' b ∧ b < w.heap.size) (a := a) ({ data := #[97, 110, 99, 104, 111, 114] } : ByteArray) ({ data := #[65, 116] } : ByteArray) i [] 2 (reason (a 2)) W ⟨by omega, by omega, rfl⟩)
  have HL := hid (mlive_any _ S mb l K (h.step b0))
  have c2 := (hs.step b0).cell 2 (by omega) (by omega)
  simp only [gOf, reason] at c2
  clear h
  by_cases hn : i < 0
  · clear HL
    go_enter Tryd.func32, Tryd.ntmps32
    repeat' (first | (go_at_call 87; go_must ((with_reducible refine Calls.mono (HE.out _) ?_); rintro _ w4 ⟨v, rfl, hv, hb4⟩; have hB1 := hB.step hb4; have g0 := hB1.cell 0; have g1 := hB1.cell 1; have g2 := hB1.cell 2; have g3 := hB1.cell 3; have f0 := hB1.frozen 0; have f1 := hB1.frozen 1; have f2 := hB1.frozen 2; have f3 := hB1.frozen 3; have gl := hB1.lt; simp at g0 g1 g2 g3; dsimp only)) | (with_reducible refine Keep.last ?_) | (with_reducible refine Keep.below (by assumption) ?_) | (with_reducible refine Keep.kept (by assumption) ?_) | (with_reducible refine Keep.alloc ?_) | (with_reducible refine Keep.same ?_) | ((with_reducible refine WpH.here ?_); first | (refine WpH.nil ?_; refine NoP.normal ?_) | (refine WpH.load (by rfl) (by rfl) (by go_simp; rfl) ?_; simp only [Act.put, List.setIfInBounds_toArray, List.set_cons_zero, List.set_cons_succ]) | (refine WpH.loadT (by rfl) (by rfl) (by go_simp; rfl) (by rintro _ _ ⟨⟩; exact ⟨_, _, _, _, _, _, by rfl, by assumption, by assumption⟩) ?_; simp only [Act.put, List.setIfInBounds_toArray, List.set_cons_zero, List.set_cons_succ]) | (refine WpH.pure (by rfl) (fun w_ => by go_simp; (try go_bits); rfl) ?_; simp only [Act.put, List.setIfInBounds_toArray, List.set_cons_zero, List.set_cons_succ]) | (refine WpH.wild1 (by rfl) (fun _ _ => ?_)) | (refine WpH.skip (by rfl) ?_; simp only [Act.put, List.setIfInBounds_toArray, List.set_cons_zero, List.set_cons_succ])) | go_values | go_skip | go_guarded | go_step | go_upon | go_back)
    skip
    have hbw := bvia b0 hb4
    refine bodyPost_ret (v := .tuple #[.agg #[.bool false, .int .i64 0, .int .i64 0, .int .i64 0], v]) (by simp [results, Tryd.results32, go_sem, g0, g1, g2, g3, gl, size_set]) rfl ⟨v, rfl, ?_, ?_⟩
    · have ns : ¬ Fr (w.alloc (.cells #[.bool false, .int .i64 0, .int .i64 0, .int .i64 0] 57)) (fun b => S' b ∧ b < w.heap.size) w.heap.size := fun h => by
        have := hB.lt
        rcases h with h | h <;> omega
      refine (hv.keep ((((Same.setCell w4 ns _).trans (by simp [World.setCell]) (Same.setCell _ ns _)).trans (by simp [World.setCell]) (Same.setCell _ ns _)).trans (by simp [World.setCell]) (Same.setCell _ ns _))).more fun b _ h => ?_
      rcases h with h | h
      · exact .inl h.1
      · exact .inr (Nat.le_trans b0.size h)
    · exact bset (bset (bset (bset hbw (Nat.le_refl _)) (Nat.le_refl _)) (Nat.le_refl _)) (Nat.le_refl _)
  · have hg : i > (liveOf l : Int) := by omega
    go_enter Tryd.func32, Tryd.ntmps32
    repeat' (first | (go_at_call 19; go_must ((with_reducible refine Calls.mono HL.out ?_); rintro _ w2 ⟨rfl, hb2⟩; have B2 := bvia b0 hb2; have c2 := ((hs.step b0).step hb2).cell 2 (by omega) (by omega); simp only [gOf, reason] at c2; dsimp only)) | (go_at_call 87; go_must ((with_reducible refine Calls.mono (HE.out _) ?_); rintro _ w4 ⟨v, rfl, hv, hb4⟩; have hB1 := (hB.step hb2).step hb4; have g0 := hB1.cell 0; have g1 := hB1.cell 1; have g2 := hB1.cell 2; have g3 := hB1.cell 3; have f0 := hB1.frozen 0; have f1 := hB1.frozen 1; have f2 := hB1.frozen 2; have f3 := hB1.frozen 3; have gl := hB1.lt; simp at g0 g1 g2 g3; dsimp only)) | (with_reducible refine Keep.last ?_) | (with_reducible refine Keep.below (by assumption) ?_) | (with_reducible refine Keep.kept (by assumption) ?_) | (with_reducible refine Keep.alloc ?_) | (with_reducible refine Keep.same ?_) | ((with_reducible refine WpH.here ?_); first | (refine WpH.nil ?_; refine NoP.normal ?_) | (refine WpH.load (by rfl) (by rfl) (by go_simp; rfl) ?_; simp only [Act.put, List.setIfInBounds_toArray, List.set_cons_zero, List.set_cons_succ]) | (refine WpH.loadT (by rfl) (by rfl) (by go_simp; rfl) (by rintro _ _ ⟨⟩; exact ⟨_, _, _, _, _, _, by rfl, by assumption, by assumption⟩) ?_; simp only [Act.put, List.setIfInBounds_toArray, List.set_cons_zero, List.set_cons_succ]) | (refine WpH.pure (by rfl) (fun w_ => by go_simp; (try go_bits); rfl) ?_; simp only [Act.put, List.setIfInBounds_toArray, List.set_cons_zero, List.set_cons_succ]) | (refine WpH.wild1 (by rfl) (fun _ _ => ?_)) | (refine WpH.skip (by rfl) ?_; simp only [Act.put, List.setIfInBounds_toArray, List.set_cons_zero, List.set_cons_succ])) | go_values | go_skip | go_guarded | go_step | go_upon | go_back)
    skip
    have hbw := bvia B2 hb4
    refine bodyPost_ret (v := .tuple #[.agg #[.bool false, .int .i64 0, .int .i64 0, .int .i64 0], v]) (by simp [results, Tryd.results32, go_sem, g0, g1, g2, g3, gl, size_set]) rfl ⟨v, rfl, ?_, ?_⟩
    · have ns : ¬ Fr w2 (fun b => S' b ∧ b < w.heap.size) w.heap.size := fun h => by
        have := hB.lt
        have := hb2.size
        rcases h with h | h <;> omega
      refine (hv.keep ((((Same.setCell w4 ns _).trans (by simp [World.setCell]) (Same.setCell _ ns _)).trans (by simp [World.setCell]) (Same.setCell _ ns _)).trans (by simp [World.setCell]) (Same.setCell _ ns _))).more fun b _ h => ?_
      rcases h with h | h
      · exact .inl h.1
      · exact .inr (Nat.le_trans B2.size h)
    · exact bset (bset (bset (bset hbw (Nat.le_refl _)) (Nat.le_refl _)) (Nat.le_refl _)) (Nat.le_refl _)
set_option maxRecDepth 50000 in
set_option maxHeartbeats 2000000 in
theorem aat_nil (w : World) (S' : Nat → Prop) (i : Int) (hs : Sents w S' a) :
    Calls Tryd.prog 32 #[.pointer none, .int .i64 i] w fun e w' => ∃ v, e = .returned (.tuple #[.agg #[.bool false, .int .i64 0, .int .i64 0, .int .i64 0], v]) ∧ IsErr w' (Fr w S') a [⟨({ data := #[97, 110, 99, 104, 111, 114] } : ByteArray), ({ data := #[65, 116] } : ByteArray), atOf i⟩] 1 v ∧ Below w.heap.size w w' := by
  have b0 : Below w.heap.size w (w.alloc (.cells #[.bool false, .int .i64 0, .int .i64 0, .int .i64 0] 57)) := balloc (Below.refl _ _)
  have hB := Blk.new w 57 #[.bool false, .int .i64 0, .int .i64 0, .int .i64 0]
  have HE := hid (fun W => new_err (S := fun b => S' b ∧ b < w.heap.size) (a := a) ({ data := #[97, 110, 99, 104, 111, 114] } : ByteArray) ({ data := #[65, 116] } : ByteArray) i [] 1 (reason (a 1)) W ⟨by omega, by omega, rfl⟩)
  have c2 := (hs.step b0).cell 1 (by omega) (by omega)
  simp only [gOf, reason] at c2
  go_enter Tryd.func32, Tryd.ntmps32
  repeat' (first | (go_at_call 87; go_must ((with_reducible refine Calls.mono (HE.out _) ?_); rintro _ w4 ⟨v, rfl, hv, hb4⟩; have hB1 := hB.step hb4; have g0 := hB1.cell 0; have g1 := hB1.cell 1; have g2 := hB1.cell 2; have g3 := hB1.cell 3; have f0 := hB1.frozen 0; have f1 := hB1.frozen 1; have f2 := hB1.frozen 2; have f3 := hB1.frozen 3; have gl := hB1.lt; simp at g0 g1 g2 g3; dsimp only)) | (with_reducible refine Keep.last ?_) | (with_reducible refine Keep.below (by assumption) ?_) | (with_reducible refine Keep.kept (by assumption) ?_) | (with_reducible refine Keep.alloc ?_) | (with_reducible refine Keep.same ?_) | ((with_reducible refine WpH.here ?_); first | (refine WpH.nil ?_; refine NoP.normal ?_) | (refine WpH.load (by rfl) (by rfl) (by go_simp; rfl) ?_; simp only [Act.put, List.setIfInBounds_toArray, List.set_cons_zero, List.set_cons_succ]) | (refine WpH.loadT (by rfl) (by rfl) (by go_simp; rfl) (by rintro _ _ ⟨⟩; exact ⟨_, _, _, _, _, _, by rfl, by assumption, by assumption⟩) ?_; simp only [Act.put, List.setIfInBounds_toArray, List.set_cons_zero, List.set_cons_succ]) | (refine WpH.pure (by rfl) (fun w_ => by go_simp; (try go_bits); rfl) ?_; simp only [Act.put, List.setIfInBounds_toArray, List.set_cons_zero, List.set_cons_succ]) | (refine WpH.wild1 (by rfl) (fun _ _ => ?_)) | (refine WpH.skip (by rfl) ?_; simp only [Act.put, List.setIfInBounds_toArray, List.set_cons_zero, List.set_cons_succ])) | go_values | go_skip | go_guarded | go_step | go_upon | go_back)
  skip
  have hbw := bvia b0 hb4
  refine bodyPost_ret (v := .tuple #[.agg #[.bool false, .int .i64 0, .int .i64 0, .int .i64 0], v]) (by simp [results, Tryd.results32, go_sem, g0, g1, g2, g3, gl, size_set]) rfl ⟨v, rfl, ?_, ?_⟩
  · have ns : ¬ Fr (w.alloc (.cells #[.bool false, .int .i64 0, .int .i64 0, .int .i64 0] 57)) (fun b => S' b ∧ b < w.heap.size) w.heap.size := fun h => by
      have := hB.lt
      rcases h with h | h <;> omega
    refine (hv.keep ((((Same.setCell w4 ns _).trans (by simp [World.setCell]) (Same.setCell _ ns _)).trans (by simp [World.setCell]) (Same.setCell _ ns _)).trans (by simp [World.setCell]) (Same.setCell _ ns _))).more fun b _ h => ?_
    rcases h with h | h
    · exact .inl h.1
    · exact .inr (Nat.le_trans b0.size h)
  · exact bset (bset (bset (bset hbw (Nat.le_refl _)) (Nat.le_refl _)) (Nat.le_refl _)) (Nat.le_refl _)
end Go.Proofs.YtfihjajllfihjaaDoor
