/- What is asked of a model: At, ViewOf, LineEnd: the walks. Conditions: the model and the reasons lie in memory, fewer than 2^29 elements. The model's Add refused, for an element hidden too often: the walk. Conditions: the model and the reasons lie in memory, fewer than 2^29 elements. -/
import Derived.Test.YtfihjajllfihjaaGreatDoorP27
import Derived.Test.YtfihjajllfihjaaGreatDoorP22
import Derived.Test.YtfihjajllfihjaaGreatDoorP21
namespace Go.Proofs.YtfihjajllfihjaaGreatDoor
set_option linter.unusedSimpArgs false
set_option linter.unusedVariables false
open Go Go.RowKit
variable {a : Nat → Addr}
set_option maxRecDepth 50000 in
set_option maxHeartbeats 2000000 in
theorem mat_ok (w : World) (S : Nat → Prop) (mb : Nat) (l : List El) (K k : Nat) (e0 : El) (h : Mdl w S mb l K) (hl : l.length ≤ 536870912) (hk : l[k]? = some e0) :
    Calls Tryz.prog 37 #[.pointer (some ⟨mb, 0, none⟩), .int .i64 k] w fun e w' => e = .returned (.tuple #[.agg #[.int .i64 e0.epoch, .int .i64 e0.rep, .int .i64 e0.num, .int .i32 e0.char, .int .i64 e0.hides], .nilIface]) ∧ Below w.heap.size w w' := by
  obtain ⟨gt, gm, p, T, h1, h2, h3, rfl, h5, h6, h7, h8, h9⟩ := h
  have m0 := h1.cell 0
  simp at m0
  have ml := h1.lt
  have hk' := (List.getElem?_eq_some_iff.1 hk).1
  have HA := hid (fun W (hb : Below w.heap.size w W) => at_ok T p gt 64 k _ W (h2.step hb) (h3.step hb) (by omega) hk')
  have Hk := hid hk
  have hB := Blk.new w 32 #[.int .i64 0, .int .i64 0, .int .i64 0, .int .i32 0, .int .i64 0]
  clear h9 h5 hk
  go_enter Tryz.func37, Tryz.ntmps37
  repeat' (first | (go_at_call 84; go_must ((with_reducible refine Calls.mono (HA.out _ (by (repeat' (first | (with_reducible exact Below.refl _ _) | (with_reducible assumption) | (with_reducible refine balloc ?_) | (with_reducible refine bdrew ?_) | (with_reducible refine bset ?_ (by (try dsimp only); omega)) | (with_reducible refine bvia ?_ (by assumption)))))) ?_); rintro _ w1 ⟨⟨e1, rfl, he1⟩, hb1⟩; obtain rfl := Option.some.inj (he1.symm.trans Hk.out); clear he1; unfold El.agg; have hB1 := (hB.step hb1).alloc (.cells #[.int .i64 e1.epoch, .int .i64 e1.rep, .int .i64 e1.num, .int .i32 e1.char, .int .i64 e1.hides] 32); have g0 := hB1.cell 0; have g1 := hB1.cell 1; have g2 := hB1.cell 2; have g3 := hB1.cell 3; have g4 := hB1.cell 4; have f0 := hB1.frozen 0; have f1 := hB1.frozen 1; have f2 := hB1.frozen 2; have f3 := hB1.frozen 3; have f4 := hB1.frozen 4; have gl := hB1.lt; dsimp only)) | go_values | go_skip | go_guarded | go_step | go_upon | go_back)
  skip
  refine bodyPost_ret (v := .tuple #[.agg #[.int .i64 e1.epoch, .int .i64 e1.rep, .int .i64 e1.num, .int .i32 e1.char, .int .i64 e1.hides], .nilIface]) (by simp [results, Tryz.results37, go_sem, g0, g1, g2, g3, g4, gl, size_set]) rfl ⟨rfl, by (repeat' (first | (with_reducible exact Below.refl _ _) | (with_reducible assumption) | (with_reducible refine balloc ?_) | (with_reducible refine bdrew ?_) | (with_reducible refine bset ?_ (by (try dsimp only); omega)) | (with_reducible refine bvia ?_ (by assumption))))⟩
set_option maxRecDepth 50000 in
set_option maxHeartbeats 2000000 in
theorem mat_no (w : World) (S S' : Nat → Prop) (mb : Nat) (l : List El) (K : Nat) (i : Int) (h : Mdl w S mb l K) (hi : i < 0 ∨ (l.length : Int) ≤ i) (hs : Sents w S' a) :
    Calls Tryz.prog 37 #[.pointer (some ⟨mb, 0, none⟩), .int .i64 i] w fun e w' => ∃ v, e = .returned (.tuple #[.agg #[.int .i64 0, .int .i64 0, .int .i64 0, .int .i32 0, .int .i64 0], v]) ∧ IsErr w' (Fr w S') a [⟨({ data := #[109, 111, 100, 101, 108] } : ByteArray), ({ data := #[65, 116] } : ByteArray), atOf i⟩] 2 v ∧ Below w.heap.size w w' := by
  obtain ⟨gt, gm, p, T, h1, h2, h3, rfl, h5, h6, h7, h8, h9⟩ := h
  have m0 := h1.cell 0
  simp at m0
  have ml := h1.lt
  have HA := hid (fun W (hb : Below w.heap.size w W) => at_no T p gt 64 i _ S' W (h2.step hb) (h3.step hb) (hs.step hb) hi)
  have HE := hid (fun W => refused_err (S := fun b => S' b ∧ b < w.heap.size) (a := a) ({ data := #[65, 116] } : ByteArray) i [] 2 (reason (a 2)) W ⟨by omega, by omega, rfl⟩)
  have hB := Blk.new w 32 #[.int .i64 0, .int .i64 0, .int .i64 0, .int .i32 0, .int .i64 0]
  have eb0 : Below w.heap.size w (w.alloc (.cells #[.int .i64 0, .int .i64 0, .int .i64 0, .int .i32 0, .int .i64 0] 32)) := balloc (Below.refl _ _)
  clear h9 h5
  go_enter Tryz.func37, Tryz.ntmps37
  repeat' (first | (go_at_call 84; go_must ((with_reducible refine Calls.mono (HA.out _ (by (repeat' (first | (with_reducible exact Below.refl _ _) | (with_reducible assumption) | (with_reducible refine balloc ?_) | (with_reducible refine bdrew ?_) | (with_reducible refine bset ?_ (by (try dsimp only); omega)) | (with_reducible refine bvia ?_ (by assumption)))))) ?_); rintro _ w1 ⟨v1, rfl, he1, hb1⟩; obtain ⟨tv, xv, rfl⟩ := he1.notNil; have c2 := (((hs.step eb0).step hb1).step (balloc (o := .cells #[.int .i64 0, .int .i64 0, .int .i64 0, .int .i32 0, .int .i64 0] 32) (Below.refl _ _))).cell 2 (by omega) (by omega); simp only [gOf, reason] at c2; have hB1 := (hB.step hb1).alloc (.cells #[.int .i64 0, .int .i64 0, .int .i64 0, .int .i32 0, .int .i64 0] 32); dsimp only)) | (go_at_call 79; go_must ((with_reducible refine Calls.mono (HE.out _) ?_); rintro _ w4 ⟨v, rfl, hv, hb4⟩; have hB2 := hB1.step hb4; have g0 := hB2.cell 0; have g1 := hB2.cell 1; have g2 := hB2.cell 2; have g3 := hB2.cell 3; have g4 := hB2.cell 4; have f0 := hB2.frozen 0; have f1 := hB2.frozen 1; have f2 := hB2.frozen 2; have f3 := hB2.frozen 3; have f4 := hB2.frozen 4; have gl := hB2.lt; dsimp only)) | go_values | go_skip | go_guarded | go_step | go_upon | go_back)
  skip
  have hbe : Below w.heap.size w (w1.alloc (.cells #[.int .i64 0, .int .i64 0, .int .i64 0, .int .i32 0, .int .i64 0] 32)) := by (repeat' (first | (with_reducible exact Below.refl _ _) | (with_reducible assumption) | (with_reducible refine balloc ?_) | (with_reducible refine bdrew ?_) | (with_reducible refine bset ?_ (by (try dsimp only); omega)) | (with_reducible refine bvia ?_ (by assumption))))
  have hbw := bvia hbe hb4
  have hsz : w.heap.size < (w1.alloc (.cells #[.int .i64 0, .int .i64 0, .int .i64 0, .int .i32 0, .int .i64 0] 32)).heap.size := hB1.lt
  refine bodyPost_ret (v := .tuple #[.agg #[.int .i64 0, .int .i64 0, .int .i64 0, .int .i32 0, .int .i64 0], v]) (by simp [results, Tryz.results37, go_sem, g0, g1, g2, g3, g4, gl, size_set]) rfl ⟨v, rfl, ?_, ?_⟩
  · have ns : ¬ Fr (w1.alloc (.cells #[.int .i64 0, .int .i64 0, .int .i64 0, .int .i32 0, .int .i64 0] 32)) (fun b => S' b ∧ b < w.heap.size) w.heap.size := fun h => by
      rcases h with h | h
      · omega
      · omega
    refine (hv.keep (((((Same.setCell w4 ns _).trans (by simp [World.setCell]) (Same.setCell _ ns _)).trans (by simp [World.setCell]) (Same.setCell _ ns _)).trans (by simp [World.setCell]) (Same.setCell _ ns _)).trans (by simp [World.setCell]) (Same.setCell _ ns _))).more fun b _ h => ?_
    rcases h with h | h
    · exact .inl h.1
    · exact .inr (by omega)
  · exact bset (bset (bset (bset (bset hbw (Nat.le_refl _)) (Nat.le_refl _)) (Nat.le_refl _)) (Nat.le_refl _)) (Nat.le_refl _)
set_option maxRecDepth 50000 in
set_option maxHeartbeats 2000000 in
theorem mviewof_in (w : World) (S : Nat → Prop) (mb : Nat) (l : List El) (K k : Nat) (e0 : El) (h : Mdl w S mb l K) (hl : l.length ≤ 536870912) (hk : l[k]? = some e0) :
    Calls Tryz.prog 91 #[.pointer (some ⟨mb, 0, none⟩), .int .i64 k] w fun e w' => e = .returned (.tuple #[.int .i64 (liveOf (l.take k)), .bool (decide (e0.live = 1)), .nilIface]) ∧ Below w.heap.size w w' := by
  obtain ⟨gt, gm, p, T, h1, h2, h3, rfl, h5, h6, h7, h8, h9⟩ := h
  have m0 := h1.cell 0
  simp at m0
  have ml := h1.lt
  have hk' := (List.getElem?_eq_some_iff.1 hk).1
  have HB := hid (fun W (hb : Below w.heap.size w W) => before_ok T p gt 64 k _ W (h2.step hb) (h3.step hb) (by omega) (by omega))
  have HA := hid (fun W (hb : Below w.heap.size w W) => at_ok T p gt 64 k _ W (h2.step hb) (h3.step hb) (by omega) hk')
  have Hk := hid hk
  clear h9 h5 hk
  go_enter Tryz.func91, Tryz.ntmps91
  repeat' (first | (go_at_call 104; go_must ((with_reducible refine Calls.mono (HB.out _ (by (repeat' (first | (with_reducible exact Below.refl _ _) | (with_reducible assumption) | (with_reducible refine balloc ?_) | (with_reducible refine bdrew ?_) | (with_reducible refine bset ?_ (by (try dsimp only); omega)) | (with_reducible refine bvia ?_ (by assumption)))))) ?_); rintro _ w1 ⟨rfl, hb1⟩; have eW := balloc (o := .cells #[.int .i64 (liveOf (T.all.take k)), .int .i64 (linesOf (T.all.take k))] 40) (Below.refl _ w1); have hW := Blk.new w1 40 #[.int .i64 (liveOf (T.all.take k)), .int .i64 (linesOf (T.all.take k))]; have h1b := (h1.step hb1).step eW; have m0b := h1b.cell 0; have mlb := h1b.lt; simp at m0b; dsimp only)) | (go_at_call 84; go_must ((with_reducible refine Calls.mono (HA.out _ (by (repeat' (first | (with_reducible exact Below.refl _ _) | (with_reducible assumption) | (with_reducible refine balloc ?_) | (with_reducible refine bdrew ?_) | (with_reducible refine bset ?_ (by (try dsimp only); omega)) | (with_reducible refine bvia ?_ (by assumption)))))) ?_); rintro _ w2 ⟨⟨e1, rfl, he1⟩, hb2⟩; obtain rfl := Option.some.inj (he1.symm.trans Hk.out); clear he1; unfold El.agg; have hW2 := (hW.step hb2).step (balloc (o := .cells #[.int .i64 e1.epoch, .int .i64 e1.rep, .int .i64 e1.num, .int .i32 e1.char, .int .i64 e1.hides] 32) (Below.refl _ w2)); have v0 := hW2.cell 0; have v1 := hW2.cell 1; have vl := hW2.lt; have hE := Blk.new w2 32 #[.int .i64 e1.epoch, .int .i64 e1.rep, .int .i64 e1.num, .int .i32 e1.char, .int .i64 e1.hides]; obtain ⟨x0, x1, x2, x3, x4, xl⟩ := hE.five; simp at v0 v1; dsimp only)) | (go_at_call 54; go_must ((with_reducible refine (weight_any e1 _).mono ?_); rintro _ w3 ⟨rfl, hb3⟩; dsimp only)) | ((with_reducible refine region_at 5 ?_); refine wp_region_order [(0, true, false), (1, true, false), (2, true, false), (3, true, false), (4, true, false), (5, true, false), (6, false, false), (7, true, false), (8, true, false), (9, true, false), (10, true, false), (11, true, false), (12, true, false)] (by kernel_rfl) (by kernel_rfl) (by kernel_rfl) rfl rfl ?_) | ((with_reducible refine WpH.here ?_); refine WpH.wild2 (by rfl) (fun _ _ => ?_)) | (with_reducible refine Keep.last ?_) | (with_reducible refine Keep.below (by assumption) ?_) | (with_reducible refine Keep.kept (by assumption) ?_) | (with_reducible refine Keep.alloc ?_) | (with_reducible refine Keep.same ?_) | ((with_reducible refine WpH.here ?_); first | (refine WpH.nil ?_; refine NoP.normal ?_) | (refine WpH.load (by rfl) (by rfl) (by go_simp; rfl) ?_; simp only [Act.put, List.setIfInBounds_toArray, List.set_cons_zero, List.set_cons_succ]) | (refine WpH.loadT (by rfl) (by rfl) (by go_simp; rfl) (by rintro _ _ ⟨⟩; exact ⟨_, _, _, _, _, _, by rfl, by assumption, by assumption⟩) ?_; simp only [Act.put, List.setIfInBounds_toArray, List.set_cons_zero, List.set_cons_succ]) | (refine WpH.pure (by rfl) (fun w_ => by go_simp; (try go_bits); rfl) ?_; simp only [Act.put, List.setIfInBounds_toArray, List.set_cons_zero, List.set_cons_succ]) | (refine WpH.wild1 (by rfl) (fun _ _ => ?_)) | (refine WpH.skip (by rfl) ?_; simp only [Act.put, List.setIfInBounds_toArray, List.set_cons_zero, List.set_cons_succ])) | go_values | go_skip | go_guarded | go_step | go_upon | go_back)
  skip
  have hlv : decide (0 < e1.live) = decide (e1.live = 1) := by
    unfold El.live
    split <;> simp
  rw [hlv]
  go_ret3
  exact ⟨rfl, by (repeat' (first | (with_reducible exact Below.refl _ _) | (with_reducible assumption) | (with_reducible refine balloc ?_) | (with_reducible refine bdrew ?_) | (with_reducible refine bset ?_ (by (try dsimp only); omega)) | (with_reducible refine bvia ?_ (by assumption))))⟩
set_option maxRecDepth 50000 in
set_option maxHeartbeats 2000000 in
theorem mviewof_end (w : World) (S S' : Nat → Prop) (mb : Nat) (l : List El) (K : Nat) (h : Mdl w S mb l K) (hl : l.length ≤ 536870912) (hs : Sents w S' a) :
    Calls Tryz.prog 91 #[.pointer (some ⟨mb, 0, none⟩), .int .i64 l.length] w fun e w' => e = .returned (.tuple #[.int .i64 (liveOf l), .bool false, .nilIface]) ∧ Below w.heap.size w w' := by
  obtain ⟨gt, gm, p, T, h1, h2, h3, rfl, h5, h6, h7, h8, h9⟩ := h
  have m0 := h1.cell 0
  simp at m0
  have ml := h1.lt
  have HB := hid (fun W (hb : Below w.heap.size w W) => before_ok T p gt 64 T.all.length _ W (h2.step hb) (h3.step hb) (by omega) (Nat.le_refl _))
  simp only [List.take_length] at HB
  have HA := hid (fun W (hb : Below w.heap.size w W) => at_no T p gt 64 T.all.length _ S' W (h2.step hb) (h3.step hb) (hs.step hb) (.inr (Int.le_refl _)))
  clear h9 h5
  go_enter Tryz.func91, Tryz.ntmps91
  repeat' (first | (go_at_call 104; go_must ((with_reducible refine Calls.mono (HB.out _ (by (repeat' (first | (with_reducible exact Below.refl _ _) | (with_reducible assumption) | (with_reducible refine balloc ?_) | (with_reducible refine bdrew ?_) | (with_reducible refine bset ?_ (by (try dsimp only); omega)) | (with_reducible refine bvia ?_ (by assumption)))))) ?_); rintro _ w1 ⟨rfl, hb1⟩; have eW := balloc (o := .cells #[.int .i64 (liveOf T.all), .int .i64 (linesOf T.all)] 40) (Below.refl _ w1); have hW := Blk.new w1 40 #[.int .i64 (liveOf T.all), .int .i64 (linesOf T.all)]; have h1b := (h1.step hb1).step eW; have m0b := h1b.cell 0; have mlb := h1b.lt; simp at m0b; dsimp only)) | (go_at_call 84; go_must ((with_reducible refine Calls.mono (HA.out _ (by (repeat' (first | (with_reducible exact Below.refl _ _) | (with_reducible assumption) | (with_reducible refine balloc ?_) | (with_reducible refine bdrew ?_) | (with_reducible refine bset ?_ (by (try dsimp only); omega)) | (with_reducible refine bvia ?_ (by assumption)))))) ?_); rintro _ w2 ⟨v1, rfl, he1, hb2⟩; obtain ⟨tv, xv, rfl⟩ := he1.notNil; have hW2 := (hW.step hb2).step (balloc (o := .cells #[.int .i64 0, .int .i64 0, .int .i64 0, .int .i32 0, .int .i64 0] 32) (Below.refl _ w2)); have v0 := hW2.cell 0; have v1 := hW2.cell 1; have vl := hW2.lt; simp at v0 v1; dsimp only)) | ((with_reducible refine region_at 5 ?_); refine wp_region_order [(0, true, false), (1, true, false), (2, true, false), (3, true, false), (4, true, false), (5, true, false), (6, false, false), (7, true, false), (8, true, false), (9, true, false), (10, true, false), (11, true, false), (12, true, false)] (by kernel_rfl) (by kernel_rfl) (by kernel_rfl) rfl rfl ?_) | (with_reducible refine Keep.last ?_) | (with_reducible refine Keep.below (by assumption) ?_) | (with_reducible refine Keep.kept (by assumption) ?_) | (with_reducible refine Keep.alloc ?_) | (with_reducible refine Keep.same ?_) | ((with_reducible refine WpH.here ?_); first | (refine WpH.nil ?_; refine NoP.normal ?_) | (refine WpH.load (by rfl) (by rfl) (by go_simp; rfl) ?_; simp only [Act.put, List.setIfInBounds_toArray, List.set_cons_zero, List.set_cons_succ]) | (refine WpH.loadT (by rfl) (by rfl) (by go_simp; rfl) (by rintro _ _ ⟨⟩; exact ⟨_, _, _, _, _, _, by rfl, by assumption, by assumption⟩) ?_; simp only [Act.put, List.setIfInBounds_toArray, List.set_cons_zero, List.set_cons_succ]) | (refine WpH.pure (by rfl) (fun w_ => by go_simp; (try go_bits); rfl) ?_; simp only [Act.put, List.setIfInBounds_toArray, List.set_cons_zero, List.set_cons_succ]) | (refine WpH.wild1 (by rfl) (fun _ _ => ?_)) | (refine WpH.skip (by rfl) ?_; simp only [Act.put, List.setIfInBounds_toArray, List.set_cons_zero, List.set_cons_succ])) | go_values | go_skip | go_guarded | go_step | go_upon | go_back)
  skip
  go_ret3
  exact ⟨rfl, by (repeat' (first | (with_reducible exact Below.refl _ _) | (with_reducible assumption) | (with_reducible refine balloc ?_) | (with_reducible refine bdrew ?_) | (with_reducible refine bset ?_ (by (try dsimp only); omega)) | (with_reducible refine bvia ?_ (by assumption))))⟩
end Go.Proofs.YtfihjajllfihjaaGreatDoor
namespace Go.Proofs.YtfihjajllfihjaaGreatDoor
set_option linter.unusedSimpArgs false
set_option linter.unusedVariables false
open Go Go.RowKit
variable {a : Nat → Addr}
set_option maxRecDepth 50000 in
set_option maxHeartbeats 4000000 in
theorem madd_arg (w : World) (S S' : Nat → Prop) (mb : Nat) (l : List El) (K i : Nat) (e : El) (d : Int) (hd : d = 1 ∨ d = -1) (h : Mdl w S mb l K) (hl : l.length ≤ 536870912) (he : l[i]? = some e) (hf : fairH (e.hides + d) = false) (hs : Sents w S' a) :
    Calls Tryz.prog 36 #[.pointer (some ⟨mb, 0, none⟩), .int .i64 i, .int .i64 d] w fun r w' => ∃ v, r = .returned v ∧ IsErr w' (Fr w S') a [⟨({ data := #[109, 111, 100, 101, 108] } : ByteArray), ({ data := #[65, 100, 100] } : ByteArray), atOf i⟩] 1 v ∧ Below w.heap.size w w' := by
  obtain ⟨gt, gm, p, T, h1, h2, h3, rfl, h5, h6, h7, h8, h9⟩ := h
  have hi := (List.getElem?_eq_some_iff.1 he).1
  have hgood := h9 e (List.mem_of_getElem? he)
  have hhb := fairH_bounds hgood.hides
  have He := hid he
  have m0 := h1.cell 0
  simp at m0
  have hml := h1.lt
  have Hs := hid hs
  clear h5 h9 he hs
  rcases hd with rfl | rfl
  · skip
    have HE := hid (fun W => refused_err (S := S') (a := a) ({ data := #[65, 100, 100] } : ByteArray) i [] 1 (reason (a 1)) W ⟨by omega, by omega, rfl⟩)
    have HA := hid (at_ok T p gt 64 i _ w h2 h3 (by omega) hi)
    have hnz : -9223372036854775808 ≤ e.hides := by omega
    have hpz : e.hides + 1 ≤ 9223372036854775807 := by omega
    have hqz : -9223372036854775808 ≤ e.hides + 1 := by omega
    have HF := hid (fun W => hideable_any (e.hides + 1) W)
    rw [hf] at HF
    clear hf
    go_enter Tryz.func36, Tryz.ntmps36
    repeat' (first | (go_at_call 84; go_must ((with_reducible refine Calls.mono HA.out ?_); rintro _ w1 ⟨⟨e0, rfl, he0⟩, hb1⟩; obtain rfl : e0 = e := Option.some.inj (he0.symm.trans He.out); clear he0; unfold El.agg; have c2 := ((Hs.out.step hb1).step (balloc (o := .cells #[.int .i64 e0.epoch, .int .i64 e0.rep, .int .i64 e0.num, .int .i32 e0.char, .int .i64 e0.hides] 32) (Below.refl _ w1))).cell 1 (by omega) (by omega); simp only [gOf, reason] at c2; dsimp only)) | (go_at_call 85; go_must ((with_reducible refine Calls.mono (HF.out _) ?_); rintro _ _ ⟨rfl, rfl⟩; dsimp only)) | (go_at_call 79; go_must ((with_reducible refine Calls.mono (HE.out _) ?_); rintro _ w4 ⟨v, rfl, hv, hb4⟩; dsimp only)) | go_values | go_skip | go_guarded | go_step | go_upon | go_back)
    skip
    go_ret
    have hbe : Below w.heap.size w (w1.alloc (.cells #[.int .i64 e0.epoch, .int .i64 e0.rep, .int .i64 e0.num, .int .i32 e0.char, .int .i64 e0.hides] 32)) := by (repeat' (first | (with_reducible exact Below.refl _ _) | (with_reducible assumption) | (with_reducible refine balloc ?_) | (with_reducible refine bdrew ?_) | (with_reducible refine bset ?_ (by (try dsimp only); omega)) | (with_reducible refine bvia ?_ (by assumption))))
    exact ⟨v, rfl, hv.cut hbe.size, bvia hbe hb4⟩
  · skip
    have HE := hid (fun W => refused_err (S := S') (a := a) ({ data := #[65, 100, 100] } : ByteArray) i [] 1 (reason (a 1)) W ⟨by omega, by omega, rfl⟩)
    have HA := hid (at_ok T p gt 64 i _ w h2 h3 (by omega) hi)
    have hnz : -9223372036854775808 ≤ e.hides := by omega
    have hpz : e.hides + (-1) ≤ 9223372036854775807 := by omega
    have hqz : -9223372036854775808 ≤ e.hides + (-1) := by omega
    have HF := hid (fun W => hideable_any (e.hides + (-1)) W)
    rw [hf] at HF
    clear hf
    go_enter Tryz.func36, Tryz.ntmps36
    repeat' (first | (go_at_call 84; go_must ((with_reducible refine Calls.mono HA.out ?_); rintro _ w1 ⟨⟨e0, rfl, he0⟩, hb1⟩; obtain rfl : e0 = e := Option.some.inj (he0.symm.trans He.out); clear he0; unfold El.agg; have c2 := ((Hs.out.step hb1).step (balloc (o := .cells #[.int .i64 e0.epoch, .int .i64 e0.rep, .int .i64 e0.num, .int .i32 e0.char, .int .i64 e0.hides] 32) (Below.refl _ w1))).cell 1 (by omega) (by omega); simp only [gOf, reason] at c2; dsimp only)) | (go_at_call 85; go_must ((with_reducible refine Calls.mono (HF.out _) ?_); rintro _ _ ⟨rfl, rfl⟩; dsimp only)) | (go_at_call 79; go_must ((with_reducible refine Calls.mono (HE.out _) ?_); rintro _ w4 ⟨v, rfl, hv, hb4⟩; dsimp only)) | go_values | go_skip | go_guarded | go_step | go_upon | go_back)
    skip
    go_ret
    have hbe : Below w.heap.size w (w1.alloc (.cells #[.int .i64 e0.epoch, .int .i64 e0.rep, .int .i64 e0.num, .int .i32 e0.char, .int .i64 e0.hides] 32)) := by (repeat' (first | (with_reducible exact Below.refl _ _) | (with_reducible assumption) | (with_reducible refine balloc ?_) | (with_reducible refine bdrew ?_) | (with_reducible refine bset ?_ (by (try dsimp only); omega)) | (with_reducible refine bvia ?_ (by assumption))))
    exact ⟨v, rfl, hv.cut hbe.size, bvia hbe hb4⟩
end Go.Proofs.YtfihjajllfihjaaGreatDoor
