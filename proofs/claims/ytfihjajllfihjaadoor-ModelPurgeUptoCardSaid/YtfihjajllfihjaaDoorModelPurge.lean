/- barrowlaw05.ModelPurge: the walk: it returns true. Conditions: the row and the reasons lie in memory, the elements fit their kinds. -/
import Derived.Test.YtfihjajllfihjaaDoorBegun5
import Derived.Test.YtfihjajllfihjaaDoorMPurge
namespace Go.Proofs.YtfihjajllfihjaaDoor
set_option linter.unusedSimpArgs false
set_option linter.unusedVariables false
open Go Go.RowKit
variable {a : Nat → Addr}
theorem liveOf_purge (l : List El) : liveOf (purgeOf l) = liveOf l := by rw [← purgeOf_live, purgeOf_twice, purgeOf_live]
theorem MPair.blk {w : World} {pb mb K base : Nat} {S : Nat → Prop} {l : List El} (h : MPair w pb mb S l K base) : ∃ A c, Blk w pb 29 #[.pointer (some ⟨mb, 0, none⟩), .slice A l.length c] ∧ Row w (fun b => base ≤ b ∧ b ≠ pb ∧ ¬ S b) A l.length c l := by
  obtain ⟨A, c, h1, h2, -⟩ := h
  exact ⟨A, c, h1, h2⟩
set_option maxRecDepth 100000 in
set_option maxHeartbeats 4000000 in
theorem mpurge_no (w : World) (A : Option Addr) (n c j : Nat) (ls : List El) (ej : El) (S S' : Nat → Prop) (hr : Row w S A n c ls) (hg : AllRight ((ls.take (min n 100)).take j)) (hj : (ls.take (min n 100))[j]? = some ej) (hw : wrongS (((ls.take (min n 100)).take j).map El.nm) ej ≠ 0) (hin : ∀ e ∈ ls, e.In) (hs : Sents w S' a) :
    Calls Tryd.prog 3 #[.slice A n c] w fun e w' => e = .returned (.bool true) ∧ Below w.heap.size w w' := by
  have HB := hid (begun5_no w A n c j ls ej S S' hr hg hj hw hin hs)
  have HK := hid wakes5_any
  clear hr hg hj hw hin hs
  go_enter Tryd.func3, Tryd.ntmps3
  repeat' (first | (go_at_call 16; go_must ((with_reducible refine Calls.mono HB.out ?_); rintro _ w1 ⟨rfl, hb1⟩; dsimp only)) | (go_at_call 17; go_must ((with_reducible refine Calls.mono (HK.out _) ?_); rintro _ w9 ⟨rfl, hb9⟩; dsimp only)) | (with_reducible refine Keep.last ?_) | (with_reducible refine Keep.below (by assumption) ?_) | (with_reducible refine Keep.kept (by assumption) ?_) | (with_reducible refine Keep.alloc ?_) | (with_reducible refine Keep.same ?_) | ((with_reducible refine WpH.here ?_); first | (refine WpH.nil ?_; refine NoP.normal ?_) | (refine WpH.load (by rfl) (by rfl) (by go_simp; rfl) ?_; simp only [Act.put, List.setIfInBounds_toArray, List.set_cons_zero, List.set_cons_succ]) | (refine WpH.loadT (by rfl) (by rfl) (by go_simp; rfl) (by rintro _ _ ⟨⟩; exact ⟨_, _, _, _, _, _, by rfl, by assumption, by assumption⟩) ?_; simp only [Act.put, List.setIfInBounds_toArray, List.set_cons_zero, List.set_cons_succ]) | (refine WpH.pure (by rfl) (fun w_ => by go_simp; (try go_bits); rfl) ?_; simp only [Act.put, List.setIfInBounds_toArray, List.set_cons_zero, List.set_cons_succ]) | (refine WpH.wild1 (by rfl) (fun _ _ => ?_)) | (refine WpH.skip (by rfl) ?_; simp only [Act.put, List.setIfInBounds_toArray, List.set_cons_zero, List.set_cons_succ])) | go_values | go_skip | go_guarded | go_step | go_upon | go_back)
  skip
  go_ret
  exact ⟨rfl, bvia hb1 hb9⟩
set_option maxRecDepth 100000 in
set_option maxHeartbeats 8000000 in
theorem mpurge_ok (w : World) (A : Option Addr) (n c : Nat) (ls : List El) (S S' : Nat → Prop) (hr : Row w S A n c ls) (hg : AllRight (ls.take (min n 100))) (hin : ∀ e ∈ ls, e.In) (hs : Sents w S' a) :
    Calls Tryd.prog 3 #[.slice A n c] w fun e w' => e = .returned (.bool true) ∧ Below w.heap.size w w' := by
  have HB := hid (begun5_ok w A n c ls S hr hg hin)
  have HK := hid wakes5_any
  have hL : (ls.take (min n 100)).length ≤ 100 := by rw [List.length_take]; omega
  generalize ls.take (min n 100) = L at *
  have hnd := hg.nodup
  have hpl := purgeOf_le L
  have hpv := purgeOf_live L
  clear hr hg hin hs
  go_enter Tryd.func3, Tryd.ntmps3
  repeat' (first | (go_at_call 16; go_must ((with_reducible refine Calls.mono HB.out ?_); rintro _ w1 ⟨⟨pb, mb, SM, rfl, hP⟩, hb1⟩; dsimp only)) | (with_reducible refine stop_region 4 ?_) | (with_reducible refine Keep.last ?_) | (with_reducible refine Keep.below (by assumption) ?_) | (with_reducible refine Keep.kept (by assumption) ?_) | (with_reducible refine Keep.alloc ?_) | (with_reducible refine Keep.same ?_) | ((with_reducible refine WpH.here ?_); first | (refine WpH.nil ?_; refine NoP.normal ?_) | (refine WpH.load (by rfl) (by rfl) (by go_simp; rfl) ?_; simp only [Act.put, List.setIfInBounds_toArray, List.set_cons_zero, List.set_cons_succ]) | (refine WpH.loadT (by rfl) (by rfl) (by go_simp; rfl) (by rintro _ _ ⟨⟩; exact ⟨_, _, _, _, _, _, by rfl, by assumption, by assumption⟩) ?_; simp only [Act.put, List.setIfInBounds_toArray, List.set_cons_zero, List.set_cons_succ]) | (refine WpH.pure (by rfl) (fun w_ => by go_simp; (try go_bits); rfl) ?_; simp only [Act.put, List.setIfInBounds_toArray, List.set_cons_zero, List.set_cons_succ]) | (refine WpH.wild1 (by rfl) (fun _ _ => ?_)) | (refine WpH.skip (by rfl) ?_; simp only [Act.put, List.setIfInBounds_toArray, List.set_cons_zero, List.set_cons_succ])) | go_values | go_skip | go_guarded | go_step | go_upon | go_back)
  refine Stop.go ?_
  obtain ⟨Ap, cp, hpb, hprow⟩ := hP.blk
  obtain ⟨p0, pl⟩ := hP.cell
  have hM1 := hP.mdl.more (S' := fun b => SM b ∧ b < w1.heap.size) fun b h1 h2 => ⟨h2, h1⟩
  have hSM : ∀ b, SM b → w.heap.size ≤ b ∧ b ≠ pb := (by obtain ⟨_, _, _, _, _, h, _⟩ := hP; exact h)
  have q1 : w1.drew.heap[pb]? = some (.cells #[.pointer (some ⟨mb, 0, none⟩), .slice Ap L.length cp] 29 (0, 0)) := hpb
  have HV := hid (view_any w1.drew _ mb L _ (hM1.step (Below.refl _ _).drew) (by omega))
  have HV2 := hid (fun W (hb : Below w1.heap.size w1 W) => mlive_any W _ mb L _ (hM1.step hb))
  have HV3 := hid (fun W (hb : Below w1.heap.size w1 W) => mlen_any W _ mb L _ (hM1.step hb))
  have hSM' := hid hSM
  clear hSM
  repeat' (first | ((with_reducible refine region_at 4 ?_); refine wp_region_order [(0, true, false), (1, true, false), (2, true, false), (3, true, false), (5, true, false), (6, true, false), (7, true, false), (8, true, false), (10, true, false), (11, true, false), (12, true, false), (13, true, false), (4, false, false), (9, false, false), (14, false, false), (15, true, false), (16, true, false), (17, true, false)] (by kernel_rfl) (by kernel_rfl) (by kernel_rfl) rfl rfl ?_) | (go_at_call 18; go_must ((with_reducible refine Calls.mono HV.out ?_); rintro _ w2 ⟨rfl, hb2⟩; have B2 : Below w1.heap.size w1 w2 := undrew hb2; dsimp only)) | (go_at_call 19; go_must ((with_reducible refine Calls.mono (HV2.out _ B2) ?_); rintro _ w3 ⟨rfl, hb3⟩; have B3 := bvia B2 hb3; dsimp only)) | (go_at_call 20; go_must ((with_reducible refine Calls.mono (HV3.out _ B3) ?_); rintro _ _ ⟨rfl, rfl⟩; obtain ⟨p0, pl⟩ := (hP.step B3).cell; have HP1 := hid (mpurge_any w3 _ mb L _ (hM1.step B3) (by omega) hnd); rw [purgeOf_live] at HP1; dsimp only)) | (go_at_call 21; go_must (first | ((with_reducible refine Calls.mono HP1.out ?_); rintro _ w4 ⟨rfl, hM4, hO4⟩; have hp4 := hO4.blk (hpb.step B3) (fun h => (hSM'.out _ h.1).2 rfl); have p0 := hp4.cell 0; have pl := hp4.lt; simp at p0; have HP2 := hid (mpurge_any w4 _ mb _ _ hM4 (by omega) (purgeOf_nodup hnd)); rw [purgeOf_twice, Int.sub_self] at HP2; dsimp only) | ((with_reducible refine Calls.mono HP2.out ?_); rintro _ w5 ⟨rfl, hM5, hO5⟩; dsimp only))) | (with_reducible refine stop_region 7 ?_) | (with_reducible refine Keep.last ?_) | (with_reducible refine Keep.below (by assumption) ?_) | (with_reducible refine Keep.kept (by assumption) ?_) | (with_reducible refine Keep.alloc ?_) | (with_reducible refine Keep.same ?_) | ((with_reducible refine WpH.here ?_); first | (refine WpH.nil ?_; refine NoP.normal ?_) | (refine WpH.load (by rfl) (by rfl) (by go_simp; rfl) ?_; simp only [Act.put, List.setIfInBounds_toArray, List.set_cons_zero, List.set_cons_succ]) | (refine WpH.loadT (by rfl) (by rfl) (by go_simp; rfl) (by rintro _ _ ⟨⟩; exact ⟨_, _, _, _, _, _, by rfl, by assumption, by assumption⟩) ?_; simp only [Act.put, List.setIfInBounds_toArray, List.set_cons_zero, List.set_cons_succ]) | (refine WpH.pure (by rfl) (fun w_ => by go_simp; (try go_bits); rfl) ?_; simp only [Act.put, List.setIfInBounds_toArray, List.set_cons_zero, List.set_cons_succ]) | (refine WpH.wild1 (by rfl) (fun _ _ => ?_)) | (refine WpH.skip (by rfl) ?_; simp only [Act.put, List.setIfInBounds_toArray, List.set_cons_zero, List.set_cons_succ])) | go_values | go_skip | go_guarded | go_step | go_upon | go_back)
  refine Stop.go ?_
  have z3 := B3.size
  have z4 := hO4.size
  have z5 := hO5.size
  have hn4 : ∀ b, b < w1.heap.size → ¬ SM b → w5.heap[b]? = w1.heap[b]? := fun b hb hS => ((hO5.block b (by omega) (fun h => by rcases h with h | h; exact hS h.1; omega)).trans (hO4.block b (by omega) (fun h => hS h.1))).trans (B3.block b hb)
  have hp5 : Blk w5 pb 29 #[.pointer (some ⟨mb, 0, none⟩), .slice Ap L.length cp] := (hn4 pb hpb.lt (fun h => (hSM'.out _ h).2 rfl)).trans hpb
  have hrow5 := hprow.keep (w' := w5) fun b hb hl => hn4 b hl hb.2.2
  have hB5 : Below w.heap.size w w5 := by
    have B13 := bvia hb1 B3
    have hSb : ∀ b, (SM b ∧ b < w1.heap.size) → w.heap.size ≤ b := fun b h => (hSM'.out b h.1).1
    have B4 := hO4.below B13 (by have := hb1.size; omega) hSb
    exact hO5.below B4 (by have := hb1.size; omega) (fun b h => by rcases h with h | h; exact hSb b h; have := hb1.size; omega)
  have hle := liveOf_le L
  have p1 := hp5.cell 1
  have p0 := hp5.cell 0
  have pl := hp5.lt
  simp at p0 p1
  have HN := hid (mlen_any w5.drew _ mb _ _ (hM5.step (Below.refl _ _).drew))
  rw [purgeOf_live] at HN
  have HW1 := hid (fun W (hb : Below w5.heap.size w5 W) => mlive_any W _ mb _ _ (hM5.step hb))
  have HW2 := hid (fun W (hb : Below w5.heap.size w5 W) => view_any W _ mb _ _ (hM5.step hb) (by omega))
  have HW3 := hid (fun W (hb : Below w5.heap.size w5 W) => melements_any W _ mb _ _ (hM5.step hb) (by omega))
  rw [liveOf_purge] at HW1
  rw [purgeOf_view] at HW2
  have HRP := hid (fun W (hb : Below w5.heap.size w5 W) => refPurge_any Ap L.length cp L _ W (hrow5.step hb) (by omega))
  clear HP1 HP2 HB HV HV2 HV3 hM4 hM5 hM1 hP hnd q1 hrow5 hprow hpb hn4 hpv
  repeat' (first | ((with_reducible refine region_at 7 ?_); refine wp_region_order [(0, true, false), (1, true, false), (2, true, false), (3, true, false), (4, true, false), (5, true, false), (6, true, false), (7, true, false), (8, true, false), (9, true, false), (10, true, false), (11, true, false), (12, true, false), (13, true, false), (15, true, false), (14, false, false), (16, true, false), (17, true, false), (18, true, false), (19, true, false), (20, true, false), (21, true, false), (22, true, false), (24, true, false), (23, false, false), (25, true, false), (26, true, false), (27, true, false), (28, true, false), (29, true, false), (30, true, false), (31, true, false), (33, true, false), (32, false, false), (34, true, false), (35, true, false), (36, true, false), (37, true, false), (38, true, false), (39, true, false), (40, true, false), (42, true, false), (43, true, false), (44, true, false), (45, true, false), (41, false, false), (46, false, false), (47, false, false), (48, true, false), (49, true, false), (50, false, false), (51, true, false), (52, true, false)] (by kernel_rfl) (by kernel_rfl) (by kernel_rfl) rfl rfl ?_) | ((with_reducible refine WpH.here ?_); refine WpH.wild2 (by rfl) (fun _ _ => ?_)) | (go_at_call 20; go_must ((with_reducible refine Calls.mono HN.out ?_); rintro _ _ ⟨rfl, rfl⟩; have D5 : Below w5.heap.size w5 w5.drew := (Below.refl _ _).drew; dsimp only)) | (go_at_call 19; go_must ((with_reducible refine Calls.mono (HW1.out _ D5) ?_); rintro _ w6 ⟨rfl, hb6⟩; have D6 := bvia D5 hb6; have kk := hp5.step D6; have p0 := kk.cell 0; have p1 := kk.cell 1; have pl := kk.lt; simp at p0 p1; clear kk; dsimp only)) | (go_at_call 18; go_must ((with_reducible refine Calls.mono (HW2.out _ D6) ?_); rintro _ w7 ⟨rfl, hb7⟩; have D7 := bvia D6 hb7; have kk := hp5.step D7; have p0 := kk.cell 0; have p1 := kk.cell 1; have pl := kk.lt; simp at p0 p1; clear kk; dsimp only)) | (go_at_call 23; go_must ((with_reducible refine Calls.mono (HW3.out _ D7) ?_); rintro _ w8 ⟨A8, c8, rfl, hO8, hb8⟩; have D8 := bvia D7 hb8; have kk := hp5.step D8; have p0 := kk.cell 0; have p1 := kk.cell 1; have pl := kk.lt; simp at p0 p1; clear kk; dsimp only)) | (go_at_call 24; go_must ((with_reducible refine Calls.mono (HRP.out _ D8) ?_); rintro _ wa ⟨Aa, ca, rfl, hOa, hba⟩; have HEl := hid (els_eq A8 _ c8 Aa ca (purgeOf L) _ _ wa ((hO8.row (S := fun _ => True) fun _ _ _ => trivial).step hba) (hOa.row (S := fun _ => True) fun _ _ _ => trivial)); have Da := bvia D8 hba; dsimp only)) | (go_at_call 22; go_must ((with_reducible refine Calls.mono HEl.out ?_); rintro _ wb ⟨rfl, hbb⟩; have Db := bvia Da hbb; dsimp only)) | (go_at_call 17; go_must ((with_reducible refine Calls.mono (HK.out _) ?_); rintro _ w9 ⟨rfl, hb9⟩; dsimp only)) | (with_reducible refine Keep.last ?_) | (with_reducible refine Keep.below (by assumption) ?_) | (with_reducible refine Keep.kept (by assumption) ?_) | (with_reducible refine Keep.alloc ?_) | (with_reducible refine Keep.same ?_) | ((with_reducible refine WpH.here ?_); first | (refine WpH.nil ?_; refine NoP.normal ?_) | (refine WpH.load (by rfl) (by rfl) (by go_simp; rfl) ?_; simp only [Act.put, List.setIfInBounds_toArray, List.set_cons_zero, List.set_cons_succ]) | (refine WpH.loadT (by rfl) (by rfl) (by go_simp; rfl) (by rintro _ _ ⟨⟩; exact ⟨_, _, _, _, _, _, by rfl, by assumption, by assumption⟩) ?_; simp only [Act.put, List.setIfInBounds_toArray, List.set_cons_zero, List.set_cons_succ]) | (refine WpH.pure (by rfl) (fun w_ => by go_simp; (try go_bits); rfl) ?_; simp only [Act.put, List.setIfInBounds_toArray, List.set_cons_zero, List.set_cons_succ]) | (refine WpH.wild1 (by rfl) (fun _ _ => ?_)) | (refine WpH.skip (by rfl) ?_; simp only [Act.put, List.setIfInBounds_toArray, List.set_cons_zero, List.set_cons_succ])) | go_values | go_skip | go_guarded | go_step | go_upon | go_back)
  skip
  go_ret
  exact ⟨rfl, bvia (bvia hB5 Db) hb9⟩
theorem mpurge_true (w : World) (A : Option Addr) (n c : Nat) (ls : List El) (S S' : Nat → Prop) (hr : Row w S A n c ls) (hin : ∀ e ∈ ls, e.In) (hs : Sents w S' a) :
    Calls Tryd.prog 3 #[.slice A n c] w fun e w' => e = .returned (.bool true) ∧ Below w.heap.size w w' := by
  rcases allRight_or (ls.take (min n 100)) with hg | ⟨j, ej, hj, hg, hw⟩
  · exact mpurge_ok w A n c ls S S' hr hg hin hs
  · exact mpurge_no w A n c j ls ej S S' hr hg hj hw hin hs
end Go.Proofs.YtfihjajllfihjaaDoor
