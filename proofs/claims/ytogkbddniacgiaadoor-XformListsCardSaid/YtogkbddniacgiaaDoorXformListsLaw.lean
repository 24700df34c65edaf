/- barrowlaw07.XformLists returns true for every input, and leaves what it is given as it was. No condition. -/
import Derived.Test.YtogkbddniacgiaaDoorOps5
import Derived.Deep.DeepWitnessRowRef
import Derived.LaidMore
namespace Go.Proofs.YtogkbddniacgiaaDoor
set_option linter.unusedSimpArgs false
set_option linter.unusedVariables false
open Go Go.RowKit Go.ChangeShapes Go.WideShapes Go.ChangeAt
theorem GRow.at_w {α : Type} [Enc α] {w W : World} {S : Nat → Prop} {A : Option Addr} {n c : Nat} {es : List α} (h : GRow w S A n c es) (hb : Below w.heap.size w W) : GRow W (fun b => b < W.heap.size) A n c es := (h.step hb).more fun _ hl _ => hl
set_option maxRecDepth 100000 in
set_option maxHeartbeats 4000000 in
theorem xl_true (w : World) (A B : Option Addr) (n c m d : Nat) (xs bs : List Opn) (hx : GRow w (fun b => b < w.heap.size) A n c xs) (hb : GRow w (fun b => b < w.heap.size) B m d bs) (ix : ∀ o ∈ xs, o.In) (ib : ∀ o ∈ bs, o.In) :
    Calls Tryd.prog 13 #[.slice A n c, .slice B m d] w fun e w' => e = .returned (.bool true) ∧ Below w.heap.size w w' := by
  have HK := hid wakes7_any
  have hnx := hx.len_le
  have hmx := hb.len_le
  unfold maxLen at hnx hmx
  have hnc := hx.2.1
  have hmd := hb.2.1
  by_cases h1 : n ≤ 24
  · by_cases h2 : m ≤ 24
    · have Hx := hid hx
      have Hb := hid hb
      have Ix := hid ix
      have Ib := hid ib
      clear hx hb ix ib
      have hN24 : n ≤ 24 := by omega
      have hM24 : m ≤ 24 := by omega
      have hXl := Hx.out.1
      have hBl := Hb.out.1
      have HC := hid (fun W (hb : Below w.heap.size w W) => cross_any W A B n c m d (xs) (bs) (Hx.out.at_w hb) (Hb.out.at_w hb) (by omega) (by omega) Ix.out Ib.out)
      have HD := hid (fun W (hb : Below w.heap.size w W) => refCross_any W A B n c m d (xs) (bs) (Hx.out.at_w hb) (Hb.out.at_w hb) (by omega) (by omega) Ix.out Ib.out)
      go_enter Tryd.func13, Tryd.ntmps13
      repeat' (first | (go_at_call 49; go_must ((with_reducible refine Calls.mono (HC.out _ (by (repeat' (first | (with_reducible exact Below.refl _ _) | (with_reducible assumption) | (with_reducible refine balloc ?_) | (with_reducible refine bdrew ?_) | (with_reducible refine bset ?_ (by (try dsimp only); omega)) | (with_reducible refine bvia ?_ (by assumption)))))) ?_); rintro _ w1 ⟨A1, c1, B1, d1, rfl, gA1, gB1, hb1⟩; dsimp only)) | (go_at_call 50; go_must ((with_reducible refine Calls.mono (HD.out _ (by (repeat' (first | (with_reducible exact Below.refl _ _) | (with_reducible assumption) | (with_reducible refine balloc ?_) | (with_reducible refine bdrew ?_) | (with_reducible refine bset ?_ (by (try dsimp only); omega)) | (with_reducible refine bvia ?_ (by assumption)))))) ?_); rintro _ w2 ⟨A2, c2, B2, d2, rfl, gA2, gB2, hb2⟩; have hA1 := (gA1.step hb2).row (S := fun _ => True) (fun _ _ _ => trivial); have hB1 := (gB1.step hb2).row (S := fun _ => True) (fun _ _ _ => trivial); have hA2 := gA2.row (S := fun _ => True) (fun _ _ _ => trivial); have hB2 := gB2.row (S := fun _ => True) (fun _ _ _ => trivial); dsimp only)) | (go_at_call 51; go_must (first | ((with_reducible refine Calls.mono (ops_eq A1 _ c1 A2 c2 _ _ _ _ hA1 hA2) ?_); rintro _ w3 ⟨rfl, hb3⟩; dsimp only) | ((with_reducible refine Calls.mono (ops_eq B1 _ d1 B2 d2 _ _ _ _ (hB1.step hb3) (hB2.step hb3)) ?_); rintro _ w4 ⟨rfl, hb4⟩; dsimp only))) | (with_reducible refine Keep.last ?_) | (with_reducible refine Keep.below (by assumption) ?_) | (with_reducible refine Keep.kept (by assumption) ?_) | (with_reducible refine Keep.alloc ?_) | (with_reducible refine Keep.same ?_) | ((with_reducible refine WpH.here ?_); first | (refine WpH.nil ?_; refine NoP.normal ?_) | (refine WpH.load (by rfl) (by rfl) (by go_simp; rfl) ?_; simp only [Act.put, List.setIfInBounds_toArray, List.set_cons_zero, List.set_cons_succ]) | (refine WpH.loadT (by rfl) (by rfl) (by go_simp; rfl) (by rintro _ _ ⟨⟩; exact ⟨_, _, _, _, _, _, by rfl, by assumption, by assumption⟩) ?_; simp only [Act.put, List.setIfInBounds_toArray, List.set_cons_zero, List.set_cons_succ]) | (refine WpH.pure (by rfl) (fun w_ => by go_simp; (try go_bits); rfl) ?_; simp only [Act.put, List.setIfInBounds_toArray, List.set_cons_zero, List.set_cons_succ]) | (refine WpH.wild1 (by rfl) (fun _ _ => ?_)) | (refine WpH.skip (by rfl) ?_; simp only [Act.put, List.setIfInBounds_toArray, List.set_cons_zero, List.set_cons_succ])) | go_values | go_skip | go_guarded | go_step | go_upon | go_back)
      have hb0 : Below w.heap.size w w4 := by (repeat' (first | (with_reducible exact Below.refl _ _) | (with_reducible assumption) | (with_reducible refine balloc ?_) | (with_reducible refine bdrew ?_) | (with_reducible refine bset ?_ (by (try dsimp only); omega)) | (with_reducible refine bvia ?_ (by assumption))))
      clear gA1 gB1 gA2 gB2 hA1 hB1 hA2 hB2
      go_loopw [9] (fun i wr => ∃ k : Nat, i = .int .i64 k ∧ k ≤ n ∧ Below w.heap.size w wr) (fun i _ => n - (intOf i).toNat)
      case atStart => exact ⟨0, rfl, Nat.zero_le _, hb0⟩
      case round =>
        obtain ⟨k, rfl, hk, hbr⟩ := hrel
        by_cases hlt : k < n
        · obtain ⟨b, off, o, rfl, hSb, hbl, hok, hcell⟩ := (Hx.out.step hbr).at_ hlt
          have Hop := hid (fun w1 (hB : Below w.heap.size w w1) => op_cells Hx.out hlt hok hB)
          have hin := Ix.out o (List.mem_of_getElem? hok)
          obtain ⟨c0, c1, c2, c3, hbl, cs, u, z, hH⟩ := Hop.out wr.drew hbr.drew
          have HL := hid (fun W (hb : Below w.heap.size w W) => along_any o W B m d (bs) hin (Hb.out.at_w hb))
          have HR := hid (fun W (hb : Below w.heap.size w W) => refAlong_any o W B m d (bs) hin (Hb.out.at_w hb))
          simp only [Opn.agg] at HL HR
          clear hcell hok hin
          repeat' (first | ((with_reducible refine region_at 12 ?_); refine wp_region_orderT (fun b => b < w.heap.size) [(0, true, false), (1, true, false), (2, true, false), (3, true, false), (4, true, false), (6, true, false), (7, true, false), (8, true, false), (9, true, false), (10, true, false), (5, false, false), (11, false, false), (12, true, false)] (by kernel_rfl) (by kernel_rfl) (by kernel_rfl) rfl rfl ?_) | (go_at_call 53; go_must ((with_reducible refine Calls.mono (HL.out _ (by (repeat' (first | (with_reducible exact Below.refl _ _) | (with_reducible assumption) | (with_reducible refine balloc ?_) | (with_reducible refine bdrew ?_) | (with_reducible refine bset ?_ (by (try dsimp only); omega)) | (with_reducible refine bvia ?_ (by assumption)))))) ?_); rintro _ w5 ⟨rfl, hb⟩; have hk := belowKeep hb (fun b => b < w.heap.size); have hB : Below w.heap.size w w5 := (by (repeat' (first | (with_reducible exact Below.refl _ _) | (with_reducible assumption) | (with_reducible refine balloc ?_) | (with_reducible refine bdrew ?_) | (with_reducible refine bset ?_ (by (try dsimp only); omega)) | (with_reducible refine bvia ?_ (by assumption))))); obtain ⟨c0, c1, c2, c3, hbl, cs, u, z, hH⟩ := Hop.out w5 hB; dsimp only)) | (go_at_call 54; go_must ((with_reducible refine Calls.mono (HR.out _ (by (repeat' (first | (with_reducible exact Below.refl _ _) | (with_reducible assumption) | (with_reducible refine balloc ?_) | (with_reducible refine bdrew ?_) | (with_reducible refine bset ?_ (by (try dsimp only); omega)) | (with_reducible refine bvia ?_ (by assumption)))))) ?_); rintro _ w6 ⟨rfl, hb⟩; have hk := belowKeep hb (fun b => b < w.heap.size); dsimp only)) | (with_reducible refine Keep.last ?_) | (with_reducible refine Keep.below (by assumption) ?_) | (with_reducible refine Keep.kept (by assumption) ?_) | (with_reducible refine Keep.alloc ?_) | (with_reducible refine Keep.same ?_) | ((with_reducible refine WpH.here ?_); first | (refine WpH.nil ?_; refine NoP.normal ?_) | (refine WpH.load (by rfl) (by rfl) (by go_simp; rfl) ?_; simp only [Act.put, List.setIfInBounds_toArray, List.set_cons_zero, List.set_cons_succ]) | (refine WpH.loadT (by rfl) (by rfl) (by go_simp; rfl) (by rintro _ _ ⟨⟩; exact ⟨_, _, _, _, _, _, by rfl, by assumption, by assumption⟩) ?_; simp only [Act.put, List.setIfInBounds_toArray, List.set_cons_zero, List.set_cons_succ]) | (refine WpH.pure (by rfl) (fun w_ => by go_simp; (try go_bits); rfl) ?_; simp only [Act.put, List.setIfInBounds_toArray, List.set_cons_zero, List.set_cons_succ]) | (refine WpH.wild1 (by rfl) (fun _ _ => ?_)) | (refine WpH.skip (by rfl) ?_; simp only [Act.put, List.setIfInBounds_toArray, List.set_cons_zero, List.set_cons_succ])) | go_values | go_skip | go_guarded | go_step | go_upon | go_back)
          exact ⟨⟨k + 1, by go_num, by omega, by (repeat' (first | (with_reducible exact Below.refl _ _) | (with_reducible assumption) | (with_reducible refine balloc ?_) | (with_reducible refine bdrew ?_) | (with_reducible refine bset ?_ (by (try dsimp only); omega)) | (with_reducible refine bvia ?_ (by assumption))))⟩, by simp [intOf]; omega⟩
        · repeat' (first | (go_at_call 32; go_must ((with_reducible refine Calls.mono (HK.out _) ?_); rintro _ w1 ⟨rfl, hb1⟩; dsimp only)) | (with_reducible refine Keep.last ?_) | (with_reducible refine Keep.below (by assumption) ?_) | (with_reducible refine Keep.kept (by assumption) ?_) | (with_reducible refine Keep.alloc ?_) | (with_reducible refine Keep.same ?_) | ((with_reducible refine WpH.here ?_); first | (refine WpH.nil ?_; refine NoP.normal ?_) | (refine WpH.load (by rfl) (by rfl) (by go_simp; rfl) ?_; simp only [Act.put, List.setIfInBounds_toArray, List.set_cons_zero, List.set_cons_succ]) | (refine WpH.loadT (by rfl) (by rfl) (by go_simp; rfl) (by rintro _ _ ⟨⟩; exact ⟨_, _, _, _, _, _, by rfl, by assumption, by assumption⟩) ?_; simp only [Act.put, List.setIfInBounds_toArray, List.set_cons_zero, List.set_cons_succ]) | (refine WpH.pure (by rfl) (fun w_ => by go_simp; (try go_bits); rfl) ?_; simp only [Act.put, List.setIfInBounds_toArray, List.set_cons_zero, List.set_cons_succ]) | (refine WpH.wild1 (by rfl) (fun _ _ => ?_)) | (refine WpH.skip (by rfl) ?_; simp only [Act.put, List.setIfInBounds_toArray, List.set_cons_zero, List.set_cons_succ])) | go_values | go_skip | go_guarded | go_step | go_upon | go_back)
          all_goals
            go_ret
            exact ⟨rfl, hbr.trans (hb1.mono hbr.size)⟩
    · have Hx := hid hx
      have Hb := hid (hb.take_ (i := 24) (by omega))
      have Ix := hid ix
      have Ib := hid (fun o (h : o ∈ bs.take 24) => ib o (List.mem_of_mem_take h))
      have h24 : 24 ≤ d := by omega
      clear hx hb ix ib
      have hN24 : n ≤ 24 := by omega
      have hM24 : 24 ≤ 24 := by omega
      have hXl := Hx.out.1
      have hBl := Hb.out.1
      have HC := hid (fun W (hb : Below w.heap.size w W) => cross_any W A B n c 24 d (xs) (bs.take 24) (Hx.out.at_w hb) (Hb.out.at_w hb) (by omega) (by omega) Ix.out Ib.out)
      have HD := hid (fun W (hb : Below w.heap.size w W) => refCross_any W A B n c 24 d (xs) (bs.take 24) (Hx.out.at_w hb) (Hb.out.at_w hb) (by omega) (by omega) Ix.out Ib.out)
      go_enter Tryd.func13, Tryd.ntmps13
      repeat' (first | (go_at_call 49; go_must ((with_reducible refine Calls.mono (HC.out _ (by (repeat' (first | (with_reducible exact Below.refl _ _) | (with_reducible assumption) | (with_reducible refine balloc ?_) | (with_reducible refine bdrew ?_) | (with_reducible refine bset ?_ (by (try dsimp only); omega)) | (with_reducible refine bvia ?_ (by assumption)))))) ?_); rintro _ w1 ⟨A1, c1, B1, d1, rfl, gA1, gB1, hb1⟩; dsimp only)) | (go_at_call 50; go_must ((with_reducible refine Calls.mono (HD.out _ (by (repeat' (first | (with_reducible exact Below.refl _ _) | (with_reducible assumption) | (with_reducible refine balloc ?_) | (with_reducible refine bdrew ?_) | (with_reducible refine bset ?_ (by (try dsimp only); omega)) | (with_reducible refine bvia ?_ (by assumption)))))) ?_); rintro _ w2 ⟨A2, c2, B2, d2, rfl, gA2, gB2, hb2⟩; have hA1 := (gA1.step hb2).row (S := fun _ => True) (fun _ _ _ => trivial); have hB1 := (gB1.step hb2).row (S := fun _ => True) (fun _ _ _ => trivial); have hA2 := gA2.row (S := fun _ => True) (fun _ _ _ => trivial); have hB2 := gB2.row (S := fun _ => True) (fun _ _ _ => trivial); dsimp only)) | (go_at_call 51; go_must (first | ((with_reducible refine Calls.mono (ops_eq A1 _ c1 A2 c2 _ _ _ _ hA1 hA2) ?_); rintro _ w3 ⟨rfl, hb3⟩; dsimp only) | ((with_reducible refine Calls.mono (ops_eq B1 _ d1 B2 d2 _ _ _ _ (hB1.step hb3) (hB2.step hb3)) ?_); rintro _ w4 ⟨rfl, hb4⟩; dsimp only))) | (with_reducible refine Keep.last ?_) | (with_reducible refine Keep.below (by assumption) ?_) | (with_reducible refine Keep.kept (by assumption) ?_) | (with_reducible refine Keep.alloc ?_) | (with_reducible refine Keep.same ?_) | ((with_reducible refine WpH.here ?_); first | (refine WpH.nil ?_; refine NoP.normal ?_) | (refine WpH.load (by rfl) (by rfl) (by go_simp; rfl) ?_; simp only [Act.put, List.setIfInBounds_toArray, List.set_cons_zero, List.set_cons_succ]) | (refine WpH.loadT (by rfl) (by rfl) (by go_simp; rfl) (by rintro _ _ ⟨⟩; exact ⟨_, _, _, _, _, _, by rfl, by assumption, by assumption⟩) ?_; simp only [Act.put, List.setIfInBounds_toArray, List.set_cons_zero, List.set_cons_succ]) | (refine WpH.pure (by rfl) (fun w_ => by go_simp; (try go_bits); rfl) ?_; simp only [Act.put, List.setIfInBounds_toArray, List.set_cons_zero, List.set_cons_succ]) | (refine WpH.wild1 (by rfl) (fun _ _ => ?_)) | (refine WpH.skip (by rfl) ?_; simp only [Act.put, List.setIfInBounds_toArray, List.set_cons_zero, List.set_cons_succ])) | go_values | go_skip | go_guarded | go_step | go_upon | go_back)
      have hb0 : Below w.heap.size w w4 := by (repeat' (first | (with_reducible exact Below.refl _ _) | (with_reducible assumption) | (with_reducible refine balloc ?_) | (with_reducible refine bdrew ?_) | (with_reducible refine bset ?_ (by (try dsimp only); omega)) | (with_reducible refine bvia ?_ (by assumption))))
      clear gA1 gB1 gA2 gB2 hA1 hB1 hA2 hB2
      go_loopw [9] (fun i wr => ∃ k : Nat, i = .int .i64 k ∧ k ≤ n ∧ Below w.heap.size w wr) (fun i _ => n - (intOf i).toNat)
      case atStart => exact ⟨0, rfl, Nat.zero_le _, hb0⟩
      case round =>
        obtain ⟨k, rfl, hk, hbr⟩ := hrel
        by_cases hlt : k < n
        · obtain ⟨b, off, o, rfl, hSb, hbl, hok, hcell⟩ := (Hx.out.step hbr).at_ hlt
          have Hop := hid (fun w1 (hB : Below w.heap.size w w1) => op_cells Hx.out hlt hok hB)
          have hin := Ix.out o (List.mem_of_getElem? hok)
          obtain ⟨c0, c1, c2, c3, hbl, cs, u, z, hH⟩ := Hop.out wr.drew hbr.drew
          have HL := hid (fun W (hb : Below w.heap.size w W) => along_any o W B 24 d (bs.take 24) hin (Hb.out.at_w hb))
          have HR := hid (fun W (hb : Below w.heap.size w W) => refAlong_any o W B 24 d (bs.take 24) hin (Hb.out.at_w hb))
          simp only [Opn.agg] at HL HR
          clear hcell hok hin
          repeat' (first | ((with_reducible refine region_at 12 ?_); refine wp_region_orderT (fun b => b < w.heap.size) [(0, true, false), (1, true, false), (2, true, false), (3, true, false), (4, true, false), (6, true, false), (7, true, false), (8, true, false), (9, true, false), (10, true, false), (5, false, false), (11, false, false), (12, true, false)] (by kernel_rfl) (by kernel_rfl) (by kernel_rfl) rfl rfl ?_) | (go_at_call 53; go_must ((with_reducible refine Calls.mono (HL.out _ (by (repeat' (first | (with_reducible exact Below.refl _ _) | (with_reducible assumption) | (with_reducible refine balloc ?_) | (with_reducible refine bdrew ?_) | (with_reducible refine bset ?_ (by (try dsimp only); omega)) | (with_reducible refine bvia ?_ (by assumption)))))) ?_); rintro _ w5 ⟨rfl, hb⟩; have hk := belowKeep hb (fun b => b < w.heap.size); have hB : Below w.heap.size w w5 := (by (repeat' (first | (with_reducible exact Below.refl _ _) | (with_reducible assumption) | (with_reducible refine balloc ?_) | (with_reducible refine bdrew ?_) | (with_reducible refine bset ?_ (by (try dsimp only); omega)) | (with_reducible refine bvia ?_ (by assumption))))); obtain ⟨c0, c1, c2, c3, hbl, cs, u, z, hH⟩ := Hop.out w5 hB; dsimp only)) | (go_at_call 54; go_must ((with_reducible refine Calls.mono (HR.out _ (by (repeat' (first | (with_reducible exact Below.refl _ _) | (with_reducible assumption) | (with_reducible refine balloc ?_) | (with_reducible refine bdrew ?_) | (with_reducible refine bset ?_ (by (try dsimp only); omega)) | (with_reducible refine bvia ?_ (by assumption)))))) ?_); rintro _ w6 ⟨rfl, hb⟩; have hk := belowKeep hb (fun b => b < w.heap.size); dsimp only)) | (with_reducible refine Keep.last ?_) | (with_reducible refine Keep.below (by assumption) ?_) | (with_reducible refine Keep.kept (by assumption) ?_) | (with_reducible refine Keep.alloc ?_) | (with_reducible refine Keep.same ?_) | ((with_reducible refine WpH.here ?_); first | (refine WpH.nil ?_; refine NoP.normal ?_) | (refine WpH.load (by rfl) (by rfl) (by go_simp; rfl) ?_; simp only [Act.put, List.setIfInBounds_toArray, List.set_cons_zero, List.set_cons_succ]) | (refine WpH.loadT (by rfl) (by rfl) (by go_simp; rfl) (by rintro _ _ ⟨⟩; exact ⟨_, _, _, _, _, _, by rfl, by assumption, by assumption⟩) ?_; simp only [Act.put, List.setIfInBounds_toArray, List.set_cons_zero, List.set_cons_succ]) | (refine WpH.pure (by rfl) (fun w_ => by go_simp; (try go_bits); rfl) ?_; simp only [Act.put, List.setIfInBounds_toArray, List.set_cons_zero, List.set_cons_succ]) | (refine WpH.wild1 (by rfl) (fun _ _ => ?_)) | (refine WpH.skip (by rfl) ?_; simp only [Act.put, List.setIfInBounds_toArray, List.set_cons_zero, List.set_cons_succ])) | go_values | go_skip | go_guarded | go_step | go_upon | go_back)
          exact ⟨⟨k + 1, by go_num, by omega, by (repeat' (first | (with_reducible exact Below.refl _ _) | (with_reducible assumption) | (with_reducible refine balloc ?_) | (with_reducible refine bdrew ?_) | (with_reducible refine bset ?_ (by (try dsimp only); omega)) | (with_reducible refine bvia ?_ (by assumption))))⟩, by simp [intOf]; omega⟩
        · repeat' (first | (go_at_call 32; go_must ((with_reducible refine Calls.mono (HK.out _) ?_); rintro _ w1 ⟨rfl, hb1⟩; dsimp only)) | (with_reducible refine Keep.last ?_) | (with_reducible refine Keep.below (by assumption) ?_) | (with_reducible refine Keep.kept (by assumption) ?_) | (with_reducible refine Keep.alloc ?_) | (with_reducible refine Keep.same ?_) | ((with_reducible refine WpH.here ?_); first | (refine WpH.nil ?_; refine NoP.normal ?_) | (refine WpH.load (by rfl) (by rfl) (by go_simp; rfl) ?_; simp only [Act.put, List.setIfInBounds_toArray, List.set_cons_zero, List.set_cons_succ]) | (refine WpH.loadT (by rfl) (by rfl) (by go_simp; rfl) (by rintro _ _ ⟨⟩; exact ⟨_, _, _, _, _, _, by rfl, by assumption, by assumption⟩) ?_; simp only [Act.put, List.setIfInBounds_toArray, List.set_cons_zero, List.set_cons_succ]) | (refine WpH.pure (by rfl) (fun w_ => by go_simp; (try go_bits); rfl) ?_; simp only [Act.put, List.setIfInBounds_toArray, List.set_cons_zero, List.set_cons_succ]) | (refine WpH.wild1 (by rfl) (fun _ _ => ?_)) | (refine WpH.skip (by rfl) ?_; simp only [Act.put, List.setIfInBounds_toArray, List.set_cons_zero, List.set_cons_succ])) | go_values | go_skip | go_guarded | go_step | go_upon | go_back)
          all_goals
            go_ret
            exact ⟨rfl, hbr.trans (hb1.mono hbr.size)⟩
  · by_cases h2 : m ≤ 24
    · have Hx := hid (hx.take_ (i := 24) (by omega))
      have Hb := hid hb
      have Ix := hid (fun o (h : o ∈ xs.take 24) => ix o (List.mem_of_mem_take h))
      have Ib := hid ib
      have h24 : 24 ≤ c := by omega
      clear hx hb ix ib
      have hN24 : 24 ≤ 24 := by omega
      have hM24 : m ≤ 24 := by omega
      have hXl := Hx.out.1
      have hBl := Hb.out.1
      have HC := hid (fun W (hb : Below w.heap.size w W) => cross_any W A B 24 c m d (xs.take 24) (bs) (Hx.out.at_w hb) (Hb.out.at_w hb) (by omega) (by omega) Ix.out Ib.out)
      have HD := hid (fun W (hb : Below w.heap.size w W) => refCross_any W A B 24 c m d (xs.take 24) (bs) (Hx.out.at_w hb) (Hb.out.at_w hb) (by omega) (by omega) Ix.out Ib.out)
      go_enter Tryd.func13, Tryd.ntmps13
      repeat' (first | (go_at_call 49; go_must ((with_reducible refine Calls.mono (HC.out _ (by (repeat' (first | (with_reducible exact Below.refl _ _) | (with_reducible assumption) | (with_reducible refine balloc ?_) | (with_reducible refine bdrew ?_) | (with_reducible refine bset ?_ (by (try dsimp only); omega)) | (with_reducible refine bvia ?_ (by assumption)))))) ?_); rintro _ w1 ⟨A1, c1, B1, d1, rfl, gA1, gB1, hb1⟩; dsimp only)) | (go_at_call 50; go_must ((with_reducible refine Calls.mono (HD.out _ (by (repeat' (first | (with_reducible exact Below.refl _ _) | (with_reducible assumption) | (with_reducible refine balloc ?_) | (with_reducible refine bdrew ?_) | (with_reducible refine bset ?_ (by (try dsimp only); omega)) | (with_reducible refine bvia ?_ (by assumption)))))) ?_); rintro _ w2 ⟨A2, c2, B2, d2, rfl, gA2, gB2, hb2⟩; have hA1 := (gA1.step hb2).row (S := fun _ => True) (fun _ _ _ => trivial); have hB1 := (gB1.step hb2).row (S := fun _ => True) (fun _ _ _ => trivial); have hA2 := gA2.row (S := fun _ => True) (fun _ _ _ => trivial); have hB2 := gB2.row (S := fun _ => True) (fun _ _ _ => trivial); dsimp only)) | (go_at_call 51; go_must (first | ((with_reducible refine Calls.mono (ops_eq A1 _ c1 A2 c2 _ _ _ _ hA1 hA2) ?_); rintro _ w3 ⟨rfl, hb3⟩; dsimp only) | ((with_reducible refine Calls.mono (ops_eq B1 _ d1 B2 d2 _ _ _ _ (hB1.step hb3) (hB2.step hb3)) ?_); rintro _ w4 ⟨rfl, hb4⟩; dsimp only))) | (with_reducible refine Keep.last ?_) | (with_reducible refine Keep.below (by assumption) ?_) | (with_reducible refine Keep.kept (by assumption) ?_) | (with_reducible refine Keep.alloc ?_) | (with_reducible refine Keep.same ?_) | ((with_reducible refine WpH.here ?_); first | (refine WpH.nil ?_; refine NoP.normal ?_) | (refine WpH.load (by rfl) (by rfl) (by go_simp; rfl) ?_; simp only [Act.put, List.setIfInBounds_toArray, List.set_cons_zero, List.set_cons_succ]) | (refine WpH.loadT (by rfl) (by rfl) (by go_simp; rfl) (by rintro _ _ ⟨⟩; exact ⟨_, _, _, _, _, _, by rfl, by assumption, by assumption⟩) ?_; simp only [Act.put, List.setIfInBounds_toArray, List.set_cons_zero, List.set_cons_succ]) | (refine WpH.pure (by rfl) (fun w_ => by go_simp; (try go_bits); rfl) ?_; simp only [Act.put, List.setIfInBounds_toArray, List.set_cons_zero, List.set_cons_succ]) | (refine WpH.wild1 (by rfl) (fun _ _ => ?_)) | (refine WpH.skip (by rfl) ?_; simp only [Act.put, List.setIfInBounds_toArray, List.set_cons_zero, List.set_cons_succ])) | go_values | go_skip | go_guarded | go_step | go_upon | go_back)
      have hb0 : Below w.heap.size w w4 := by (repeat' (first | (with_reducible exact Below.refl _ _) | (with_reducible assumption) | (with_reducible refine balloc ?_) | (with_reducible refine bdrew ?_) | (with_reducible refine bset ?_ (by (try dsimp only); omega)) | (with_reducible refine bvia ?_ (by assumption))))
      clear gA1 gB1 gA2 gB2 hA1 hB1 hA2 hB2
      go_loopw [9] (fun i wr => ∃ k : Nat, i = .int .i64 k ∧ k ≤ 24 ∧ Below w.heap.size w wr) (fun i _ => 24 - (intOf i).toNat)
      case atStart => exact ⟨0, rfl, Nat.zero_le _, hb0⟩
      case round =>
        obtain ⟨k, rfl, hk, hbr⟩ := hrel
        by_cases hlt : k < 24
        · obtain ⟨b, off, o, rfl, hSb, hbl, hok, hcell⟩ := (Hx.out.step hbr).at_ hlt
          have Hop := hid (fun w1 (hB : Below w.heap.size w w1) => op_cells Hx.out hlt hok hB)
          have hin := Ix.out o (List.mem_of_getElem? hok)
          obtain ⟨c0, c1, c2, c3, hbl, cs, u, z, hH⟩ := Hop.out wr.drew hbr.drew
          have HL := hid (fun W (hb : Below w.heap.size w W) => along_any o W B m d (bs) hin (Hb.out.at_w hb))
          have HR := hid (fun W (hb : Below w.heap.size w W) => refAlong_any o W B m d (bs) hin (Hb.out.at_w hb))
          simp only [Opn.agg] at HL HR
          clear hcell hok hin
          repeat' (first | ((with_reducible refine region_at 12 ?_); refine wp_region_orderT (fun b => b < w.heap.size) [(0, true, false), (1, true, false), (2, true, false), (3, true, false), (4, true, false), (6, true, false), (7, true, false), (8, true, false), (9, true, false), (10, true, false), (5, false, false), (11, false, false), (12, true, false)] (by kernel_rfl) (by kernel_rfl) (by kernel_rfl) rfl rfl ?_) | (go_at_call 53; go_must ((with_reducible refine Calls.mono (HL.out _ (by (repeat' (first | (with_reducible exact Below.refl _ _) | (with_reducible assumption) | (with_reducible refine balloc ?_) | (with_reducible refine bdrew ?_) | (with_reducible refine bset ?_ (by (try dsimp only); omega)) | (with_reducible refine bvia ?_ (by assumption)))))) ?_); rintro _ w5 ⟨rfl, hb⟩; have hk := belowKeep hb (fun b => b < w.heap.size); have hB : Below w.heap.size w w5 := (by (repeat' (first | (with_reducible exact Below.refl _ _) | (with_reducible assumption) | (with_reducible refine balloc ?_) | (with_reducible refine bdrew ?_) | (with_reducible refine bset ?_ (by (try dsimp only); omega)) | (with_reducible refine bvia ?_ (by assumption))))); obtain ⟨c0, c1, c2, c3, hbl, cs, u, z, hH⟩ := Hop.out w5 hB; dsimp only)) | (go_at_call 54; go_must ((with_reducible refine Calls.mono (HR.out _ (by (repeat' (first | (with_reducible exact Below.refl _ _) | (with_reducible assumption) | (with_reducible refine balloc ?_) | (with_reducible refine bdrew ?_) | (with_reducible refine bset ?_ (by (try dsimp only); omega)) | (with_reducible refine bvia ?_ (by assumption)))))) ?_); rintro _ w6 ⟨rfl, hb⟩; have hk := belowKeep hb (fun b => b < w.heap.size); dsimp only)) | (with_reducible refine Keep.last ?_) | (with_reducible refine Keep.below (by assumption) ?_) | (with_reducible refine Keep.kept (by assumption) ?_) | (with_reducible refine Keep.alloc ?_) | (with_reducible refine Keep.same ?_) | ((with_reducible refine WpH.here ?_); first | (refine WpH.nil ?_; refine NoP.normal ?_) | (refine WpH.load (by rfl) (by rfl) (by go_simp; rfl) ?_; simp only [Act.put, List.setIfInBounds_toArray, List.set_cons_zero, List.set_cons_succ]) | (refine WpH.loadT (by rfl) (by rfl) (by go_simp; rfl) (by rintro _ _ ⟨⟩; exact ⟨_, _, _, _, _, _, by rfl, by assumption, by assumption⟩) ?_; simp only [Act.put, List.setIfInBounds_toArray, List.set_cons_zero, List.set_cons_succ]) | (refine WpH.pure (by rfl) (fun w_ => by go_simp; (try go_bits); rfl) ?_; simp only [Act.put, List.setIfInBounds_toArray, List.set_cons_zero, List.set_cons_succ]) | (refine WpH.wild1 (by rfl) (fun _ _ => ?_)) | (refine WpH.skip (by rfl) ?_; simp only [Act.put, List.setIfInBounds_toArray, List.set_cons_zero, List.set_cons_succ])) | go_values | go_skip | go_guarded | go_step | go_upon | go_back)
          exact ⟨⟨k + 1, by go_num, by omega, by (repeat' (first | (with_reducible exact Below.refl _ _) | (with_reducible assumption) | (with_reducible refine balloc ?_) | (with_reducible refine bdrew ?_) | (with_reducible refine bset ?_ (by (try dsimp only); omega)) | (with_reducible refine bvia ?_ (by assumption))))⟩, by simp [intOf]; omega⟩
        · repeat' (first | (go_at_call 32; go_must ((with_reducible refine Calls.mono (HK.out _) ?_); rintro _ w1 ⟨rfl, hb1⟩; dsimp only)) | (with_reducible refine Keep.last ?_) | (with_reducible refine Keep.below (by assumption) ?_) | (with_reducible refine Keep.kept (by assumption) ?_) | (with_reducible refine Keep.alloc ?_) | (with_reducible refine Keep.same ?_) | ((with_reducible refine WpH.here ?_); first | (refine WpH.nil ?_; refine NoP.normal ?_) | (refine WpH.load (by rfl) (by rfl) (by go_simp; rfl) ?_; simp only [Act.put, List.setIfInBounds_toArray, List.set_cons_zero, List.set_cons_succ]) | (refine WpH.loadT (by rfl) (by rfl) (by go_simp; rfl) (by rintro _ _ ⟨⟩; exact ⟨_, _, _, _, _, _, by rfl, by assumption, by assumption⟩) ?_; simp only [Act.put, List.setIfInBounds_toArray, List.set_cons_zero, List.set_cons_succ]) | (refine WpH.pure (by rfl) (fun w_ => by go_simp; (try go_bits); rfl) ?_; simp only [Act.put, List.setIfInBounds_toArray, List.set_cons_zero, List.set_cons_succ]) | (refine WpH.wild1 (by rfl) (fun _ _ => ?_)) | (refine WpH.skip (by rfl) ?_; simp only [Act.put, List.setIfInBounds_toArray, List.set_cons_zero, List.set_cons_succ])) | go_values | go_skip | go_guarded | go_step | go_upon | go_back)
          all_goals
            go_ret
            exact ⟨rfl, hbr.trans (hb1.mono hbr.size)⟩
    · have Hx := hid (hx.take_ (i := 24) (by omega))
      have Hb := hid (hb.take_ (i := 24) (by omega))
      have Ix := hid (fun o (h : o ∈ xs.take 24) => ix o (List.mem_of_mem_take h))
      have Ib := hid (fun o (h : o ∈ bs.take 24) => ib o (List.mem_of_mem_take h))
      have h24 : 24 ≤ c := by omega
      have h24' : 24 ≤ d := by omega
      clear hx hb ix ib
      have hN24 : 24 ≤ 24 := by omega
      have hM24 : 24 ≤ 24 := by omega
      have hXl := Hx.out.1
      have hBl := Hb.out.1
      have HC := hid (fun W (hb : Below w.heap.size w W) => cross_any W A B 24 c 24 d (xs.take 24) (bs.take 24) (Hx.out.at_w hb) (Hb.out.at_w hb) (by omega) (by omega) Ix.out Ib.out)
      have HD := hid (fun W (hb : Below w.heap.size w W) => refCross_any W A B 24 c 24 d (xs.take 24) (bs.take 24) (Hx.out.at_w hb) (Hb.out.at_w hb) (by omega) (by omega) Ix.out Ib.out)
      go_enter Tryd.func13, Tryd.ntmps13
      repeat' (first | (go_at_call 49; go_must ((with_reducible refine Calls.mono (HC.out _ (by (repeat' (first | (with_reducible exact Below.refl _ _) | (with_reducible assumption) | (with_reducible refine balloc ?_) | (with_reducible refine bdrew ?_) | (with_reducible refine bset ?_ (by (try dsimp only); omega)) | (with_reducible refine bvia ?_ (by assumption)))))) ?_); rintro _ w1 ⟨A1, c1, B1, d1, rfl, gA1, gB1, hb1⟩; dsimp only)) | (go_at_call 50; go_must ((with_reducible refine Calls.mono (HD.out _ (by (repeat' (first | (with_reducible exact Below.refl _ _) | (with_reducible assumption) | (with_reducible refine balloc ?_) | (with_reducible refine bdrew ?_) | (with_reducible refine bset ?_ (by (try dsimp only); omega)) | (with_reducible refine bvia ?_ (by assumption)))))) ?_); rintro _ w2 ⟨A2, c2, B2, d2, rfl, gA2, gB2, hb2⟩; have hA1 := (gA1.step hb2).row (S := fun _ => True) (fun _ _ _ => trivial); have hB1 := (gB1.step hb2).row (S := fun _ => True) (fun _ _ _ => trivial); have hA2 := gA2.row (S := fun _ => True) (fun _ _ _ => trivial); have hB2 := gB2.row (S := fun _ => True) (fun _ _ _ => trivial); dsimp only)) | (go_at_call 51; go_must (first | ((with_reducible refine Calls.mono (ops_eq A1 _ c1 A2 c2 _ _ _ _ hA1 hA2) ?_); rintro _ w3 ⟨rfl, hb3⟩; dsimp only) | ((with_reducible refine Calls.mono (ops_eq B1 _ d1 B2 d2 _ _ _ _ (hB1.step hb3) (hB2.step hb3)) ?_); rintro _ w4 ⟨rfl, hb4⟩; dsimp only))) | (with_reducible refine Keep.last ?_) | (with_reducible refine Keep.below (by assumption) ?_) | (with_reducible refine Keep.kept (by assumption) ?_) | (with_reducible refine Keep.alloc ?_) | (with_reducible refine Keep.same ?_) | ((with_reducible refine WpH.here ?_); first | (refine WpH.nil ?_; refine NoP.normal ?_) | (refine WpH.load (by rfl) (by rfl) (by go_simp; rfl) ?_; simp only [Act.put, List.setIfInBounds_toArray, List.set_cons_zero, List.set_cons_succ]) | (refine WpH.loadT (by rfl) (by rfl) (by go_simp; rfl) (by rintro _ _ ⟨⟩; exact ⟨_, _, _, _, _, _, by rfl, by assumption, by assumption⟩) ?_; simp only [Act.put, List.setIfInBounds_toArray, List.set_cons_zero, List.set_cons_succ]) | (refine WpH.pure (by rfl) (fun w_ => by go_simp; (try go_bits); rfl) ?_; simp only [Act.put, List.setIfInBounds_toArray, List.set_cons_zero, List.set_cons_succ]) | (refine WpH.wild1 (by rfl) (fun _ _ => ?_)) | (refine WpH.skip (by rfl) ?_; simp only [Act.put, List.setIfInBounds_toArray, List.set_cons_zero, List.set_cons_succ])) | go_values | go_skip | go_guarded | go_step | go_upon | go_back)
      have hb0 : Below w.heap.size w w4 := by (repeat' (first | (with_reducible exact Below.refl _ _) | (with_reducible assumption) | (with_reducible refine balloc ?_) | (with_reducible refine bdrew ?_) | (with_reducible refine bset ?_ (by (try dsimp only); omega)) | (with_reducible refine bvia ?_ (by assumption))))
      clear gA1 gB1 gA2 gB2 hA1 hB1 hA2 hB2
      go_loopw [9] (fun i wr => ∃ k : Nat, i = .int .i64 k ∧ k ≤ 24 ∧ Below w.heap.size w wr) (fun i _ => 24 - (intOf i).toNat)
      case atStart => exact ⟨0, rfl, Nat.zero_le _, hb0⟩
      case round =>
        obtain ⟨k, rfl, hk, hbr⟩ := hrel
        by_cases hlt : k < 24
        · obtain ⟨b, off, o, rfl, hSb, hbl, hok, hcell⟩ := (Hx.out.step hbr).at_ hlt
          have Hop := hid (fun w1 (hB : Below w.heap.size w w1) => op_cells Hx.out hlt hok hB)
          have hin := Ix.out o (List.mem_of_getElem? hok)
          obtain ⟨c0, c1, c2, c3, hbl, cs, u, z, hH⟩ := Hop.out wr.drew hbr.drew
          have HL := hid (fun W (hb : Below w.heap.size w W) => along_any o W B 24 d (bs.take 24) hin (Hb.out.at_w hb))
          have HR := hid (fun W (hb : Below w.heap.size w W) => refAlong_any o W B 24 d (bs.take 24) hin (Hb.out.at_w hb))
          simp only [Opn.agg] at HL HR
          clear hcell hok hin
          repeat' (first | ((with_reducible refine region_at 12 ?_); refine wp_region_orderT (fun b => b < w.heap.size) [(0, true, false), (1, true, false), (2, true, false), (3, true, false), (4, true, false), (6, true, false), (7, true, false), (8, true, false), (9, true, false), (10, true, false), (5, false, false), (11, false, false), (12, true, false)] (by kernel_rfl) (by kernel_rfl) (by kernel_rfl) rfl rfl ?_) | (go_at_call 53; go_must ((with_reducible refine Calls.mono (HL.out _ (by (repeat' (first | (with_reducible exact Below.refl _ _) | (with_reducible assumption) | (with_reducible refine balloc ?_) | (with_reducible refine bdrew ?_) | (with_reducible refine bset ?_ (by (try dsimp only); omega)) | (with_reducible refine bvia ?_ (by assumption)))))) ?_); rintro _ w5 ⟨rfl, hb⟩; have hk := belowKeep hb (fun b => b < w.heap.size); have hB : Below w.heap.size w w5 := (by (repeat' (first | (with_reducible exact Below.refl _ _) | (with_reducible assumption) | (with_reducible refine balloc ?_) | (with_reducible refine bdrew ?_) | (with_reducible refine bset ?_ (by (try dsimp only); omega)) | (with_reducible refine bvia ?_ (by assumption))))); obtain ⟨c0, c1, c2, c3, hbl, cs, u, z, hH⟩ := Hop.out w5 hB; dsimp only)) | (go_at_call 54; go_must ((with_reducible refine Calls.mono (HR.out _ (by (repeat' (first | (with_reducible exact Below.refl _ _) | (with_reducible assumption) | (with_reducible refine balloc ?_) | (with_reducible refine bdrew ?_) | (with_reducible refine bset ?_ (by (try dsimp only); omega)) | (with_reducible refine bvia ?_ (by assumption)))))) ?_); rintro _ w6 ⟨rfl, hb⟩; have hk := belowKeep hb (fun b => b < w.heap.size); dsimp only)) | (with_reducible refine Keep.last ?_) | (with_reducible refine Keep.below (by assumption) ?_) | (with_reducible refine Keep.kept (by assumption) ?_) | (with_reducible refine Keep.alloc ?_) | (with_reducible refine Keep.same ?_) | ((with_reducible refine WpH.here ?_); first | (refine WpH.nil ?_; refine NoP.normal ?_) | (refine WpH.load (by rfl) (by rfl) (by go_simp; rfl) ?_; simp only [Act.put, List.setIfInBounds_toArray, List.set_cons_zero, List.set_cons_succ]) | (refine WpH.loadT (by rfl) (by rfl) (by go_simp; rfl) (by rintro _ _ ⟨⟩; exact ⟨_, _, _, _, _, _, by rfl, by assumption, by assumption⟩) ?_; simp only [Act.put, List.setIfInBounds_toArray, List.set_cons_zero, List.set_cons_succ]) | (refine WpH.pure (by rfl) (fun w_ => by go_simp; (try go_bits); rfl) ?_; simp only [Act.put, List.setIfInBounds_toArray, List.set_cons_zero, List.set_cons_succ]) | (refine WpH.wild1 (by rfl) (fun _ _ => ?_)) | (refine WpH.skip (by rfl) ?_; simp only [Act.put, List.setIfInBounds_toArray, List.set_cons_zero, List.set_cons_succ])) | go_values | go_skip | go_guarded | go_step | go_upon | go_back)
          exact ⟨⟨k + 1, by go_num, by omega, by (repeat' (first | (with_reducible exact Below.refl _ _) | (with_reducible assumption) | (with_reducible refine balloc ?_) | (with_reducible refine bdrew ?_) | (with_reducible refine bset ?_ (by (try dsimp only); omega)) | (with_reducible refine bvia ?_ (by assumption))))⟩, by simp [intOf]; omega⟩
        · repeat' (first | (go_at_call 32; go_must ((with_reducible refine Calls.mono (HK.out _) ?_); rintro _ w1 ⟨rfl, hb1⟩; dsimp only)) | (with_reducible refine Keep.last ?_) | (with_reducible refine Keep.below (by assumption) ?_) | (with_reducible refine Keep.kept (by assumption) ?_) | (with_reducible refine Keep.alloc ?_) | (with_reducible refine Keep.same ?_) | ((with_reducible refine WpH.here ?_); first | (refine WpH.nil ?_; refine NoP.normal ?_) | (refine WpH.load (by rfl) (by rfl) (by go_simp; rfl) ?_; simp only [Act.put, List.setIfInBounds_toArray, List.set_cons_zero, List.set_cons_succ]) | (refine WpH.loadT (by rfl) (by rfl) (by go_simp; rfl) (by rintro _ _ ⟨⟩; exact ⟨_, _, _, _, _, _, by rfl, by assumption, by assumption⟩) ?_; simp only [Act.put, List.setIfInBounds_toArray, List.set_cons_zero, List.set_cons_succ]) | (refine WpH.pure (by rfl) (fun w_ => by go_simp; (try go_bits); rfl) ?_; simp only [Act.put, List.setIfInBounds_toArray, List.set_cons_zero, List.set_cons_succ]) | (refine WpH.wild1 (by rfl) (fun _ _ => ?_)) | (refine WpH.skip (by rfl) ?_; simp only [Act.put, List.setIfInBounds_toArray, List.set_cons_zero, List.set_cons_succ])) | go_values | go_skip | go_guarded | go_step | go_upon | go_back)
          all_goals
            go_ret
            exact ⟨rfl, hbr.trans (hb1.mono hbr.size)⟩
set_option maxRecDepth 100000 in
theorem xl_contract (H : Type) (enc : TypeId × Value → H) (W : World) (base : Nat) (args : Array Value) (ds gs : List (DataW H)) (before : List MemPlace)
    (hval : ∀ (j : Nat) t v, Tryd.f13.params[j]? = some t → args[j]? = some v → Value.okWide Tryd.prog W .any base t v)
    (hW : DataW.Whole enc Tryd.prog Tryd.f13.params.toList Rows.xformListsSpec.vars false W args.toList ds gs before) (hL : laidMetH Tryd.prog Rows.xformListsRow.laid W) :
    Calls Tryd.prog 13 args W fun e W' => ∃ v, e = .returned v ∧ Rows.xformListsSpec.post enc Tryd.prog Tryd.f13 false true false false W args v W' := by
  have hW' := hW
  obtain ⟨p, q, hA0, hV, rfl, hfz, hnd⟩ := hW
  have hA : DataW.TrodAll enc Tryd.prog W 0 (fun _ => true) true Tryd.f13.params.toList args.toList ds p := hA0
  rw [Tryd.params13] at hA hval
  obtain ⟨rfl, rfl⟩ := trodVars_none hV
  obtain ⟨v0, v1, d0, d1, p0, p1, rfl, rfl, rfl, h0, h1⟩ := trodAll_two hA
  obtain ⟨A, n, c, xs, rfl, hr, hi⟩ := ops_of_trod (hval 0 56 v0 rfl rfl) h0
  obtain ⟨B, m, d, ys, rfl, hr', hi'⟩ := ops_of_trod (hval 1 56 v1 rfl rfl) h1
  refine (xl_true W A B n c m d xs ys hr hr' hi hi').mono fun e W' ⟨he, hb⟩ => ⟨_, he, ?_⟩
  refine law_post rfl (by kernel_rfl) ?_ hW' rfl rfl rfl hb
  intro t ht
  rw [Tryd.params13] at ht
  have hall : (([56, 56] : List TypeId).all fun u => Tryd.prog.readableRec u && decide (u < Tryd.prog.types.size)) = true := by kernel_rfl
  have := List.all_eq_true.1 hall t ht
  simpa using this
theorem xl_doorMet (os : Os) (args : Array Value) : laidMetH Tryd.prog Rows.xformListsRow.laid ((World.doorLaid Tryd.prog 275 os).forCall (fun _ _ => 0) ⟨#[], args, []⟩).memory :=
  laidMetH_of_parts3 (fuel := 8) (laidMet_of_run' 8 (by kernel_rfl) (by kernel_rfl)) (by kernel_rfl) (by kernel_rfl)
theorem xl_reads (os : Os) {H : Type} (enc : TypeId × Value → H) : ∃ places, DataW.whole enc Tryd.prog ((World.doorLaid Tryd.prog 275 os).forCall (fun _ _ => 0) ⟨#[], #[.slice none 0 0, .slice none 0 0], []⟩).memory Tryd.f13.params.toList Rows.xformListsSpec.vars false (#[.slice none 0 0, .slice none 0 0] : Array Value).toList 8 = some ([.nil, .nil], [], places) :=
  ⟨[], by kernel_rfl⟩
set_option maxRecDepth 100000 in
theorem xl_lifted (os : Os) (started : os.Started) (H : Type) (enc : TypeId × Value → H) (F : Stop.Interp) :
    ReturnsInHanded {} Tryd.checked os 13 .any ((OpenSpec.ofChange Rows.xformListsSpec).preRow enc Tryd.prog Tryd.f13 Rows.xformListsRow.domain false Rows.xformListsRow.laid) (((OpenSpec.ofChange Rows.xformListsSpec).at F).post enc Tryd.prog Tryd.f13 false true false false) := by
  obtain ⟨places, hx⟩ := xl_reads os enc
  refine returnsInHanded_of_row (C := Tryd.checked) (s := OpenSpec.ofChange Rows.xformListsSpec) own started (by kernel_rfl) Tryd.func13
    (witness_row_atRef (enc := enc) (C := Tryd.checked) false (World.doorLaid Tryd.prog 275 os) #[.slice none 0 0, .slice none 0 0] rfl (by kernel_rfl) (by kernel_rfl) (by kernel_rfl)
      (OpenSpec.preRow_of_cond 8 hx (by kernel_rfl) (fun k hk => by cases hk) (by kernel_rfl) (xl_doorMet os _))) ?_
  intro W base args ds gs before hval hW _ _ _ hL _ _
  exact xl_contract H enc W base args ds gs before hval hW hL
theorem xl_said : Rows.XformListsSaid :=
  OpenClaim.holds_of_cond 13 Tryd.f13 rfl rfl rfl rfl rfl rfl rfl ⟨rfl, rfl, rfl, rfl, rfl⟩ rfl rfl rfl rfl rfl (by kernel_rfl) Tryd.func13 (by kernel_rfl)
    (of_decide_eq_true (by kernel_rfl)) (by unfold Func.isWrapper; first | (rw [if_pos (by decide +kernel)]; kernel_rfl) | (rw [if_neg (by decide +kernel)]; exact ⟨rfl, rfl⟩))
    (fun os started H enc _ F => by rw [OpenClaim.pre_eq_preRow]; exact xl_lifted os started H enc F)
theorem xl_plain (f : FuncId) (fn : Func) (hf : Tryd.pinned.checked.prog.funcNamed "barrow/barrowlaw07.XformLists" = some f) (hfn : Tryd.pinned.checked.prog.funcs[f]? = some fn) :
    true = Tryd.pinned.checked.prog.looks [] ∧ ∀ (j : Nat) t, fn.params[j]? = some t → Tryd.pinned.checked.prog.wantsStandIn t = false := by
  obtain rfl : f = 13 := Option.some.inj ((show Tryd.prog.funcNamed "barrow/barrowlaw07.XformLists" = some 13 by kernel_rfl).symm.trans hf) |>.symm
  obtain rfl : fn = Tryd.f13 := (Option.some.inj (Tryd.func13.symm.trans hfn)).symm
  refine ⟨by kernel_rfl, fun j t ht => ?_⟩
  rw [Tryd.params13] at ht
  have hm : t ∈ ([56, 56] : List TypeId) := by simpa using Array.mem_of_getElem? ht
  have hall : (([56, 56] : List TypeId).all fun u => !Tryd.prog.wantsStandIn u) = true := by kernel_rfl
  exact (show Tryd.prog.wantsStandIn t = false by simpa using List.all_eq_true.1 hall t hm)
theorem xformLists_card : Rows.XformListsCardSaid :=
  Claim7.holds_tied_plain_at .later [] _ _ _ _ xl_said (fun _ h => by cases h) (by kernel_rfl) (fun _ h => by cases h) xformLists_row_tie rfl ⟨rfl, rfl⟩ (by kernel_rfl) rfl xl_plain (by kernel_rfl)
#print axioms xformLists_card
end Go.Proofs.YtogkbddniacgiaaDoor
