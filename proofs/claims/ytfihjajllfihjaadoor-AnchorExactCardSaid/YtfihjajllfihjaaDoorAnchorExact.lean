/- barrowlaw13.AnchorExact: the walk: it returns true. Conditions: the rows and the reasons lie in memory, the elements, gaps and anchors fit their kinds. -/
import Derived.Test.YtfihjajllfihjaaDoorAnchor
import Derived.Test.YtfihjajllfihjaaDoorRef13
import Derived.Test.YtfihjajllfihjaaDoorOpen13
namespace Go.Proofs.YtfihjajllfihjaaDoor
set_option linter.unusedSimpArgs false
set_option linter.unusedVariables false
open Go Go.RowKit
variable {a : Nat → Addr}
set_option maxRecDepth 100000 in
set_option maxHeartbeats 8000000 in
theorem aexact_true (w : World) (A G H : Option Addr) (n c m d q r : Nat) (ls : List El) (gs : List Int) (as_ : List Anc) (S S' : Nat → Prop) (hr : Row w S A n c ls) (hin : ∀ e ∈ ls, e.In) (hg : GRow w S G m d gs) (hgi : ∀ e ∈ gs, I64 e) (ha : GRow w S H q r as_) (hai : ∀ e ∈ as_, e.id.In) (hs : Sents w S' a) :
    Calls Tryd.prog 8 #[.slice A n c, .slice G m d, .slice H q r] w fun e w' => e = .returned (.bool true) ∧ Below w.heap.size w w' := by
  have HB := hid (begun13_any w A n c ls S hr hin)
  have Hs := hid hs
  have Hg := hid hg
  have Ha := hid ha
  have Hgi := hid hgi
  have Hai := hid hai
  have hml := hg.1
  have hql := ha.1
  have hmm := hg.len_le
  have hqq := ha.len_le
  unfold maxLen at hmm hqq
  clear hr hin hs hg hgi ha hai
  go_enter Tryd.func8, Tryd.ntmps8
  repeat' (first | (go_at_call 30; go_must ((with_reducible refine Calls.mono HB.out ?_); rintro _ w1 ⟨⟨mb, A1, c1_, X, n1, -, rfl, hM, hrow, hn1, hR, h80, hXin⟩, hb1⟩; dsimp only)) | (with_reducible refine Keep.last ?_) | (with_reducible refine Keep.below (by assumption) ?_) | (with_reducible refine Keep.kept (by assumption) ?_) | (with_reducible refine Keep.alloc ?_) | (with_reducible refine Keep.same ?_) | ((with_reducible refine WpH.here ?_); first | (refine WpH.nil ?_; refine NoP.normal ?_) | (refine WpH.load (by rfl) (by rfl) (by go_simp; rfl) ?_; simp only [Act.put, List.setIfInBounds_toArray, List.set_cons_zero, List.set_cons_succ]) | (refine WpH.loadT (by rfl) (by rfl) (by go_simp; rfl) (by rintro _ _ ⟨⟩; exact ⟨_, _, _, _, _, _, by rfl, by assumption, by assumption⟩) ?_; simp only [Act.put, List.setIfInBounds_toArray, List.set_cons_zero, List.set_cons_succ]) | (refine WpH.pure (by rfl) (fun w_ => by go_simp; (try go_bits); rfl) ?_; simp only [Act.put, List.setIfInBounds_toArray, List.set_cons_zero, List.set_cons_succ]) | (refine WpH.wild1 (by rfl) (fun _ _ => ?_)) | (refine WpH.skip (by rfl) ?_; simp only [Act.put, List.setIfInBounds_toArray, List.set_cons_zero, List.set_cons_succ])) | go_values | go_skip | go_guarded | go_step | go_upon | go_back)
  have hll := liveOf_le X
  have HM := hid (And.intro hM hrow)
  clear HB hR hXin hM hrow
  go_loopw [9] (fun i wr => ∃ k : Nat, i = .int .i64 k ∧ k ≤ m ∧ k ≤ 60 ∧ Below w1.heap.size w1 wr) (fun i _ => m - (intOf i).toNat)
  case atStart => exact ⟨0, rfl, Nat.zero_le _, Nat.zero_le _, Below.refl _ _⟩
  case round =>
    obtain ⟨k, rfl, hk, hk6, hbr⟩ := hrel
    by_cases hlt : k < m ∧ k < 60
    · obtain ⟨hlt1, hlt2⟩ := hlt
      obtain ⟨b, off, g, rfl, hSb, hbl, hgk, hcell⟩ := ((Hg.out.step hb1).step hbr).at_ hlt1
      have c0 : wr.cell? ⟨b, off + k * 1 + 0, none⟩ = some (.int .i64 g) := hcell 0 _ rfl
      rw [Nat.add_zero, Nat.mul_one] at c0
      have hcap := Hg.out.2.1
      have hkm : (k : Int) < m := by omega
      clear hcell
      by_cases hgo : 0 ≤ g ∧ g ≤ liveOf X
      · obtain ⟨p, rfl⟩ : ∃ p : Nat, g = p := ⟨g.toNat, by omega⟩
        have hp : p ≤ liveOf X := by omega
        have HA := hid (aat_ok wr _ mb X _ p (HM.out.1.step hbr) (by omega) hp)
        have HR := hid (fun W (hb : Below w1.heap.size w1 W) => r13at_ok A1 X.length c1_ p X _ W (HM.out.2.step hb) (by omega) hp)
        generalize gapOf X p = g at *
        have HF := hid refused_none
        unfold noNone at HF
        clear hgo hp hgk
        repeat' (first | (go_at_call 32; go_must ((with_reducible refine Calls.mono HA.out ?_); rintro _ w2 ⟨rfl, hb2⟩; have e2 := balloc (o := .cells #[.bool g.front, .int .i64 g.id.epoch, .int .i64 g.id.rep, .int .i64 g.id.num] 57) (Below.refl _ w2); have hX := Blk.new w2 57 #[.bool g.front, .int .i64 g.id.epoch, .int .i64 g.id.rep, .int .i64 g.id.num]; have B2 := bvia (bvia hbr hb2) e2; have c0 := kc (bvia hb2 e2) c0; have hbl := Nat.lt_of_lt_of_le hbl (bvia hb2 e2).size; dsimp only)) | (go_at_call 41; go_must ((with_reducible refine Calls.mono (HR.out _ B2) ?_); rintro _ w3 ⟨rfl, hb3⟩; dsimp only)) | (with_reducible refine stop_region 9 ?_) | (with_reducible refine Keep.last ?_) | (with_reducible refine Keep.below (by assumption) ?_) | (with_reducible refine Keep.kept (by assumption) ?_) | (with_reducible refine Keep.alloc ?_) | (with_reducible refine Keep.same ?_) | ((with_reducible refine WpH.here ?_); first | (refine WpH.nil ?_; refine NoP.normal ?_) | (refine WpH.load (by rfl) (by rfl) (by go_simp; rfl) ?_; simp only [Act.put, List.setIfInBounds_toArray, List.set_cons_zero, List.set_cons_succ]) | (refine WpH.loadT (by rfl) (by rfl) (by go_simp; rfl) (by rintro _ _ ⟨⟩; exact ⟨_, _, _, _, _, _, by rfl, by assumption, by assumption⟩) ?_; simp only [Act.put, List.setIfInBounds_toArray, List.set_cons_zero, List.set_cons_succ]) | (refine WpH.pure (by rfl) (fun w_ => by go_simp; (try go_bits); rfl) ?_; simp only [Act.put, List.setIfInBounds_toArray, List.set_cons_zero, List.set_cons_succ]) | (refine WpH.wild1 (by rfl) (fun _ _ => ?_)) | (refine WpH.skip (by rfl) ?_; simp only [Act.put, List.setIfInBounds_toArray, List.set_cons_zero, List.set_cons_succ])) | go_values | go_skip | go_guarded | go_step | go_upon | go_back)
        refine Stop.go ?_
        obtain ⟨hY, hN, hb⟩ := boxes2 w3 57 75 #[.bool g.front, .int .i64 g.id.epoch, .int .i64 g.id.rep, .int .i64 g.id.num] #[.int .i64 0, .slice none 0 0, .slice none 0 0]
        have hX3 := ((hX.step hb3).step hb)
        have B3 := bvia (bvia B2 hb3) hb
        have x0 := hX3.cell 0
        have x1 := hX3.cell 1
        have x2 := hX3.cell 2
        have x3 := hX3.cell 3
        have xl := hX3.lt
        simp at x0 x1 x2 x3
        have y0 := hY.cell 0
        have y1 := hY.cell 1
        have y2 := hY.cell 2
        have y3 := hY.cell 3
        have yl := hY.lt
        simp at y0 y1 y2 y3
        have z0 := hN.cell 0
        have z1 := hN.cell 1
        have z2 := hN.cell 2
        have zl := hN.lt
        simp at z0 z1 z2
        repeat' (first | (go_at_call 42; go_must ((with_reducible refine Calls.mono (HF.out _) ?_); rintro _ w5 ⟨rfl, hb5⟩; dsimp only)) | (with_reducible refine Keep.last ?_) | (with_reducible refine Keep.below (by assumption) ?_) | (with_reducible refine Keep.kept (by assumption) ?_) | (with_reducible refine Keep.alloc ?_) | (with_reducible refine Keep.same ?_) | ((with_reducible refine WpH.here ?_); first | (refine WpH.nil ?_; refine NoP.normal ?_) | (refine WpH.load (by rfl) (by rfl) (by go_simp; rfl) ?_; simp only [Act.put, List.setIfInBounds_toArray, List.set_cons_zero, List.set_cons_succ]) | (refine WpH.loadT (by rfl) (by rfl) (by go_simp; rfl) (by rintro _ _ ⟨⟩; exact ⟨_, _, _, _, _, _, by rfl, by assumption, by assumption⟩) ?_; simp only [Act.put, List.setIfInBounds_toArray, List.set_cons_zero, List.set_cons_succ]) | (refine WpH.pure (by rfl) (fun w_ => by go_simp; (try go_bits); rfl) ?_; simp only [Act.put, List.setIfInBounds_toArray, List.set_cons_zero, List.set_cons_succ]) | (refine WpH.wild1 (by rfl) (fun _ _ => ?_)) | (refine WpH.skip (by rfl) ?_; simp only [Act.put, List.setIfInBounds_toArray, List.set_cons_zero, List.set_cons_succ])) | go_values | go_skip | go_guarded | go_step | go_upon | go_back)
        skip
        go_roundw
        case rel => exact ⟨k + 1, by go_num, by omega, by omega, bvia B3 hb5⟩
        case measure => simp [intOf]; omega
      · have hgn : g < 0 ∨ (liveOf X : Int) < g := by omega
        have HA := hid (aat_no wr _ _ mb X _ g (HM.out.1.step hbr) (by omega) hgn ((Hs.out.step hb1).step hbr))
        have HR := hid (fun W (hb : Below w1.heap.size w1 W) => r13at_no A1 X.length c1_ g X _ (fun _ => False) W (HM.out.2.step hb) (by omega) hgn)
        have HF := hid (fun W e v (he : IsErr W (fun _ => True) a [⟨({ data := #[97, 110, 99, 104, 111, 114] } : ByteArray), ({ data := #[65, 116] } : ByteArray), atOf g⟩] 2 e) (hno : IsNo W (fun _ => True) [⟨({ data := #[97, 110, 99, 104, 111, 114] } : ByteArray), ({ data := #[65, 116] } : ByteArray), atOf g⟩] 2 v) (hs : Sents W (fun _ => True) a) => refused_any (a := a) _ 2 e v _ _ W he hno hs (by simp))
        clear hgo hgn hgk
        repeat' (first | (go_at_call 32; go_must ((with_reducible refine Calls.mono HA.out ?_); rintro _ w2 ⟨v2, rfl, he2, hb2⟩; obtain ⟨tv, xv, rfl⟩ := he2.notNil; have e2 := balloc (o := .cells #[.bool false, .int .i64 0, .int .i64 0, .int .i64 0] 57) (Below.refl _ w2); have hX := Blk.new w2 57 #[.bool false, .int .i64 0, .int .i64 0, .int .i64 0]; have B2 := bvia (bvia hbr hb2) e2; have c0 := kc (bvia hb2 e2) c0; have hbl := Nat.lt_of_lt_of_le hbl (bvia hb2 e2).size; have He := hid (he2.step e2); clear he2; dsimp only)) | (go_at_call 41; go_must ((with_reducible refine Calls.mono (HR.out _ B2) ?_); rintro _ w3 ⟨v3, rfl, hno, hb3⟩; have HNo := hid hno; obtain ⟨-, B, m2, d2, C, q2, rfl, -, -⟩ := hno; dsimp only)) | (with_reducible refine stop_region 9 ?_) | (with_reducible refine Keep.last ?_) | (with_reducible refine Keep.below (by assumption) ?_) | (with_reducible refine Keep.kept (by assumption) ?_) | (with_reducible refine Keep.alloc ?_) | (with_reducible refine Keep.same ?_) | ((with_reducible refine WpH.here ?_); first | (refine WpH.nil ?_; refine NoP.normal ?_) | (refine WpH.load (by rfl) (by rfl) (by go_simp; rfl) ?_; simp only [Act.put, List.setIfInBounds_toArray, List.set_cons_zero, List.set_cons_succ]) | (refine WpH.loadT (by rfl) (by rfl) (by go_simp; rfl) (by rintro _ _ ⟨⟩; exact ⟨_, _, _, _, _, _, by rfl, by assumption, by assumption⟩) ?_; simp only [Act.put, List.setIfInBounds_toArray, List.set_cons_zero, List.set_cons_succ]) | (refine WpH.pure (by rfl) (fun w_ => by go_simp; (try go_bits); rfl) ?_; simp only [Act.put, List.setIfInBounds_toArray, List.set_cons_zero, List.set_cons_succ]) | (refine WpH.wild1 (by rfl) (fun _ _ => ?_)) | (refine WpH.skip (by rfl) ?_; simp only [Act.put, List.setIfInBounds_toArray, List.set_cons_zero, List.set_cons_succ])) | go_values | go_skip | go_guarded | go_step | go_upon | go_back)
        refine Stop.go ?_
        obtain ⟨hY, hN, hb⟩ := boxes2 w3 57 75 #[.bool false, .int .i64 0, .int .i64 0, .int .i64 0] #[.int .i64 2, .slice B m2 d2, .slice C 1 q2]
        have hX3 := ((hX.step hb3).step hb)
        have B3 := bvia (bvia B2 hb3) hb
        have x0 := hX3.cell 0
        have x1 := hX3.cell 1
        have x2 := hX3.cell 2
        have x3 := hX3.cell 3
        have xl := hX3.lt
        simp at x0 x1 x2 x3
        have y0 := hY.cell 0
        have y1 := hY.cell 1
        have y2 := hY.cell 2
        have y3 := hY.cell 3
        have yl := hY.lt
        simp at y0 y1 y2 y3
        have z0 := hN.cell 0
        have z1 := hN.cell 1
        have z2 := hN.cell 2
        have zl := hN.lt
        simp at z0 z1 z2
        have HF2 := hid (HF.out _ _ _ (((He.out.step hb3).step hb).more (fun _ _ _ => trivial)) (HNo.out.re hb.size (Same.of_below hb) (fun _ _ => trivial)) ((((Hs.out.step hb1).step B3)).wide))
        rw [show ((2 : Nat) : Int) = 2 from rfl] at HF2
        repeat' (first | (go_at_call 42; go_must ((with_reducible refine Calls.mono HF2.out ?_); rintro _ w5 ⟨rfl, hb5⟩; dsimp only)) | (with_reducible refine Keep.last ?_) | (with_reducible refine Keep.below (by assumption) ?_) | (with_reducible refine Keep.kept (by assumption) ?_) | (with_reducible refine Keep.alloc ?_) | (with_reducible refine Keep.same ?_) | ((with_reducible refine WpH.here ?_); first | (refine WpH.nil ?_; refine NoP.normal ?_) | (refine WpH.load (by rfl) (by rfl) (by go_simp; rfl) ?_; simp only [Act.put, List.setIfInBounds_toArray, List.set_cons_zero, List.set_cons_succ]) | (refine WpH.loadT (by rfl) (by rfl) (by go_simp; rfl) (by rintro _ _ ⟨⟩; exact ⟨_, _, _, _, _, _, by rfl, by assumption, by assumption⟩) ?_; simp only [Act.put, List.setIfInBounds_toArray, List.set_cons_zero, List.set_cons_succ]) | (refine WpH.pure (by rfl) (fun w_ => by go_simp; (try go_bits); rfl) ?_; simp only [Act.put, List.setIfInBounds_toArray, List.set_cons_zero, List.set_cons_succ]) | (refine WpH.wild1 (by rfl) (fun _ _ => ?_)) | (refine WpH.skip (by rfl) ?_; simp only [Act.put, List.setIfInBounds_toArray, List.set_cons_zero, List.set_cons_succ])) | go_values | go_skip | go_guarded | go_step | go_upon | go_back)
        skip
        go_roundw
        case rel => exact ⟨k + 1, by go_num, by omega, by omega, bvia B3 hb5⟩
        case measure => simp [intOf]; omega
    · by_cases hlt1 : k < m
      · have hk60 : ¬ (k : Int) < 60 := by omega
        have hkm : (k : Int) < m := by omega
        clear hlt
        repeat' (first | (with_reducible refine Keep.last ?_) | (with_reducible refine Keep.below (by assumption) ?_) | (with_reducible refine Keep.kept (by assumption) ?_) | (with_reducible refine Keep.alloc ?_) | (with_reducible refine Keep.same ?_) | ((with_reducible refine WpH.here ?_); first | (refine WpH.nil ?_; refine NoP.normal ?_) | (refine WpH.load (by rfl) (by rfl) (by go_simp; rfl) ?_; simp only [Act.put, List.setIfInBounds_toArray, List.set_cons_zero, List.set_cons_succ]) | (refine WpH.loadT (by rfl) (by rfl) (by go_simp; rfl) (by rintro _ _ ⟨⟩; exact ⟨_, _, _, _, _, _, by rfl, by assumption, by assumption⟩) ?_; simp only [Act.put, List.setIfInBounds_toArray, List.set_cons_zero, List.set_cons_succ]) | (refine WpH.pure (by rfl) (fun w_ => by go_simp; (try go_bits); rfl) ?_; simp only [Act.put, List.setIfInBounds_toArray, List.set_cons_zero, List.set_cons_succ]) | (refine WpH.wild1 (by rfl) (fun _ _ => ?_)) | (refine WpH.skip (by rfl) ?_; simp only [Act.put, List.setIfInBounds_toArray, List.set_cons_zero, List.set_cons_succ])) | go_values | go_skip | go_guarded | go_step | go_upon | go_back)
        have hcq := Ha.out.2.1
        go_loopw [14] (fun i wr => ∃ k : Nat, i = .int .i64 k ∧ k ≤ q ∧ k ≤ 60 ∧ Below w1.heap.size w1 wr) (fun i _ => q - (intOf i).toNat)
        case atStart => exact ⟨0, rfl, Nat.zero_le _, Nat.zero_le _, hbr⟩
        case round =>
          clear hbr
          obtain ⟨k, rfl, hk, hk6, hbr⟩ := hrel
          by_cases hlt : k < q ∧ k < 60
          · obtain ⟨hlt1, hlt2⟩ := hlt
            obtain ⟨b, off, x, rfl, hSb, hbl, hxk, hcell⟩ := ((Ha.out.step hb1).step hbr).at_ hlt1
            have c0 : wr.cell? ⟨b, off + k * 4, none⟩ = some (.bool x.front) := hcell 0 _ rfl
            have c1 : wr.cell? ⟨b, off + k * 4 + 1, none⟩ = some (.int .i64 x.id.epoch) := hcell 1 _ rfl
            have c2 : wr.cell? ⟨b, off + k * 4 + 2, none⟩ = some (.int .i64 x.id.rep) := hcell 2 _ rfl
            have c3 : wr.cell? ⟨b, off + k * 4 + 3, none⟩ = some (.int .i64 x.id.num) := hcell 3 _ rfl
            have hkm : (k : Int) < q := by omega
            have hxin := Hai.out x (List.mem_of_getElem? hxk)
            have HW := hid (awhere_any wr _ mb X _ x (HM.out.1.step hbr) (by omega) hxin)
            have HW2 := hid (fun W (hb : Below w1.heap.size w1 W) => r13where_any A1 X.length c1_ X _ W x (HM.out.2.step hb) (by omega))
            have HB := hid (fun W (hb : Below w1.heap.size w1 W) => arebase_any W _ mb X _ x (HM.out.1.step hb) (by omega) hxin)
            have HB2 := hid (fun W (hb : Below w1.heap.size w1 W) => r13rebase_any A1 X.length c1_ X _ W x (HM.out.2.step hb) (by omega))
            generalize whereOf X x = wo at *
            generalize rebaseOf X x = ro at *
            obtain ⟨ro, rb⟩ := ro
            dsimp only at HB HB2
            clear hcell hxk hxin
            repeat' (first | (go_at_call 33; go_must ((with_reducible refine Calls.mono HW.out ?_); rintro _ w2 ⟨rfl, hb2⟩; have B2 := bvia hbr hb2; have c0 := kc (hb2) c0; have c1 := kc (hb2) c1; have c2 := kc (hb2) c2; have c3 := kc (hb2) c3; have hbl := Nat.lt_of_lt_of_le hbl (hb2).size; dsimp only)) | (go_at_call 43; go_must ((with_reducible refine Calls.mono (HW2.out _ B2) ?_); rintro _ w3 ⟨rfl, hb3⟩; have B3 := bvia B2 hb3; have c0 := kc (hb3) c0; have c1 := kc (hb3) c1; have c2 := kc (hb3) c2; have c3 := kc (hb3) c3; have hbl := Nat.lt_of_lt_of_le hbl (hb3).size; dsimp only)) | (go_at_call 44; go_must ((with_reducible refine Calls.mono (HB.out _ B3) ?_); rintro _ w4 ⟨rfl, hb4⟩; have e4 := balloc (o := .cells #[.bool ro.front, .int .i64 ro.id.epoch, .int .i64 ro.id.rep, .int .i64 ro.id.num] 57) (Below.refl _ w4); have hX := Blk.new w4 57 #[.bool ro.front, .int .i64 ro.id.epoch, .int .i64 ro.id.rep, .int .i64 ro.id.num]; have B4 := bvia (bvia B3 hb4) e4; have c0 := kc (bvia hb4 e4) c0; have c1 := kc (bvia hb4 e4) c1; have c2 := kc (bvia hb4 e4) c2; have c3 := kc (bvia hb4 e4) c3; have hbl := Nat.lt_of_lt_of_le hbl (bvia hb4 e4).size; dsimp only)) | (go_at_call 45; go_must ((with_reducible refine Calls.mono (HB2.out _ B4) ?_); rintro _ w5 ⟨rfl, hb5⟩; have e5 := balloc (o := .cells #[.bool ro.front, .int .i64 ro.id.epoch, .int .i64 ro.id.rep, .int .i64 ro.id.num] 57) (Below.refl _ w5); have hX5 := (hX.step hb5).step e5; have hY5 := Blk.new w5 57 #[.bool ro.front, .int .i64 ro.id.epoch, .int .i64 ro.id.rep, .int .i64 ro.id.num]; have B5 := bvia (bvia B4 hb5) e5; have x0 := hX5.cell 0; have x1 := hX5.cell 1; have x2 := hX5.cell 2; have x3 := hX5.cell 3; have xl := hX5.lt; have y0 := hY5.cell 0; have y1 := hY5.cell 1; have y2 := hY5.cell 2; have y3 := hY5.cell 3; have yl := hY5.lt; simp at x0 x1 x2 x3 y0 y1 y2 y3; dsimp only)) | (with_reducible refine Keep.last ?_) | (with_reducible refine Keep.below (by assumption) ?_) | (with_reducible refine Keep.kept (by assumption) ?_) | (with_reducible refine Keep.alloc ?_) | (with_reducible refine Keep.same ?_) | ((with_reducible refine WpH.here ?_); first | (refine WpH.nil ?_; refine NoP.normal ?_) | (refine WpH.load (by rfl) (by rfl) (by go_simp; rfl) ?_; simp only [Act.put, List.setIfInBounds_toArray, List.set_cons_zero, List.set_cons_succ]) | (refine WpH.loadT (by rfl) (by rfl) (by go_simp; rfl) (by rintro _ _ ⟨⟩; exact ⟨_, _, _, _, _, _, by rfl, by assumption, by assumption⟩) ?_; simp only [Act.put, List.setIfInBounds_toArray, List.set_cons_zero, List.set_cons_succ]) | (refine WpH.pure (by rfl) (fun w_ => by go_simp; (try go_bits); rfl) ?_; simp only [Act.put, List.setIfInBounds_toArray, List.set_cons_zero, List.set_cons_succ]) | (refine WpH.wild1 (by rfl) (fun _ _ => ?_)) | (refine WpH.skip (by rfl) ?_; simp only [Act.put, List.setIfInBounds_toArray, List.set_cons_zero, List.set_cons_succ])) | go_values | go_skip | go_guarded | go_step | go_upon | go_back)
            skip
            go_roundw
            case rel => exact ⟨k + 1, by go_num, by omega, by omega, B5⟩
            case measure => simp [intOf]; omega
          · have HE := hid (melements_any wr _ mb X _ (HM.out.1.step hbr) (by omega))
            have HK := hid (fun W (hb : Below w1.heap.size w1 W) => wakes13_any W _ ((Hs.out.step hb1).step hb))
            by_cases hlt1 : k < q
            · have hk60 : ¬ (k : Int) < 60 := by omega
              have hkm : (k : Int) < q := by omega
              clear hlt
              repeat' (first | (go_at_call 23; go_must ((with_reducible refine Calls.mono HE.out ?_); rintro _ w2 ⟨A2, c2, rfl, hO2, hb2⟩; have B2 := bvia hbr hb2; have HEl := hid (els_eq A2 _ c2 A1 c1_ X _ _ w2 (hO2.row (S := fun _ => True) fun _ _ _ => trivial) (HM.out.2.step B2)); dsimp only)) | (go_at_call 22; go_must ((with_reducible refine Calls.mono HEl.out ?_); rintro _ w3 ⟨rfl, hb3⟩; have B3 := bvia B2 hb3; dsimp only)) | (go_at_call 34; go_must ((with_reducible refine Calls.mono (HK.out _ B3) ?_); rintro _ w4 ⟨rfl, hb4⟩; dsimp only)) | (with_reducible refine Keep.last ?_) | (with_reducible refine Keep.below (by assumption) ?_) | (with_reducible refine Keep.kept (by assumption) ?_) | (with_reducible refine Keep.alloc ?_) | (with_reducible refine Keep.same ?_) | ((with_reducible refine WpH.here ?_); first | (refine WpH.nil ?_; refine NoP.normal ?_) | (refine WpH.load (by rfl) (by rfl) (by go_simp; rfl) ?_; simp only [Act.put, List.setIfInBounds_toArray, List.set_cons_zero, List.set_cons_succ]) | (refine WpH.loadT (by rfl) (by rfl) (by go_simp; rfl) (by rintro _ _ ⟨⟩; exact ⟨_, _, _, _, _, _, by rfl, by assumption, by assumption⟩) ?_; simp only [Act.put, List.setIfInBounds_toArray, List.set_cons_zero, List.set_cons_succ]) | (refine WpH.pure (by rfl) (fun w_ => by go_simp; (try go_bits); rfl) ?_; simp only [Act.put, List.setIfInBounds_toArray, List.set_cons_zero, List.set_cons_succ]) | (refine WpH.wild1 (by rfl) (fun _ _ => ?_)) | (refine WpH.skip (by rfl) ?_; simp only [Act.put, List.setIfInBounds_toArray, List.set_cons_zero, List.set_cons_succ])) | go_values | go_skip | go_guarded | go_step | go_upon | go_back)
              go_ret
              exact ⟨rfl, bvia (bvia hb1 B3) hb4⟩
            · obtain rfl : k = q := by omega
              clear hlt
              repeat' (first | (go_at_call 23; go_must ((with_reducible refine Calls.mono HE.out ?_); rintro _ w2 ⟨A2, c2, rfl, hO2, hb2⟩; have B2 := bvia hbr hb2; have HEl := hid (els_eq A2 _ c2 A1 c1_ X _ _ w2 (hO2.row (S := fun _ => True) fun _ _ _ => trivial) (HM.out.2.step B2)); dsimp only)) | (go_at_call 22; go_must ((with_reducible refine Calls.mono HEl.out ?_); rintro _ w3 ⟨rfl, hb3⟩; have B3 := bvia B2 hb3; dsimp only)) | (go_at_call 34; go_must ((with_reducible refine Calls.mono (HK.out _ B3) ?_); rintro _ w4 ⟨rfl, hb4⟩; dsimp only)) | (with_reducible refine Keep.last ?_) | (with_reducible refine Keep.below (by assumption) ?_) | (with_reducible refine Keep.kept (by assumption) ?_) | (with_reducible refine Keep.alloc ?_) | (with_reducible refine Keep.same ?_) | ((with_reducible refine WpH.here ?_); first | (refine WpH.nil ?_; refine NoP.normal ?_) | (refine WpH.load (by rfl) (by rfl) (by go_simp; rfl) ?_; simp only [Act.put, List.setIfInBounds_toArray, List.set_cons_zero, List.set_cons_succ]) | (refine WpH.loadT (by rfl) (by rfl) (by go_simp; rfl) (by rintro _ _ ⟨⟩; exact ⟨_, _, _, _, _, _, by rfl, by assumption, by assumption⟩) ?_; simp only [Act.put, List.setIfInBounds_toArray, List.set_cons_zero, List.set_cons_succ]) | (refine WpH.pure (by rfl) (fun w_ => by go_simp; (try go_bits); rfl) ?_; simp only [Act.put, List.setIfInBounds_toArray, List.set_cons_zero, List.set_cons_succ]) | (refine WpH.wild1 (by rfl) (fun _ _ => ?_)) | (refine WpH.skip (by rfl) ?_; simp only [Act.put, List.setIfInBounds_toArray, List.set_cons_zero, List.set_cons_succ])) | go_values | go_skip | go_guarded | go_step | go_upon | go_back)
              go_ret
              exact ⟨rfl, bvia (bvia hb1 B3) hb4⟩
      · obtain rfl : k = m := by omega
        clear hlt
        repeat' (first | (with_reducible refine Keep.last ?_) | (with_reducible refine Keep.below (by assumption) ?_) | (with_reducible refine Keep.kept (by assumption) ?_) | (with_reducible refine Keep.alloc ?_) | (with_reducible refine Keep.same ?_) | ((with_reducible refine WpH.here ?_); first | (refine WpH.nil ?_; refine NoP.normal ?_) | (refine WpH.load (by rfl) (by rfl) (by go_simp; rfl) ?_; simp only [Act.put, List.setIfInBounds_toArray, List.set_cons_zero, List.set_cons_succ]) | (refine WpH.loadT (by rfl) (by rfl) (by go_simp; rfl) (by rintro _ _ ⟨⟩; exact ⟨_, _, _, _, _, _, by rfl, by assumption, by assumption⟩) ?_; simp only [Act.put, List.setIfInBounds_toArray, List.set_cons_zero, List.set_cons_succ]) | (refine WpH.pure (by rfl) (fun w_ => by go_simp; (try go_bits); rfl) ?_; simp only [Act.put, List.setIfInBounds_toArray, List.set_cons_zero, List.set_cons_succ]) | (refine WpH.wild1 (by rfl) (fun _ _ => ?_)) | (refine WpH.skip (by rfl) ?_; simp only [Act.put, List.setIfInBounds_toArray, List.set_cons_zero, List.set_cons_succ])) | go_values | go_skip | go_guarded | go_step | go_upon | go_back)
        have hcq := Ha.out.2.1
        go_loopw [14] (fun i wr => ∃ k : Nat, i = .int .i64 k ∧ k ≤ q ∧ k ≤ 60 ∧ Below w1.heap.size w1 wr) (fun i _ => q - (intOf i).toNat)
        case atStart => exact ⟨0, rfl, Nat.zero_le _, Nat.zero_le _, hbr⟩
        case round =>
          clear hbr
          obtain ⟨k, rfl, hk, hk6, hbr⟩ := hrel
          by_cases hlt : k < q ∧ k < 60
          · obtain ⟨hlt1, hlt2⟩ := hlt
            obtain ⟨b, off, x, rfl, hSb, hbl, hxk, hcell⟩ := ((Ha.out.step hb1).step hbr).at_ hlt1
            have c0 : wr.cell? ⟨b, off + k * 4, none⟩ = some (.bool x.front) := hcell 0 _ rfl
            have c1 : wr.cell? ⟨b, off + k * 4 + 1, none⟩ = some (.int .i64 x.id.epoch) := hcell 1 _ rfl
            have c2 : wr.cell? ⟨b, off + k * 4 + 2, none⟩ = some (.int .i64 x.id.rep) := hcell 2 _ rfl
            have c3 : wr.cell? ⟨b, off + k * 4 + 3, none⟩ = some (.int .i64 x.id.num) := hcell 3 _ rfl
            have hkm : (k : Int) < q := by omega
            have hxin := Hai.out x (List.mem_of_getElem? hxk)
            have HW := hid (awhere_any wr _ mb X _ x (HM.out.1.step hbr) (by omega) hxin)
            have HW2 := hid (fun W (hb : Below w1.heap.size w1 W) => r13where_any A1 X.length c1_ X _ W x (HM.out.2.step hb) (by omega))
            have HB := hid (fun W (hb : Below w1.heap.size w1 W) => arebase_any W _ mb X _ x (HM.out.1.step hb) (by omega) hxin)
            have HB2 := hid (fun W (hb : Below w1.heap.size w1 W) => r13rebase_any A1 X.length c1_ X _ W x (HM.out.2.step hb) (by omega))
            generalize whereOf X x = wo at *
            generalize rebaseOf X x = ro at *
            obtain ⟨ro, rb⟩ := ro
            dsimp only at HB HB2
            clear hcell hxk hxin
            repeat' (first | (go_at_call 33; go_must ((with_reducible refine Calls.mono HW.out ?_); rintro _ w2 ⟨rfl, hb2⟩; have B2 := bvia hbr hb2; have c0 := kc (hb2) c0; have c1 := kc (hb2) c1; have c2 := kc (hb2) c2; have c3 := kc (hb2) c3; have hbl := Nat.lt_of_lt_of_le hbl (hb2).size; dsimp only)) | (go_at_call 43; go_must ((with_reducible refine Calls.mono (HW2.out _ B2) ?_); rintro _ w3 ⟨rfl, hb3⟩; have B3 := bvia B2 hb3; have c0 := kc (hb3) c0; have c1 := kc (hb3) c1; have c2 := kc (hb3) c2; have c3 := kc (hb3) c3; have hbl := Nat.lt_of_lt_of_le hbl (hb3).size; dsimp only)) | (go_at_call 44; go_must ((with_reducible refine Calls.mono (HB.out _ B3) ?_); rintro _ w4 ⟨rfl, hb4⟩; have e4 := balloc (o := .cells #[.bool ro.front, .int .i64 ro.id.epoch, .int .i64 ro.id.rep, .int .i64 ro.id.num] 57) (Below.refl _ w4); have hX := Blk.new w4 57 #[.bool ro.front, .int .i64 ro.id.epoch, .int .i64 ro.id.rep, .int .i64 ro.id.num]; have B4 := bvia (bvia B3 hb4) e4; have c0 := kc (bvia hb4 e4) c0; have c1 := kc (bvia hb4 e4) c1; have c2 := kc (bvia hb4 e4) c2; have c3 := kc (bvia hb4 e4) c3; have hbl := Nat.lt_of_lt_of_le hbl (bvia hb4 e4).size; dsimp only)) | (go_at_call 45; go_must ((with_reducible refine Calls.mono (HB2.out _ B4) ?_); rintro _ w5 ⟨rfl, hb5⟩; have e5 := balloc (o := .cells #[.bool ro.front, .int .i64 ro.id.epoch, .int .i64 ro.id.rep, .int .i64 ro.id.num] 57) (Below.refl _ w5); have hX5 := (hX.step hb5).step e5; have hY5 := Blk.new w5 57 #[.bool ro.front, .int .i64 ro.id.epoch, .int .i64 ro.id.rep, .int .i64 ro.id.num]; have B5 := bvia (bvia B4 hb5) e5; have x0 := hX5.cell 0; have x1 := hX5.cell 1; have x2 := hX5.cell 2; have x3 := hX5.cell 3; have xl := hX5.lt; have y0 := hY5.cell 0; have y1 := hY5.cell 1; have y2 := hY5.cell 2; have y3 := hY5.cell 3; have yl := hY5.lt; simp at x0 x1 x2 x3 y0 y1 y2 y3; dsimp only)) | (with_reducible refine Keep.last ?_) | (with_reducible refine Keep.below (by assumption) ?_) | (with_reducible refine Keep.kept (by assumption) ?_) | (with_reducible refine Keep.alloc ?_) | (with_reducible refine Keep.same ?_) | ((with_reducible refine WpH.here ?_); first | (refine WpH.nil ?_; refine NoP.normal ?_) | (refine WpH.load (by rfl) (by rfl) (by go_simp; rfl) ?_; simp only [Act.put, List.setIfInBounds_toArray, List.set_cons_zero, List.set_cons_succ]) | (refine WpH.loadT (by rfl) (by rfl) (by go_simp; rfl) (by rintro _ _ ⟨⟩; exact ⟨_, _, _, _, _, _, by rfl, by assumption, by assumption⟩) ?_; simp only [Act.put, List.setIfInBounds_toArray, List.set_cons_zero, List.set_cons_succ]) | (refine WpH.pure (by rfl) (fun w_ => by go_simp; (try go_bits); rfl) ?_; simp only [Act.put, List.setIfInBounds_toArray, List.set_cons_zero, List.set_cons_succ]) | (refine WpH.wild1 (by rfl) (fun _ _ => ?_)) | (refine WpH.skip (by rfl) ?_; simp only [Act.put, List.setIfInBounds_toArray, List.set_cons_zero, List.set_cons_succ])) | go_values | go_skip | go_guarded | go_step | go_upon | go_back)
            skip
            go_roundw
            case rel => exact ⟨k + 1, by go_num, by omega, by omega, B5⟩
            case measure => simp [intOf]; omega
          · have HE := hid (melements_any wr _ mb X _ (HM.out.1.step hbr) (by omega))
            have HK := hid (fun W (hb : Below w1.heap.size w1 W) => wakes13_any W _ ((Hs.out.step hb1).step hb))
            by_cases hlt1 : k < q
            · have hk60 : ¬ (k : Int) < 60 := by omega
              have hkm : (k : Int) < q := by omega
              clear hlt
              repeat' (first | (go_at_call 23; go_must ((with_reducible refine Calls.mono HE.out ?_); rintro _ w2 ⟨A2, c2, rfl, hO2, hb2⟩; have B2 := bvia hbr hb2; have HEl := hid (els_eq A2 _ c2 A1 c1_ X _ _ w2 (hO2.row (S := fun _ => True) fun _ _ _ => trivial) (HM.out.2.step B2)); dsimp only)) | (go_at_call 22; go_must ((with_reducible refine Calls.mono HEl.out ?_); rintro _ w3 ⟨rfl, hb3⟩; have B3 := bvia B2 hb3; dsimp only)) | (go_at_call 34; go_must ((with_reducible refine Calls.mono (HK.out _ B3) ?_); rintro _ w4 ⟨rfl, hb4⟩; dsimp only)) | (with_reducible refine Keep.last ?_) | (with_reducible refine Keep.below (by assumption) ?_) | (with_reducible refine Keep.kept (by assumption) ?_) | (with_reducible refine Keep.alloc ?_) | (with_reducible refine Keep.same ?_) | ((with_reducible refine WpH.here ?_); first | (refine WpH.nil ?_; refine NoP.normal ?_) | (refine WpH.load (by rfl) (by rfl) (by go_simp; rfl) ?_; simp only [Act.put, List.setIfInBounds_toArray, List.set_cons_zero, List.set_cons_succ]) | (refine WpH.loadT (by rfl) (by rfl) (by go_simp; rfl) (by rintro _ _ ⟨⟩; exact ⟨_, _, _, _, _, _, by rfl, by assumption, by assumption⟩) ?_; simp only [Act.put, List.setIfInBounds_toArray, List.set_cons_zero, List.set_cons_succ]) | (refine WpH.pure (by rfl) (fun w_ => by go_simp; (try go_bits); rfl) ?_; simp only [Act.put, List.setIfInBounds_toArray, List.set_cons_zero, List.set_cons_succ]) | (refine WpH.wild1 (by rfl) (fun _ _ => ?_)) | (refine WpH.skip (by rfl) ?_; simp only [Act.put, List.setIfInBounds_toArray, List.set_cons_zero, List.set_cons_succ])) | go_values | go_skip | go_guarded | go_step | go_upon | go_back)
              go_ret
              exact ⟨rfl, bvia (bvia hb1 B3) hb4⟩
            · obtain rfl : k = q := by omega
              clear hlt
              repeat' (first | (go_at_call 23; go_must ((with_reducible refine Calls.mono HE.out ?_); rintro _ w2 ⟨A2, c2, rfl, hO2, hb2⟩; have B2 := bvia hbr hb2; have HEl := hid (els_eq A2 _ c2 A1 c1_ X _ _ w2 (hO2.row (S := fun _ => True) fun _ _ _ => trivial) (HM.out.2.step B2)); dsimp only)) | (go_at_call 22; go_must ((with_reducible refine Calls.mono HEl.out ?_); rintro _ w3 ⟨rfl, hb3⟩; have B3 := bvia B2 hb3; dsimp only)) | (go_at_call 34; go_must ((with_reducible refine Calls.mono (HK.out _ B3) ?_); rintro _ w4 ⟨rfl, hb4⟩; dsimp only)) | (with_reducible refine Keep.last ?_) | (with_reducible refine Keep.below (by assumption) ?_) | (with_reducible refine Keep.kept (by assumption) ?_) | (with_reducible refine Keep.alloc ?_) | (with_reducible refine Keep.same ?_) | ((with_reducible refine WpH.here ?_); first | (refine WpH.nil ?_; refine NoP.normal ?_) | (refine WpH.load (by rfl) (by rfl) (by go_simp; rfl) ?_; simp only [Act.put, List.setIfInBounds_toArray, List.set_cons_zero, List.set_cons_succ]) | (refine WpH.loadT (by rfl) (by rfl) (by go_simp; rfl) (by rintro _ _ ⟨⟩; exact ⟨_, _, _, _, _, _, by rfl, by assumption, by assumption⟩) ?_; simp only [Act.put, List.setIfInBounds_toArray, List.set_cons_zero, List.set_cons_succ]) | (refine WpH.pure (by rfl) (fun w_ => by go_simp; (try go_bits); rfl) ?_; simp only [Act.put, List.setIfInBounds_toArray, List.set_cons_zero, List.set_cons_succ]) | (refine WpH.wild1 (by rfl) (fun _ _ => ?_)) | (refine WpH.skip (by rfl) ?_; simp only [Act.put, List.setIfInBounds_toArray, List.set_cons_zero, List.set_cons_succ])) | go_values | go_skip | go_guarded | go_step | go_upon | go_back)
              go_ret
              exact ⟨rfl, bvia (bvia hb1 B3) hb4⟩
end Go.Proofs.YtfihjajllfihjaaDoor
