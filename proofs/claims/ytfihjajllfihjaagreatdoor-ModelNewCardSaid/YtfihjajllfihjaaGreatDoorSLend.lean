/- Rows that are lent, and spoilt: the walks. Conditions: the rows lie in memory, fewer than 2^30 elements. -/
import Derived.Test.YtfihjajllfihjaaGreatDoorP21
import Derived.Test.YtfihjajllfihjaaGreatDoorSTree14
import Derived.Laws.StructEq
namespace Go.Proofs.YtfihjajllfihjaaGreatDoor
set_option linter.unusedSimpArgs false
set_option linter.unusedVariables false
open Go Go.RowKit
/-- an element that nobody has -/
def markEl (i : Int) : El := ⟨-9, 0, i, 109, 0⟩
theorem mark_any (i : Int) (w : World) : Calls Tryz.prog 68 #[.int .i64 i] w fun e w' => e = .returned (.agg #[.int .i64 (-9), .int .i64 0, .int .i64 i, .int .i32 109, .int .i64 0]) ∧ Below w.heap.size w w' := by
  go_enter Tryz.func68, Tryz.ntmps68
  repeat' (first | go_values | go_skip | go_guarded | go_step | go_upon | go_back)
  exact bodyPost_ret (v := .agg #[.int .i64 (-9), .int .i64 0, .int .i64 i, .int .i32 109, .int .i64 0]) (by simp [results, Tryz.results68, go_sem]) rfl ⟨rfl, by (repeat' (first | (with_reducible exact Below.refl _ _) | (with_reducible assumption) | (with_reducible refine balloc ?_) | (with_reducible refine bdrew ?_) | (with_reducible refine bset ?_ (by (try dsimp only); omega)) | (with_reducible refine bvia ?_ (by assumption))))⟩
def marks (k : Nat) : List El := (List.range k).map fun (i : Nat) => markEl (i : Int)
theorem marks_succ (k : Nat) : marks (k + 1) = marks k ++ [markEl k] := by simp [marks, List.range_succ]
set_option maxRecDepth 20000 in
set_option maxHeartbeats 1000000 in
theorem lend_any (A : Option Addr) (n c : Nat) (es : List El) (S : Nat → Prop) (w : World) (h : Row w S A n c es) (hn : n ≤ 1073741824) :
    Calls Tryz.prog 26 #[.slice A n c] w fun e w' => ∃ A' c', e = .returned (.slice A' n c') ∧ Own w' w.heap.size A' (n + 4) c' (es ++ marks 4) ∧ (∃ g, A' = some ⟨g, 0, none⟩ ∧ w.heap.size ≤ g) ∧ Below w.heap.size w w' := by
  have hE := Own.lit (w := w) #[] [] w.heap.size (Nat.le_refl _) (Nat.zero_le _) rfl
  have eE : Below w.heap.size w (w.alloc (.cells #[] 32)) := balloc (Below.refl _ _)
  have h1 := h.step eE
  go_enter Tryz.func26, Tryz.ntmps26
  repeat' (first | ((with_reducible refine append_here ?_); refine wp_append_el w.heap.size _ A 0 0 n c [] es S (by rfl) (by rfl) hE h1 eE.size (by omega) ?_; intro A1 c1 w1 hA hb1 hsm1 hat1 hz1) | go_values | go_skip | go_guarded | go_step | go_upon | go_back)
  rw [Nat.zero_add, List.nil_append] at hA
  have hbb := eE.trans hb1
  clear hsm1 hat1 hE h1 eE hb1 hz1 h
  go_loopw [3, 4] (fun o i wr => ∃ (k : Nat) (A' : Option Addr) (c' : Nat), o = .slice A' (n + k) c' ∧ i = .int .i64 k ∧ k ≤ 4 ∧ Own wr w.heap.size A' (n + k) c' (es ++ marks k) ∧ Below w.heap.size w wr) (fun _ i _ => 4 - (intOf i).toNat)
  case atStart => exact ⟨0, A1, c1, rfl, rfl, Nat.zero_le _, by simpa [marks] using hA, hbb⟩
  case round =>
    obtain ⟨k, A', c', rfl, rfl, hk, hown, hbr⟩ := hrel
    by_cases hlt : k < 4
    · have HM := hid (fun W => mark_any k W)
      repeat' (first | (go_at_call 68; go_must ((with_reducible refine Calls.mono (HM.out _) ?_); rintro _ w2 ⟨rfl, hb2⟩; have hbr2 := bvia hbr hb2; have hown2 := hown.step hb2; have eX := balloc (o := .cells #[.int .i64 (-9), .int .i64 0, .int .i64 k, .int .i32 109, .int .i64 0] 32) (Below.refl _ w2); have hown3 := hown2.step eX; have hbr3 := bvia hbr2 eX; have hrow := Row.one w2 (markEl k); have hz3 := hbr3.size; dsimp only)) | ((with_reducible refine append_here ?_); refine wp_append_el w.heap.size A' _ (n + k) c' 1 1 (es ++ marks k) [markEl k] (fun _ => True) (by rfl) (by rfl) hown3 hrow hz3 (by omega) ?_; intro A2 c2 w4 hown4 hb4 hsm4 hat4 hz4) | go_values | go_skip | go_guarded | go_step | go_upon | go_back)
      go_roundw
      case rel =>
        refine ⟨k + 1, A2, c2, rfl, by go_num, by omega, ?_, hbr3.trans hb4⟩
        rw [marks_succ, ← List.append_assoc]
        exact hown4
      case measure => simp [intOf]; omega
    · obtain rfl : k = 4 := by omega
      have hc := hown.cap_le
      have hnc : n ≤ c' := by omega
      obtain ⟨g, cur, hg, hgb, -, -, -, -⟩ := own_at hown (by omega)
      subst hg
      repeat' (first | go_values | go_skip | go_guarded | go_step | go_upon | go_back)
      go_ret
      exact ⟨_, c', rfl, hown, ⟨g, rfl, hgb⟩, hbr⟩
theorem Row.el {w : World} {S : Nat → Prop} {A : Option Addr} {n c : Nat} {es : List El} (h : Row w S A n c es) {i : Nat} {e : El} (he : es[i]? = some e) : ∃ b off, A = some ⟨b, off, none⟩ ∧ S b ∧ b < w.heap.size ∧ w.cell? ⟨b, off + i * 5, none⟩ = some (.int .i64 e.epoch) ∧ w.cell? ⟨b, off + i * 5 + 1, none⟩ = some (.int .i64 e.rep) ∧ w.cell? ⟨b, off + i * 5 + 2, none⟩ = some (.int .i64 e.num) ∧ w.cell? ⟨b, off + i * 5 + 3, none⟩ = some (.int .i32 e.char) ∧ w.cell? ⟨b, off + i * 5 + 4, none⟩ = some (.int .i64 e.hides) := by
  have hi : i < n := by rw [← h.1]; exact (List.getElem?_eq_some_iff.1 he).1
  obtain ⟨b, off, e', h1, h2, h3, c0, c1, c2, c3, c4⟩ := h.at_ hi
  obtain rfl : e' = e := Option.some.inj (h3.symm.trans he)
  exact ⟨b, off, h1, h2, lt_of_cell' c0, c0, c1, c2, c3, c4⟩
theorem Own.drw {w : World} {base : Nat} {A : Option Addr} {n c : Nat} {es : List El} (h : Own w base A n c es) : Own w.drew base A n c es := h.keep (S := fun _ => True) (Same.drew _ _) fun _ _ => trivial
/-- an element of a row of the call's own: its cells are there, none of them frozen -/
theorem own_blk {w : World} {base g n c : Nat} {es : List El} (h : Own w base (some ⟨g, 0, none⟩) n c es) (hn : 0 < n) {k : Nat} (hk : k < n) :
    w.frozen? ⟨g, k * 5, none⟩ = false ∧ w.frozen? ⟨g, k * 5 + 1, none⟩ = false ∧ w.frozen? ⟨g, k * 5 + 2, none⟩ = false ∧ w.frozen? ⟨g, k * 5 + 3, none⟩ = false ∧ w.frozen? ⟨g, k * 5 + 4, none⟩ = false ∧
    (∃ v, w.cell? ⟨g, k * 5, none⟩ = some v) ∧ (∃ v, w.cell? ⟨g, k * 5 + 1, none⟩ = some v) ∧ (∃ v, w.cell? ⟨g, k * 5 + 2, none⟩ = some v) ∧ (∃ v, w.cell? ⟨g, k * 5 + 3, none⟩ = some v) ∧ (∃ v, w.cell? ⟨g, k * 5 + 4, none⟩ = some v) := by
  obtain ⟨g', cur, e1, hbg, hb, hs, hnc, ht⟩ := own_at h hn
  injection e1 with e1
  injection e1 with e1
  subst e1
  have hh : ∀ j, j < 5 → ∃ v, w.cell? ⟨g, k * 5 + j, none⟩ = some v := fun j hj => by
    rw [hb.cell]
    exact ⟨cur[k * 5 + j]'(by omega), Array.getElem?_eq_getElem _⟩
  exact ⟨hb.frozen _, hb.frozen _, hb.frozen _, hb.frozen _, hb.frozen _, hh 0 (by omega), hh 1 (by omega), hh 2 (by omega), hh 3 (by omega), hh 4 (by omega)⟩
set_option maxRecDepth 20000 in
set_option maxHeartbeats 2000000 in
theorem intact_any (g0 : Nat) (n c : Nat) (B : Option Addr) (d base : Nat) (es : List El) (S : Nat → Prop) (w : World) (h : Own w base (some ⟨g0, 0, none⟩) (n + 4) c (es ++ marks 4)) (h' : Row w S B n d es) (hn : n ≤ 1073741824) (hb : base ≤ w.heap.size) :
    Calls Tryz.prog 29 #[.slice (some ⟨g0, 0, none⟩) n c, .slice B n d] w fun e w' => e = .returned (.bool true) ∧ But g0 w w' := by
  have hl := h'.1
  have hrow : Row w (fun _ => True) (some ⟨g0, 0, none⟩) (n + 4) c (es ++ marks 4) := h.row fun _ _ _ => trivial
  have ht := hrow.take_ (show n ≤ n + 4 by omega)
  rw [List.take_append_of_le_length (by omega), List.take_of_length_le (by omega)] at ht
  have HE := hid (els_eq (some ⟨g0, 0, none⟩) n c B d es _ _ w ht h')
  have hc := h.cap_le
  have hc1 : n + 4 ≤ c := hc.1
  have hc2 : n ≤ c := by omega
  clear ht
  go_enter Tryz.func29, Tryz.ntmps29
  repeat' (first | (go_at_call 50; go_must ((with_reducible refine Calls.mono HE.out ?_); rintro _ w1 ⟨rfl, hb1⟩; dsimp only)) | go_values | go_skip | go_guarded | go_step | go_upon | go_back)
  skip
  have hown1 := h.step hb1
  have hbb1 : But g0 w w1 := But.of_below hb1
  clear HE hrow
  go_loopw [6, 7] (fun o i wr => ∃ k : Nat, o = .bool true ∧ i = .int .i64 k ∧ k ≤ 4 ∧ Own wr base (some ⟨g0, 0, none⟩) (n + 4) c (es ++ marks 4) ∧ But g0 w wr) (fun _ i _ => 4 - (intOf i).toNat)
  case atStart => exact ⟨0, rfl, rfl, Nat.zero_le _, hown1, hbb1⟩
  case round =>
    obtain ⟨k, rfl, rfl, hk, hown, hbr⟩ := hrel
    by_cases hlt : k < 4
    · have HM := hid (fun W => mark_any k W)
      have he : (es ++ marks 4)[n + k]? = some (markEl k) := by
        rw [List.getElem?_append_right (by omega), hl, Nat.add_sub_cancel_left]
        rcases (show k = 0 ∨ k = 1 ∨ k = 2 ∨ k = 3 by omega) with rfl | rfl | rfl | rfl <;> rfl
      obtain ⟨g, off, hge, -, hgl, c0, c1, c2, c3, c4⟩ := (hown.row (S := fun _ => True) fun _ _ _ => trivial).el he
      injection hge with hge
      injection hge with hge1 hge2
      subst hge1 hge2
      simp only [markEl, Nat.zero_add] at c0 c1 c2 c3 c4
      repeat' (first | ((with_reducible refine region_at 6 ?_); refine wp_region_order [(0, true, false), (1, true, false), (2, true, false), (3, true, false), (4, true, false), (5, true, false), (6, true, false), (7, true, false), (8, true, false), (9, true, false), (10, false, false), (11, true, false), (12, true, false), (13, true, false)] (by kernel_rfl) (by kernel_rfl) (by kernel_rfl) rfl rfl ?_) | ((with_reducible refine WpH.here ?_); refine WpH.wild2 (by rfl) (fun _ _ => ?_)) | (go_at_call 68; go_must ((with_reducible refine Calls.mono (HM.out _) ?_); rintro _ w2 ⟨rfl, hb2⟩; dsimp only)) | (with_reducible refine Keep.last ?_) | (with_reducible refine Keep.below (by assumption) ?_) | (with_reducible refine Keep.kept (by assumption) ?_) | (with_reducible refine Keep.alloc ?_) | (with_reducible refine Keep.same ?_) | ((with_reducible refine WpH.here ?_); first | (refine WpH.nil ?_; refine NoP.normal ?_) | (refine WpH.load (by rfl) (by rfl) (by go_simp; rfl) ?_; simp only [Act.put, List.setIfInBounds_toArray, List.set_cons_zero, List.set_cons_succ]) | (refine WpH.loadT (by rfl) (by rfl) (by go_simp; rfl) (by rintro _ _ ⟨⟩; exact ⟨_, _, _, _, _, _, by rfl, by assumption, by assumption⟩) ?_; simp only [Act.put, List.setIfInBounds_toArray, List.set_cons_zero, List.set_cons_succ]) | (refine WpH.pure (by rfl) (fun w_ => by go_simp; (try go_bits); rfl) ?_; simp only [Act.put, List.setIfInBounds_toArray, List.set_cons_zero, List.set_cons_succ]) | (refine WpH.wild1 (by rfl) (fun _ _ => ?_)) | (refine WpH.skip (by rfl) ?_; simp only [Act.put, List.setIfInBounds_toArray, List.set_cons_zero, List.set_cons_succ])) | go_values | go_skip | go_guarded | go_step | go_upon | go_back)
      skip
      go_roundw
      case rel => exact ⟨k + 1, rfl, by go_num, by omega, hown.drw.step hb2, (hbr.trans (But.of_below (Below.refl _ _).drew)).trans (But.of_below hb2)⟩
      case measure => simp [intOf]; omega
    · obtain rfl : k = 4 := by omega
      repeat' (first | (with_reducible refine Keep.last ?_) | (with_reducible refine Keep.below (by assumption) ?_) | (with_reducible refine Keep.kept (by assumption) ?_) | (with_reducible refine Keep.alloc ?_) | (with_reducible refine Keep.same ?_) | ((with_reducible refine WpH.here ?_); first | (refine WpH.nil ?_; refine NoP.normal ?_) | (refine WpH.load (by rfl) (by rfl) (by go_simp; rfl) ?_; simp only [Act.put, List.setIfInBounds_toArray, List.set_cons_zero, List.set_cons_succ]) | (refine WpH.loadT (by rfl) (by rfl) (by go_simp; rfl) (by rintro _ _ ⟨⟩; exact ⟨_, _, _, _, _, _, by rfl, by assumption, by assumption⟩) ?_; simp only [Act.put, List.setIfInBounds_toArray, List.set_cons_zero, List.set_cons_succ]) | (refine WpH.pure (by rfl) (fun w_ => by go_simp; (try go_bits); rfl) ?_; simp only [Act.put, List.setIfInBounds_toArray, List.set_cons_zero, List.set_cons_succ]) | (refine WpH.wild1 (by rfl) (fun _ _ => ?_)) | (refine WpH.skip (by rfl) ?_; simp only [Act.put, List.setIfInBounds_toArray, List.set_cons_zero, List.set_cons_succ])) | go_values | go_skip | go_guarded | go_step | go_upon | go_back)
      have HM := hid (fun W => mark_any 99 W)
      go_loopw [8] (fun i wr => ∃ (k : Nat) (es' : List El), i = .int .i64 k ∧ k ≤ n + 4 ∧ Own wr base (some ⟨g0, 0, none⟩) (n + 4) c es' ∧ But g0 w wr) (fun i _ => n + 4 - (intOf i).toNat)
      case atStart => exact ⟨0, _, rfl, Nat.zero_le _, hown, hbr⟩
      case round =>
        clear hown hbr
        obtain ⟨k, es', rfl, hk, hown, hbr⟩ := hrel
        by_cases hlt : k < n + 4
        · obtain ⟨g, cur, hge, hg, -, -, -, -⟩ := own_at hown (by omega)
          injection hge with hge
          injection hge with hge
          subst hge
          have hll : g0 < wr.heap.size := (hown.block _ rfl).2
          repeat' (first | (go_at_call 68; go_must ((with_reducible refine Calls.mono (HM.out _) ?_); rintro _ w2 ⟨rfl, hb2⟩; have hown2 := hown.step hb2; have hbb2 : But g0 w w2 := hbr.trans (But.of_below hb2); have hgl2 := Nat.lt_of_lt_of_le hll hb2.size; obtain ⟨f0, f1, f2, f3, f4, ⟨_, y0⟩, ⟨_, y1⟩, ⟨_, y2⟩, ⟨_, y3⟩, ⟨_, y4⟩⟩ := own_blk hown2 (by omega) hlt; dsimp only)) | go_values | go_skip | go_guarded | go_step | go_upon | go_back)
          skip
          go_roundw
          case rel => exact ⟨k + 1, _, by go_num, by omega, hown2.set5 (markEl 99) hlt, ((((hbb2.setCell _ _).setCell _ _).setCell _ _).setCell _ _).setCell _ _⟩
          case measure => simp [intOf]; omega
        · obtain rfl : k = n + 4 := by omega
          repeat' (first | go_values | go_skip | go_guarded | go_step | go_upon | go_back)
          skip
          go_ret
          exact ⟨rfl, hbr⟩
end Go.Proofs.YtfihjajllfihjaaGreatDoor
