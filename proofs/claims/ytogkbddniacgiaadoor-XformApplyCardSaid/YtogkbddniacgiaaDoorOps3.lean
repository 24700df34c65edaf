/- Rows of operations: the walks of Along and Cross and of the document's. Conditions: the rows lie in memory, the numbers fit their kinds. -/
import Derived.Test.YtogkbddniacgiaaDoorOps
namespace Go.Proofs.YtogkbddniacgiaaDoor
set_option linter.unusedSimpArgs false
set_option linter.unusedVariables false
open Go Go.RowKit
theorem Tof_in {a b : Opn} (ha : a.In) : (Tof a b).In := by
  unfold Tof
  split
  · next h =>
    have := moves_max h
    obtain ⟨h1, h2, h3, h4⟩ := ha
    exact ⟨h1, ⟨by have := h2.1; show _ ≤ a.at_ + 1; omega, by have := h2.2; show a.at_ + 1 ≤ _; omega⟩, h3, h4⟩
  · exact ha
def alongOf (a : Opn) (l : List Opn) : Opn := l.foldl Tof a
theorem alongOf_in {a : Opn} (ha : a.In) (l : List Opn) : (alongOf a l).In := by
  induction l generalizing a with
  | nil => exact ha
  | cons b l ih => exact ih (Tof_in ha)
theorem take_snoc_g {α : Type} {es : List α} {k : Nat} {e : α} (h : es[k]? = some e) : es.take (k + 1) = es.take k ++ [e] := by
  rw [List.take_add_one, h]
  rfl
theorem alongOf_snoc {a b : Opn} {l : List Opn} {k : Nat} (h : l[k]? = some b) : alongOf a (l.take (k + 1)) = Tof (alongOf a (l.take k)) b := by
  rw [take_snoc_g h]
  simp [alongOf]
theorem two_boxes' (w : World) (t : TypeId) (x y : Array Value) : Blk ((w.alloc (.cells x t)).alloc (.cells y t)) w.heap.size t x ∧ Blk ((w.alloc (.cells x t)).alloc (.cells y t)) (w.heap.size + 1) t y ∧ Below w.heap.size w ((w.alloc (.cells x t)).alloc (.cells y t)) := two_boxes w t x y
/-- a box of four cells written anew -/
theorem Blk.all4 {w : World} {g : Nat} {t : TypeId} {x y z u x' y' z' u' : Value} (h : Blk w g t #[x, y, z, u]) :
    Blk ((((w.setCell ⟨g, 0, none⟩ x').setCell ⟨g, 1, none⟩ y').setCell ⟨g, 2, none⟩ z').setCell ⟨g, 3, none⟩ u') g t #[x', y', z', u'] := (((h.set_ 0 x').set_ 1 y').set_ 2 z').set_ 3 u'
set_option maxRecDepth 20000 in
set_option maxHeartbeats 2000000 in
theorem along_any (a : Opn) (w : World) (A : Option Addr) (n c : Nat) (l : List Opn) (ha : a.In) (hr : GRow w (fun b => b < w.heap.size) A n c l) :
    Calls Tryd.prog 53 #[a.agg, .slice A n c] w fun e w' => e = .returned (alongOf a l).agg ∧ Below w.heap.size w w' := by
  obtain ⟨hA, hZ, hW⟩ := two_boxes' w 58 (opCells a) #[.int .i64 0, .int .i64 0, .int .i32 0, .int .i64 0]
  have Hr := hid hr
  have hnl := hr.1
  have hnx := hr.len_le
  unfold maxLen at hnx
  have HT := hid (fun x y W (h : Opn.In x) => T_any x y W h)
  clear hr
  unfold Opn.agg at HT ⊢
  unfold opCells at hA hZ hW
  go_enter Tryd.func53, Tryd.ntmps53
  repeat' (first | (with_reducible refine Keep.last ?_) | (with_reducible refine Keep.below (by assumption) ?_) | (with_reducible refine Keep.kept (by assumption) ?_) | (with_reducible refine Keep.alloc ?_) | (with_reducible refine Keep.same ?_) | ((with_reducible refine WpH.here ?_); first | (refine WpH.nil ?_; refine NoP.normal ?_) | (refine WpH.load (by rfl) (by rfl) (by go_simp; rfl) ?_; simp only [Act.put, List.setIfInBounds_toArray, List.set_cons_zero, List.set_cons_succ]) | (refine WpH.loadT (by rfl) (by rfl) (by go_simp; rfl) (by rintro _ _ ⟨⟩; exact ⟨_, _, _, _, _, _, by rfl, by assumption, by assumption⟩) ?_; simp only [Act.put, List.setIfInBounds_toArray, List.set_cons_zero, List.set_cons_succ]) | (refine WpH.pure (by rfl) (fun w_ => by go_simp; (try go_bits); rfl) ?_; simp only [Act.put, List.setIfInBounds_toArray, List.set_cons_zero, List.set_cons_succ]) | (refine WpH.wild1 (by rfl) (fun _ _ => ?_)) | (refine WpH.skip (by rfl) ?_; simp only [Act.put, List.setIfInBounds_toArray, List.set_cons_zero, List.set_cons_succ])) | go_values | go_skip | go_guarded | go_step | go_upon | go_back)
  generalize (w.alloc (.cells #[.int .i64 a.kind, .int .i64 a.at_, .int .i32 a.char, .int .i64 a.rep] 58)).alloc (.cells #[.int .i64 0, .int .i64 0, .int .i32 0, .int .i64 0] 58) = W at *
  go_loopw [9] (fun i wr => ∃ k : Nat, i = .int .i64 k ∧ k ≤ n ∧ Blk wr w.heap.size 58 (opCells (alongOf a (l.take k))) ∧ Blk wr (w.heap.size + 1) 58 #[.int .i64 0, .int .i64 0, .int .i32 0, .int .i64 0] ∧ Below w.heap.size w wr) (fun i _ => n - (intOf i).toNat)
  case atStart => exact ⟨0, rfl, Nat.zero_le _, hA, hZ, hW⟩
  case round =>
    obtain ⟨k, rfl, hk, gA, gZ, hbr⟩ := hrel
    obtain ⟨a0, a1, a2, a3, f0, f1, f2, f3, fl⟩ := Blk.four gA
    obtain ⟨z0, z1, z2, z3, g0, g1, g2, g3, gl⟩ := Blk.four gZ
    by_cases hlt : k < n
    · obtain ⟨b, off, o, rfl, hSb, hbl, hok, hcell⟩ := (Hr.out.step hbr).at_ hlt
      have c0 : wr.cell? ⟨b, off + k * 4, none⟩ = some (.int .i64 o.kind) := hcell 0 _ rfl
      have c1 : wr.cell? ⟨b, off + k * 4 + 1, none⟩ = some (.int .i64 o.at_) := hcell 1 _ rfl
      have c2 : wr.cell? ⟨b, off + k * 4 + 2, none⟩ = some (.int .i32 o.char) := hcell 2 _ rfl
      have c3 : wr.cell? ⟨b, off + k * 4 + 3, none⟩ = some (.int .i64 o.rep) := hcell 3 _ rfl
      have Hs := hid (alongOf_snoc (a := a) hok)
      have HI := hid (alongOf_in ha (l.take k))
      clear hcell hok
      have HTk := hid (fun W => HT.out (alongOf a (l.take k)) o W HI.out)
      generalize alongOf a (l.take k) = x at *
      generalize hy : Tof x o = y at *
      repeat' (first | (go_at_call 30; go_must ((with_reducible refine Calls.mono (HTk.out _) ?_); rintro _ w1 ⟨rfl, hb1⟩; have eX := balloc (o := .cells #[.int .i64 o.kind, .int .i64 o.at_, .int .i32 o.char, .int .i64 o.rep] 58) (Below.refl _ wr); have gA1 := ((gA.step eX).step hb1); have gZ1 := ((gZ.step eX).step hb1); obtain ⟨x0, x1, x2, x3, h0, h1, h2, h3, xl⟩ := Blk.four gA1; dsimp only)) | (with_reducible refine Keep.last ?_) | (with_reducible refine Keep.below (by assumption) ?_) | (with_reducible refine Keep.kept (by assumption) ?_) | (with_reducible refine Keep.alloc ?_) | (with_reducible refine Keep.same ?_) | ((with_reducible refine WpH.here ?_); first | (refine WpH.nil ?_; refine NoP.normal ?_) | (refine WpH.load (by rfl) (by rfl) (by go_simp; rfl) ?_; simp only [Act.put, List.setIfInBounds_toArray, List.set_cons_zero, List.set_cons_succ]) | (refine WpH.loadT (by rfl) (by rfl) (by go_simp; rfl) (by rintro _ _ ⟨⟩; exact ⟨_, _, _, _, _, _, by rfl, by assumption, by assumption⟩) ?_; simp only [Act.put, List.setIfInBounds_toArray, List.set_cons_zero, List.set_cons_succ]) | (refine WpH.pure (by rfl) (fun w_ => by go_simp; (try go_bits); rfl) ?_; simp only [Act.put, List.setIfInBounds_toArray, List.set_cons_zero, List.set_cons_succ]) | (refine WpH.wild1 (by rfl) (fun _ _ => ?_)) | (refine WpH.skip (by rfl) ?_; simp only [Act.put, List.setIfInBounds_toArray, List.set_cons_zero, List.set_cons_succ])) | go_values | go_skip | go_guarded | go_step | go_upon | go_back)
      go_roundw
      case rel =>
        refine ⟨k + 1, by go_num, by omega, ?_, ?_, ?_⟩
        · rw [Hs.out]
          exact Blk.all4 gA1
        · exact gZ1.far (by dsimp only; omega) _ |>.far (by dsimp only; omega) _ |>.far (by dsimp only; omega) _ |>.far (by dsimp only; omega) _
        · (repeat' (first | (with_reducible exact Below.refl _ _) | (with_reducible assumption) | (with_reducible refine balloc ?_) | (with_reducible refine bdrew ?_) | (with_reducible refine bset ?_ (by (try dsimp only); omega)) | (with_reducible refine bvia ?_ (by assumption))))
      case measure => simp [intOf]; omega
    · obtain rfl : k = n := by omega
      have ht : l.take k = l := List.take_of_length_le (by omega)
      rw [ht] at gA a0 a1 a2 a3
      repeat' (first | (with_reducible refine Keep.last ?_) | (with_reducible refine Keep.below (by assumption) ?_) | (with_reducible refine Keep.kept (by assumption) ?_) | (with_reducible refine Keep.alloc ?_) | (with_reducible refine Keep.same ?_) | ((with_reducible refine WpH.here ?_); first | (refine WpH.nil ?_; refine NoP.normal ?_) | (refine WpH.load (by rfl) (by rfl) (by go_simp; rfl) ?_; simp only [Act.put, List.setIfInBounds_toArray, List.set_cons_zero, List.set_cons_succ]) | (refine WpH.loadT (by rfl) (by rfl) (by go_simp; rfl) (by rintro _ _ ⟨⟩; exact ⟨_, _, _, _, _, _, by rfl, by assumption, by assumption⟩) ?_; simp only [Act.put, List.setIfInBounds_toArray, List.set_cons_zero, List.set_cons_succ]) | (refine WpH.pure (by rfl) (fun w_ => by go_simp; (try go_bits); rfl) ?_; simp only [Act.put, List.setIfInBounds_toArray, List.set_cons_zero, List.set_cons_succ]) | (refine WpH.wild1 (by rfl) (fun _ _ => ?_)) | (refine WpH.skip (by rfl) ?_; simp only [Act.put, List.setIfInBounds_toArray, List.set_cons_zero, List.set_cons_succ])) | go_values | go_skip | go_guarded | go_step | go_upon | go_back)
      refine bodyPost_ret (v := .agg #[.int .i64 (alongOf a l).kind, .int .i64 (alongOf a l).at_, .int .i32 (alongOf a l).char, .int .i64 (alongOf a l).rep]) (by simp [results, Tryd.results53, go_sem, z0, z1, z2, z3]) rfl ⟨rfl, ?_⟩
      (repeat' (first | (with_reducible exact Below.refl _ _) | (with_reducible assumption) | (with_reducible refine balloc ?_) | (with_reducible refine bdrew ?_) | (with_reducible refine bset ?_ (by (try dsimp only); omega)) | (with_reducible refine bvia ?_ (by assumption))))
set_option maxRecDepth 20000 in
set_option maxHeartbeats 2000000 in
theorem refAlong_any (a : Opn) (w : World) (A : Option Addr) (n c : Nat) (l : List Opn) (ha : a.In) (hr : GRow w (fun b => b < w.heap.size) A n c l) :
    Calls Tryd.prog 54 #[a.agg, .slice A n c] w fun e w' => e = .returned (alongOf a l).agg ∧ Below w.heap.size w w' := by
  obtain ⟨hA, hZ, hW⟩ := two_boxes' w 58 (opCells a) #[.int .i64 0, .int .i64 0, .int .i32 0, .int .i64 0]
  have Hr := hid hr
  have hnl := hr.1
  have hnx := hr.len_le
  unfold maxLen at hnx
  have HT := hid (fun x y W (h : Opn.In x) => refT_any x y W h)
  clear hr
  unfold Opn.agg at HT ⊢
  unfold opCells at hA hZ hW
  go_enter Tryd.func54, Tryd.ntmps54
  repeat' (first | (with_reducible refine Keep.last ?_) | (with_reducible refine Keep.below (by assumption) ?_) | (with_reducible refine Keep.kept (by assumption) ?_) | (with_reducible refine Keep.alloc ?_) | (with_reducible refine Keep.same ?_) | ((with_reducible refine WpH.here ?_); first | (refine WpH.nil ?_; refine NoP.normal ?_) | (refine WpH.load (by rfl) (by rfl) (by go_simp; rfl) ?_; simp only [Act.put, List.setIfInBounds_toArray, List.set_cons_zero, List.set_cons_succ]) | (refine WpH.loadT (by rfl) (by rfl) (by go_simp; rfl) (by rintro _ _ ⟨⟩; exact ⟨_, _, _, _, _, _, by rfl, by assumption, by assumption⟩) ?_; simp only [Act.put, List.setIfInBounds_toArray, List.set_cons_zero, List.set_cons_succ]) | (refine WpH.pure (by rfl) (fun w_ => by go_simp; (try go_bits); rfl) ?_; simp only [Act.put, List.setIfInBounds_toArray, List.set_cons_zero, List.set_cons_succ]) | (refine WpH.wild1 (by rfl) (fun _ _ => ?_)) | (refine WpH.skip (by rfl) ?_; simp only [Act.put, List.setIfInBounds_toArray, List.set_cons_zero, List.set_cons_succ])) | go_values | go_skip | go_guarded | go_step | go_upon | go_back)
  generalize (w.alloc (.cells #[.int .i64 a.kind, .int .i64 a.at_, .int .i32 a.char, .int .i64 a.rep] 58)).alloc (.cells #[.int .i64 0, .int .i64 0, .int .i32 0, .int .i64 0] 58) = W at *
  go_loopw [5] (fun i wr => ∃ k : Nat, i = .int .i64 k ∧ k ≤ n ∧ Blk wr w.heap.size 58 (opCells (alongOf a (l.take k))) ∧ Blk wr (w.heap.size + 1) 58 #[.int .i64 0, .int .i64 0, .int .i32 0, .int .i64 0] ∧ Below w.heap.size w wr) (fun i _ => n - (intOf i).toNat)
  case atStart => exact ⟨0, rfl, Nat.zero_le _, hA, hZ, hW⟩
  case round =>
    obtain ⟨k, rfl, hk, gA, gZ, hbr⟩ := hrel
    obtain ⟨a0, a1, a2, a3, f0, f1, f2, f3, fl⟩ := Blk.four gA
    obtain ⟨z0, z1, z2, z3, g0, g1, g2, g3, gl⟩ := Blk.four gZ
    by_cases hlt : k < n
    · obtain ⟨b, off, o, rfl, hSb, hbl, hok, hcell⟩ := (Hr.out.step hbr).at_ hlt
      have c0 : wr.drew.cell? ⟨b, off + k * 4, none⟩ = some (.int .i64 o.kind) := hcell 0 _ rfl
      have c1 : wr.drew.cell? ⟨b, off + k * 4 + 1, none⟩ = some (.int .i64 o.at_) := hcell 1 _ rfl
      have c2 : wr.drew.cell? ⟨b, off + k * 4 + 2, none⟩ = some (.int .i32 o.char) := hcell 2 _ rfl
      have c3 : wr.drew.cell? ⟨b, off + k * 4 + 3, none⟩ = some (.int .i64 o.rep) := hcell 3 _ rfl
      have Hs := hid (alongOf_snoc (a := a) hok)
      have HI := hid (alongOf_in ha (l.take k))
      clear hcell hok
      have HTk := hid (fun W => HT.out (alongOf a (l.take k)) o W HI.out)
      generalize alongOf a (l.take k) = x at *
      generalize hy : Tof x o = y at *
      repeat' (first | ((with_reducible refine region_at 4 ?_); refine wp_region_order [(0, true, false), (1, true, false), (2, true, false), (3, true, false), (4, true, false), (5, false, false), (6, false, true)] (by kernel_rfl) (by kernel_rfl) (by kernel_rfl) rfl rfl ?_) | (go_at_call 31; go_must ((with_reducible refine Calls.mono (HTk.out _) ?_); rintro _ w1 ⟨rfl, hb1⟩; have gA1 := (gA.drew.step hb1); have gZ1 := (gZ.drew.step hb1); obtain ⟨x0, x1, x2, x3, h0, h1, h2, h3, xl⟩ := Blk.four gA1; dsimp only)) | (with_reducible refine Keep.last ?_) | (with_reducible refine Keep.below (by assumption) ?_) | (with_reducible refine Keep.kept (by assumption) ?_) | (with_reducible refine Keep.alloc ?_) | (with_reducible refine Keep.same ?_) | ((with_reducible refine WpH.here ?_); first | (refine WpH.nil ?_; refine NoP.normal ?_) | (refine WpH.load (by rfl) (by rfl) (by go_simp; rfl) ?_; simp only [Act.put, List.setIfInBounds_toArray, List.set_cons_zero, List.set_cons_succ]) | (refine WpH.loadT (by rfl) (by rfl) (by go_simp; rfl) (by rintro _ _ ⟨⟩; exact ⟨_, _, _, _, _, _, by rfl, by assumption, by assumption⟩) ?_; simp only [Act.put, List.setIfInBounds_toArray, List.set_cons_zero, List.set_cons_succ]) | (refine WpH.pure (by rfl) (fun w_ => by go_simp; (try go_bits); rfl) ?_; simp only [Act.put, List.setIfInBounds_toArray, List.set_cons_zero, List.set_cons_succ]) | (refine WpH.wild1 (by rfl) (fun _ _ => ?_)) | (refine WpH.skip (by rfl) ?_; simp only [Act.put, List.setIfInBounds_toArray, List.set_cons_zero, List.set_cons_succ])) | go_values | go_skip | go_guarded | go_step | go_upon | go_back)
      go_roundw
      case rel =>
        refine ⟨k + 1, by go_num, by omega, ?_, ?_, ?_⟩
        · rw [Hs.out]
          exact Blk.all4 gA1
        · exact gZ1.far (by dsimp only; omega) _ |>.far (by dsimp only; omega) _ |>.far (by dsimp only; omega) _ |>.far (by dsimp only; omega) _
        · (repeat' (first | (with_reducible exact Below.refl _ _) | (with_reducible assumption) | (with_reducible refine balloc ?_) | (with_reducible refine bdrew ?_) | (with_reducible refine bset ?_ (by (try dsimp only); omega)) | (with_reducible refine bvia ?_ (by assumption))))
      case measure => simp [intOf]; omega
    · obtain rfl : k = n := by omega
      have ht : l.take k = l := List.take_of_length_le (by omega)
      rw [ht] at gA a0 a1 a2 a3
      repeat' (first | (with_reducible refine Keep.last ?_) | (with_reducible refine Keep.below (by assumption) ?_) | (with_reducible refine Keep.kept (by assumption) ?_) | (with_reducible refine Keep.alloc ?_) | (with_reducible refine Keep.same ?_) | ((with_reducible refine WpH.here ?_); first | (refine WpH.nil ?_; refine NoP.normal ?_) | (refine WpH.load (by rfl) (by rfl) (by go_simp; rfl) ?_; simp only [Act.put, List.setIfInBounds_toArray, List.set_cons_zero, List.set_cons_succ]) | (refine WpH.loadT (by rfl) (by rfl) (by go_simp; rfl) (by rintro _ _ ⟨⟩; exact ⟨_, _, _, _, _, _, by rfl, by assumption, by assumption⟩) ?_; simp only [Act.put, List.setIfInBounds_toArray, List.set_cons_zero, List.set_cons_succ]) | (refine WpH.pure (by rfl) (fun w_ => by go_simp; (try go_bits); rfl) ?_; simp only [Act.put, List.setIfInBounds_toArray, List.set_cons_zero, List.set_cons_succ]) | (refine WpH.wild1 (by rfl) (fun _ _ => ?_)) | (refine WpH.skip (by rfl) ?_; simp only [Act.put, List.setIfInBounds_toArray, List.set_cons_zero, List.set_cons_succ])) | go_values | go_skip | go_guarded | go_step | go_upon | go_back)
      refine bodyPost_ret (v := .agg #[.int .i64 (alongOf a l).kind, .int .i64 (alongOf a l).at_, .int .i32 (alongOf a l).char, .int .i64 (alongOf a l).rep]) (by simp [results, Tryd.results54, go_sem, z0, z1, z2, z3]) rfl ⟨rfl, ?_⟩
      (repeat' (first | (with_reducible exact Below.refl _ _) | (with_reducible assumption) | (with_reducible refine balloc ?_) | (with_reducible refine bdrew ?_) | (with_reducible refine bset ?_ (by (try dsimp only); omega)) | (with_reducible refine bvia ?_ (by assumption))))
end Go.Proofs.YtogkbddniacgiaaDoor
