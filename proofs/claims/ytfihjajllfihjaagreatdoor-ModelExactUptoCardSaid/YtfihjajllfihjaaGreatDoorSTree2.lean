/- What a row of elements weighs: the walk of weigh. Conditions: the row lies in memory; it has fewer than 2^40 elements. A node made of a leaf and its sides: the walk of made. Conditions: the sides and the leaf lie in memory, the leaf is not empty, all together fewer than 2^40 elements. -/
import Derived.Test.YtfihjajllfihjaaGreatDoorP2
namespace Go.Proofs.YtfihjajllfihjaaGreatDoor
set_option linter.unusedSimpArgs false
set_option linter.unusedVariables false
open Go Go.RowKit

theorem method_weight (v : Array Value) (w : World) : (method 315 32 (.agg v) "Weight").run Tryz.prog w = .ok (54, .agg v) w := by kernel_rfl

theorem take_snoc_el {es : List El} {k : Nat} {e : El} (h : es[k]? = some e) : es.take (k + 1) = es.take k ++ [e] := by
  obtain ⟨hk, rfl⟩ := List.getElem?_eq_some_iff.1 h
  rw [List.take_succ_eq_append_getElem hk]
theorem liveOf_snoc {es : List El} {k : Nat} {e : El} (h : es[k]? = some e) : liveOf (es.take (k + 1)) = liveOf (es.take k) + e.live := by
  rw [take_snoc_el h, liveOf_append]; simp [liveOf]
theorem linesOf_snoc {es : List El} {k : Nat} {e : El} (h : es[k]? = some e) : linesOf (es.take (k + 1)) = linesOf (es.take k) + e.lines := by
  rw [take_snoc_el h, linesOf_append]; simp [linesOf]

set_option maxHeartbeats 1000000 in
theorem weigh_any (A : Option Addr) (n c : Nat) (es : List El) (S : Nat → Prop) (w : World) (h : Row w S A n c es) (hn : n ≤ 1099511627776) :
    Calls Tryz.prog 121 #[.slice A n c] w fun e w' => e = .returned (.agg #[.int .i64 (liveOf es), .int .i64 (linesOf es)]) ∧ Below w.heap.size w w' := by
  have methW := method_weight
  have Hr := hid h
  clear h
  go_enter Tryz.func121, Tryz.ntmps121
  go_wp2
  go_loopw [7] (fun i wr => ∃ k : Nat, i = .int .i64 k ∧ k ≤ n ∧ Blk wr w.heap.size 40 #[.int .i64 (liveOf (es.take k)), .int .i64 (linesOf (es.take k))] ∧ Below w.heap.size w wr) (fun i wr => n - (intOf i).toNat)
  case atStart => exact ⟨0, rfl, by omega, Blk.new _ _ _, (Below.refl _ _).alloc (Nat.le_refl _) _⟩
  case round =>
    obtain ⟨k, rfl, hk, hblk, hbel⟩ := hrel
    have hl1 := liveOf_le (es.take k)
    have hl2 := linesOf_le (es.take k)
    have hl3 : (es.take k).length ≤ k := List.length_take_le _ _
    have hsz := hblk.lt
    obtain ⟨hz0, hz1, hf0, hf1⟩ := hblk.two
    have HB := hid hblk
    clear hblk
    by_cases hlt : k < n
    · obtain ⟨b, off, e, rfl, hS, he, c0, c1, c2, c3, c4⟩ := (Hr.out.step hbel).at_ hlt
      have hls := liveOf_snoc he
      have hns := linesOf_snoc he
      have hel := e.live_le
      have hen := e.lines_le
      have HH := hid (And.intro hls (And.intro hns he))
      clear hls hns he
      go_wp2_with fail
      clear c0 c1 c2 c3 c4
      refine wp_region_order [(0, true, false), (1, true, false), (2, true, false), (3, false, false), (4, false, false), (5, false, true)] (by kernel_rfl) (by kernel_rfl) (by kernel_rfl) rfl rfl ?_
      repeat' (first | (go_at_call 54; refine (weight_any e _).mono ?_; rintro _ w1 ⟨rfl, hb1⟩; obtain ⟨hc1, hg1⟩ := bcell hb1; have hs1 := hb1.size; simp only [World.size_drew, World.size_alloc] at hs1; have hq1 : w.heap.size < w1.heap.size := (by omega); dsimp only) | (go_at_call 120; refine (plus_in _ _ _ _ _ (by omega) (by omega) (by omega) (by omega) (by omega) (by omega)).mono ?_; rintro _ w2 ⟨rfl, hb2⟩; obtain ⟨hc2, hg2⟩ := bcell hb2; have hs2 := hb2.size; dsimp only) | (with_reducible refine Keep.last ?_) | (with_reducible refine Keep.below (by assumption) ?_) | (with_reducible refine Keep.kept (by assumption) ?_) | (with_reducible refine Keep.alloc ?_) | (with_reducible refine Keep.same ?_) | ((with_reducible refine WpH.here ?_); first | (refine WpH.nil ?_; refine NoP.normal ?_) | (refine WpH.load (by rfl) (by rfl) (by go_simp; rfl) ?_; simp only [Act.put, List.setIfInBounds_toArray, List.set_cons_zero, List.set_cons_succ]) | (refine WpH.loadT (by rfl) (by rfl) (by go_simp; rfl) (by rintro _ _ ⟨⟩; exact ⟨_, _, _, _, _, _, by rfl, by assumption, by assumption⟩) ?_; simp only [Act.put, List.setIfInBounds_toArray, List.set_cons_zero, List.set_cons_succ]) | (refine WpH.pure (by rfl) (fun w_ => by go_simp; (try go_bits); rfl) ?_; simp only [Act.put, List.setIfInBounds_toArray, List.set_cons_zero, List.set_cons_succ]) | (refine WpH.wild1 (by rfl) (fun _ _ => ?_)) | (refine WpH.skip (by rfl) ?_; simp only [Act.put, List.setIfInBounds_toArray, List.set_cons_zero, List.set_cons_succ])) | go_values | go_skip | go_guarded | go_step | go_upon | go_back)
      go_roundw
      case rel =>
        obtain ⟨h1, h2, _⟩ := HH.out
        refine ⟨k + 1, by go_num, by omega, ?_, ?_⟩
        · rw [h1, h2]
          simpa using (((HB.out.alloc _).drew.step hb1).step hb2).set2
        · exact (((hbel.alloc (by omega) _).drew.trans ((hb1.mono (by simp; omega)).trans (hb2.mono (by omega)))).setCell (Nat.le_refl _) _).setCell (Nat.le_refl _) _
      case measure => simp [intOf]; omega
    · obtain rfl : k = n := by omega
      have hl : es.take k = es := List.take_of_length_le (by rw [Hr.out.1]; omega)
      rw [hl] at HB hz0 hz1
      clear hl
      go_wp2
      exact bodyPost_ret (v := .agg #[.int .i64 (liveOf es), .int .i64 (linesOf es)]) (by simp [results, Tryz.results121, go_sem, hz0, hz1]) rfl ⟨rfl, (hbel.setCell (Nat.le_refl _) _).setCell (Nat.le_refl _) _⟩
end Go.Proofs.YtfihjajllfihjaaGreatDoor
namespace Go.Proofs.YtfihjajllfihjaaGreatDoor
set_option linter.unusedSimpArgs false
set_option linter.unusedVariables false
open Go Go.RowKit

set_option maxHeartbeats 1000000 in
theorem made_any (l r : Tr) (pl pr : Option Addr) (A : Option Addr) (n c : Nat) (row : List El) (S : Nat → Prop) (w : World) (hl : IsTree w S l pl) (hr : IsTree w S r pr) (hrow : Row w S A n c row) (hne : row ≠ [])
    (hbd : l.all.length + row.length + r.all.length ≤ 1099511627776) :
    Calls Tryz.prog 134 #[.pointer pl, .slice A n c, .pointer pr] w (TreeRet w S (· = .node l row r)) := by
  have hn : n = row.length := hrow.1.symm
  subst hn
  have h1 := liveOf_le l.all
  have h2 := liveOf_le r.all
  have h3 := liveOf_le row
  have h4 := linesOf_le l.all
  have h5 := linesOf_le r.all
  have h6 := linesOf_le row
  have h7 := hl.high_le
  have h8 := hr.high_le
  have hl0 := hid hl
  have hr0 := hid hr
  have hrow0 := hid hrow
  go_enter Tryz.func134, Tryz.ntmps134
  have hB : Below w.heap.size w w := Below.refl _ _
  repeat' (first | (go_at_call 96; first | ((with_reducible refine (size_any l pl S _ hl).mono ?_); rintro _ _ ⟨rfl, rfl⟩; dsimp only) | ((with_reducible refine (size_any r pr S _ hr).mono ?_); rintro _ _ ⟨rfl, rfl⟩; dsimp only)) | (go_at_call 140; first | ((with_reducible refine (high_any l pl S _ hl).mono ?_); rintro _ _ ⟨rfl, rfl⟩; dsimp only) | ((with_reducible refine (high_any r pr S _ hr).mono ?_); rintro _ _ ⟨rfl, rfl⟩; dsimp only)) | (go_at_call 97; first | ((with_reducible refine (weighs_any l pl S _ hl).mono ?_); rintro _ wk ⟨rfl, hbk⟩; replace hl := hl.step hbk; replace hr := hr.step hbk; replace hrow := hrow.step hbk; replace hB := hB.trans (hbk.mono hB.size); dsimp only) | ((with_reducible refine (weighs_any r pr S _ hr).mono ?_); rintro _ wk ⟨rfl, hbk⟩; replace hl := hl.step hbk; replace hr := hr.step hbk; replace hrow := hrow.step hbk; replace hB := hB.trans (hbk.mono hB.size); dsimp only)) | (go_at_call 121; ((with_reducible refine (weigh_any A _ c row S _ hrow (by omega)).mono ?_); rintro _ wk ⟨rfl, hbk⟩; replace hl := hl.step hbk; replace hr := hr.step hbk; replace hrow := hrow.step hbk; replace hB := hB.trans (hbk.mono hB.size); dsimp only)) | (go_at_call 120; ((with_reducible refine (plus_in _ _ _ _ _ (by omega) (by omega) (by omega) (by omega) (by omega) (by omega)).mono ?_); rintro _ wk ⟨rfl, hbk⟩; replace hl := hl.step hbk; replace hr := hr.step hbk; replace hrow := hrow.step hbk; replace hB := hB.trans (hbk.mono hB.size); dsimp only)) | go_values | go_skip | go_guarded | go_step | go_upon | go_back)
  go_ret
  have hmax : (if l.high < r.high then (r.high : Int) else l.high) + 1 = ((Tr.node l row r).high : Int) := by
    simp only [Tr.high]
    split <;> omega
  have hlen : (l.all.length : Int) + row.length + r.all.length = ((Tr.node l row r).all.length : Int) := by simp [Tr.all]; omega
  have hliv : (liveOf l.all : Int) + liveOf row + liveOf r.all = (liveOf (Tr.node l row r).all : Int) := by simp [Tr.all, liveOf_append]; omega
  have hlin : (linesOf l.all : Int) + linesOf row + linesOf r.all = (linesOf (Tr.node l row r).all : Int) := by simp [Tr.all, linesOf_append]; omega
  rw [hmax, hlen, hliv, hlin]
  have hsz := hB.size
  have hblk := Blk.new wk 165 #[.slice A row.length c, .pointer pl, .pointer pr, .int .i64 (Tr.node l row r).all.length, .int .i64 (Tr.node l row r).high, .int .i64 (liveOf (Tr.node l row r).all), .int .i64 (linesOf (Tr.node l row r).all)]
  refine ⟨_, .node l row r, rfl, ⟨hne, wk.heap.size, A, row.length, c, pl, pr, rfl, .inr hsz, ?_, ?_, ?_, hblk.cell 0, hblk.cell 1, hblk.cell 2, hblk.cell 3, hblk.cell 4, hblk.cell 5, hblk.cell 6⟩, rfl, hB.alloc hsz _⟩
  · exact (hrow.keep (Same.alloc _ _ _)).more fun _ _ h => .inl h
  · exact (hl.keep (Same.alloc _ _ _)).more fun _ _ h => .inl h
  · exact (hr.keep (Same.alloc _ _ _)).more fun _ _ h => .inl h
end Go.Proofs.YtfihjajllfihjaaGreatDoor
