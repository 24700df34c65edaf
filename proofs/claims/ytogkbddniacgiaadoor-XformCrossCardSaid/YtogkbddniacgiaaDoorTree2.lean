/- What a row of elements weighs: the walk of weigh. Conditions: the row lies in memory; it has fewer than 2^40 elements. -/
import Derived.Test.YtogkbddniacgiaaDoorTree1
namespace Go.Proofs.YtogkbddniacgiaaDoor
set_option linter.unusedSimpArgs false
set_option linter.unusedVariables false
open Go Go.RowKit

theorem method_weight (v : Array Value) (w : World) : (method 313 36 (.agg v) "Weight").run Tryd.prog w = .ok (105, .agg v) w := by kernel_rfl

theorem take_snoc_el {es : List El} {k : Nat} {e : El} (h : es[k]? = some e) : es.take (k + 1) = es.take k ++ [e] := by
  obtain ⟨hk, rfl⟩ := List.getElem?_eq_some_iff.1 h
  rw [List.take_succ_eq_append_getElem hk]
theorem liveOf_snoc {es : List El} {k : Nat} {e : El} (h : es[k]? = some e) : liveOf (es.take (k + 1)) = liveOf (es.take k) + e.live := by
  rw [take_snoc_el h, liveOf_append]; simp [liveOf]
theorem linesOf_snoc {es : List El} {k : Nat} {e : El} (h : es[k]? = some e) : linesOf (es.take (k + 1)) = linesOf (es.take k) + e.lines := by
  rw [take_snoc_el h, linesOf_append]; simp [linesOf]

set_option maxHeartbeats 1000000 in
theorem weigh_any (A : Option Addr) (n c : Nat) (es : List El) (S : Nat → Prop) (w : World) (h : Row w S A n c es) (hn : n ≤ 1099511627776) :
    Calls Tryd.prog 96 #[.slice A n c] w fun e w' => e = .returned (.agg #[.int .i64 (liveOf es), .int .i64 (linesOf es)]) ∧ Below w.heap.size w w' := by
  have methW := method_weight
  have Hr := hid h
  clear h
  go_enter Tryd.func96, Tryd.ntmps96
  go_wp2
  go_loopw [7] (fun i wr => ∃ k : Nat, i = .int .i64 k ∧ k ≤ n ∧ Blk wr w.heap.size 93 #[.int .i64 (liveOf (es.take k)), .int .i64 (linesOf (es.take k))] ∧ Below w.heap.size w wr) (fun i wr => n - (intOf i).toNat)
  case atStart => exact ⟨0, rfl, by omega, Blk.new _ _ _, (Below.refl _ _).alloc (Nat.le_refl _) _⟩
  case round =>
    obtain ⟨k, rfl, hk, hblk, hbel⟩ := hrel
    have hl1 := liveOf_le (es.take k)
    have hl2 := linesOf_le (es.take k)
    have hl3 : (es.take k).length ≤ k := List.length_take_le _ _
    have hsz := hblk.lt
    obtain ⟨hz0, hz1, hf0, hf1⟩ := hblk.two
    have HB := hid hblk
    clear hblk
    by_cases hlt : k < n
    · obtain ⟨b, off, e, rfl, hS, he, c0, c1, c2, c3, c4⟩ := (Hr.out.step hbel).at_ hlt
      have hls := liveOf_snoc he
      have hns := linesOf_snoc he
      have hel := e.live_le
      have hen := e.lines_le
      have HH := hid (And.intro hls (And.intro hns he))
      clear hls hns he
      go_wp2_with fail
      clear c0 c1 c2 c3 c4
      refine wp_region_order [(0, true, false), (1, true, false), (2, true, false), (3, false, false), (4, false, false), (5, false, true)] (by kernel_rfl) (by kernel_rfl) (by kernel_rfl) rfl rfl ?_
      repeat' (first | (go_at_call 105; refine (weight_any e _).mono ?_; rintro _ w1 ⟨rfl, hb1⟩; obtain ⟨hc1, hg1⟩ := bcell hb1; have hs1 := hb1.size; simp only [World.size_drew, World.size_alloc] at hs1; have hq1 : w.heap.size < w1.heap.size := (by omega); dsimp only) | (go_at_call 94; refine (plus_in _ _ _ _ _ (by omega) (by omega) (by omega) (by omega) (by omega) (by omega)).mono ?_; rintro _ w2 ⟨rfl, hb2⟩; obtain ⟨hc2, hg2⟩ := bcell hb2; have hs2 := hb2.size; dsimp only) | (with_reducible refine Keep.last ?_) | (with_reducible refine Keep.below (by assumption) ?_) | (with_reducible refine Keep.kept (by assumption) ?_) | (with_reducible refine Keep.alloc ?_) | (with_reducible refine Keep.same ?_) | ((with_reducible refine WpH.here ?_); first | (refine WpH.nil ?_; refine NoP.normal ?_) | (refine WpH.load (by rfl) (by rfl) (by go_simp; rfl) ?_; simp only [Act.put, List.setIfInBounds_toArray, List.set_cons_zero, List.set_cons_succ]) | (refine WpH.loadT (by rfl) (by rfl) (by go_simp; rfl) (by rintro _ _ ⟨⟩; exact ⟨_, _, _, _, _, _, by rfl, by assumption, by assumption⟩) ?_; simp only [Act.put, List.setIfInBounds_toArray, List.set_cons_zero, List.set_cons_succ]) | (refine WpH.pure (by rfl) (fun w_ => by go_simp; (try go_bits); rfl) ?_; simp only [Act.put, List.setIfInBounds_toArray, List.set_cons_zero, List.set_cons_succ]) | (refine WpH.wild1 (by rfl) (fun _ _ => ?_)) | (refine WpH.skip (by rfl) ?_; simp only [Act.put, List.setIfInBounds_toArray, List.set_cons_zero, List.set_cons_succ])) | go_values | go_skip | go_guarded | go_step | go_upon | go_back)
      go_roundw
      case rel =>
        obtain ⟨h1, h2, _⟩ := HH.out
        refine ⟨k + 1, by go_num, by omega, ?_, ?_⟩
        · rw [h1, h2]
          simpa using (((HB.out.alloc _).drew.step hb1).step hb2).set2
        · exact (((hbel.alloc (by omega) _).drew.trans ((hb1.mono (by simp; omega)).trans (hb2.mono (by omega)))).setCell (Nat.le_refl _) _).setCell (Nat.le_refl _) _
      case measure => simp [intOf]; omega
    · obtain rfl : k = n := by omega
      have hl : es.take k = es := List.take_of_length_le (by rw [Hr.out.1]; omega)
      rw [hl] at HB hz0 hz1
      clear hl
      go_wp2
      exact bodyPost_ret (v := .agg #[.int .i64 (liveOf es), .int .i64 (linesOf es)]) (by simp [results, Tryd.results96, go_sem, hz0, hz1]) rfl ⟨rfl, (hbel.setCell (Nat.le_refl _) _).setCell (Nat.le_refl _) _⟩
end Go.Proofs.YtogkbddniacgiaaDoor
