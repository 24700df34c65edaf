/- The statements' own helpers of chapter 4: Within, begun, wakes. No condition but room for the numbers. -/
import Derived.Test.YtogkbddniacgiaaDoorTree12
namespace Go.Proofs.YtogkbddniacgiaaDoor
set_option linter.unusedSimpArgs false
set_option linter.unusedVariables false
open Go Go.RowKit
theorem within_any (n m : Int) (hm : 0 < m) (hm2 : m ≤ 4611686018427387904) (w : World) :
    Calls Tryd.prog 23 #[.int .i64 n, .int .i64 m] w fun e w' => e = .returned (.int .i64 (n % m)) ∧ w = w' := by
  have h0 : ¬ m = 0 := by omega
  have h1 := Int.tmod_lt_of_pos n hm
  have h2 : -m < n.tmod m := by
    have := Int.lt_tmod_of_pos n hm
    omega
  have h3 : n % m = if n.tmod m < 0 then n.tmod m + m else n.tmod m := by
    rw [Int.tmod_eq_emod]
    have := Int.emod_nonneg n h0
    have := Int.emod_lt_of_pos n hm
    split <;> split <;> omega
  have H3 := hid h3
  clear h3
  have hw : wrap64 (n.tmod m) = n.tmod m := IntWalk.wrap64_in _ ⟨by omega, by omega⟩
  by_cases hlt : n.tmod m < 0
  · go_enter Tryd.func23, Tryd.ntmps23
    go_wp2
    go_ret
    exact ⟨by rw [H3.out, if_pos hlt]; rfl, rfl⟩
  · go_enter Tryd.func23, Tryd.ntmps23
    go_wp2
    go_ret
    exact ⟨by rw [H3.out, if_neg (by omega)]; rfl, rfl⟩
theorem Row.lit (w : World) (cs : Array Value) (es : List El) (n : Nat) (S : Nat → Prop) (hS : S w.heap.size) (hn : es.length = n) (hm : n ≤ maxLen) (hc : cs.toList = cellsOf es) : Row (w.alloc (.cells cs 36)) S (some ⟨w.heap.size, 0, none⟩) n n es := by
  refine ⟨hn, Nat.le_refl _, hm, fun _ => ⟨w.heap.size, 0, rfl, hS, fun j u hu => ?_⟩⟩
  rw [Nat.zero_add, (Blk.new w 36 cs).cell j, ← hu, ← hc]
  simp
theorem begun_any (chunk : Int) (w : World) :
    Calls Tryd.prog 19 #[.int .i64 chunk] w fun e w' => ∃ g gt, e = .returned (.pointer (some ⟨g, 0, none⟩)) ∧ w.heap.size ≤ gt ∧ w.heap.size ≤ g ∧ gt ≠ g ∧
      Blk w' gt 121 #[.int .i64 ((2 + (chunk % 63).toNat : Nat) : Int), .pointer none] ∧ Blk w' g 31 #[.pointer (some ⟨gt, 0, none⟩), .slice none 0 0, .int .i64 ((2 + (chunk % 63).toNat : Nat) : Int)] ∧ Below w.heap.size w w' := by
  have h1 := Int.emod_nonneg chunk (show (63 : Int) ≠ 0 by decide)
  have h2 := Int.emod_lt_of_pos chunk (show (0 : Int) < 63 by decide)
  obtain ⟨c, hc⟩ : ∃ c : Nat, chunk % 63 = c := ⟨(chunk % 63).toNat, by omega⟩
  have HW := hid (within_any chunk 63 (by decide) (by decide) w)
  rw [hc] at h1 h2 HW ⊢
  have hc2 : c < 63 := by omega
  rw [show (((2 + ((c : Int)).toNat : Nat)) : Int) = ((2 + c : Nat) : Int) from by simp]
  have HN := hid (tnew_ok (2 + c) w (by omega) (by omega))
  rw [show ((2 + c : Nat) : Int) = 2 + c from by omega] at HN ⊢
  clear hc h1 h2
  go_enter Tryd.func19, Tryd.ntmps19
  repeat' (first | (go_at_call 23; go_must ((with_reducible refine Calls.mono HW.out ?_); rintro _ _ ⟨rfl, rfl⟩; dsimp only)) | (go_at_call 26; go_must ((with_reducible refine Calls.mono HN.out ?_); rintro _ w1 ⟨gt, rfl, hgt, hbt, hb1⟩; dsimp only)) | (with_reducible refine Keep.last ?_) | (with_reducible refine Keep.below (by assumption) ?_) | (with_reducible refine Keep.kept (by assumption) ?_) | (with_reducible refine Keep.alloc ?_) | (with_reducible refine Keep.same ?_) | ((with_reducible refine WpH.here ?_); first | (refine WpH.nil ?_; refine NoP.normal ?_) | (refine WpH.load (by rfl) (by rfl) (by go_simp; rfl) ?_; simp only [Act.put, List.setIfInBounds_toArray, List.set_cons_zero, List.set_cons_succ]) | (refine WpH.loadT (by rfl) (by rfl) (by go_simp; rfl) (by rintro _ _ ⟨⟩; exact ⟨_, _, _, _, _, _, by rfl, by assumption, by assumption⟩) ?_; simp only [Act.put, List.setIfInBounds_toArray, List.set_cons_zero, List.set_cons_succ]) | (refine WpH.pure (by rfl) (fun w_ => by go_simp; (try go_bits); rfl) ?_; simp only [Act.put, List.setIfInBounds_toArray, List.set_cons_zero, List.set_cons_succ]) | (refine WpH.wild1 (by rfl) (fun _ _ => ?_)) | (refine WpH.skip (by rfl) ?_; simp only [Act.put, List.setIfInBounds_toArray, List.set_cons_zero, List.set_cons_succ])) | go_values | go_skip | go_guarded | go_step | go_upon | go_back)
  go_ret
  refine ⟨w1.heap.size, gt, rfl, hgt, hb1.size, Nat.ne_of_lt hbt.lt, hbt.alloc _, Blk.new _ _ _, hb1.alloc hb1.size _⟩
@[go_sem] theorem field_w0 (x y : Value) (w : World) : (Instr.field 93 (.agg #[x, y]) 0).run Tryd.prog w = .ok x w := by kernel_rfl
@[go_sem] theorem field_w1 (x y : Value) (w : World) : (Instr.field 93 (.agg #[x, y]) 1).run Tryd.prog w = .ok y w := by kernel_rfl
def wakeEls : List El := [⟨0, 0, 0, 97, 0⟩, ⟨0, 0, 0, 98, 1⟩, ⟨0, 0, 0, 99, 0⟩]
theorem wake_find {m : Nat} {e : El} (h : wakeEls[m]? = some e) (h1 : e.live = 1) (h2 : liveOf (wakeEls.take m) = 1) : m = 2 := by
  have hm : m < 3 := (List.getElem?_eq_some_iff.1 h).1
  rcases (show m = 0 ∨ m = 1 ∨ m = 2 from by omega) with rfl | rfl | rfl
  · exact absurd h2 (by decide)
  · obtain rfl := Option.some.inj h
    exact absurd h1 (by decide)
  · rfl
def wakeCells : Array Value := #[.int .i64 0, .int .i64 0, .int .i64 0, .int .i32 97, .int .i64 0, .int .i64 0, .int .i64 0, .int .i64 0, .int .i32 98, .int .i64 1, .int .i64 0, .int .i64 0, .int .i64 0, .int .i32 99, .int .i64 0]
theorem But.blk {w w' : World} {bt g : Nat} {t : TypeId} {cs : Array Value} (h : But bt w w') (hb : Blk w g t cs) (hne : g ≠ bt) : Blk w' g t cs := (h.block g hb.lt hne).trans hb
theorem wake_insert (w : World) (gt c : Nat) (hc2 : 2 ≤ c) (hc : c ≤ 64) (hbt : Blk w gt 121 #[.int .i64 c, .pointer none]) :
    Calls Tryd.prog 20 #[.pointer (some ⟨gt, 0, none⟩), .int .i64 0, .slice (some ⟨w.heap.size, 0, none⟩) 3 3] (w.alloc (.cells wakeCells 36)) fun e w' => ∃ p T, e = .returned .nilIface ∧ IsTree w' (· ≠ gt) T p ∧ Blk w' gt 121 #[.int .i64 c, .pointer p] ∧ T.all = wakeEls ∧ But gt (w.alloc (.cells wakeCells 36)) w' := by
  have H := insert_ok .nil none gt c 0 (some ⟨w.heap.size, 0, none⟩) 3 3 wakeEls (· ≠ gt) (fun _ => True) (w.alloc (.cells wakeCells 36)) (hbt.alloc _) rfl (fun h => h rfl) (Row.lit w _ _ _ _ trivial rfl (by decide) rfl) (by decide) (Nat.zero_le _) hc2 hc
  refine H.mono ?_
  rintro e w' ⟨p, T, rfl, hT, hb, ⟨hq, _⟩, hB⟩
  have hlt := (hbt.alloc (.cells wakeCells 36)).lt
  exact ⟨p, T, rfl, hT.more (fun b _ h => by rcases h with h | h; exact h; exact fun e => by subst e; omega), hb, by rw [hq]; simp [Tr.all], hB⟩
set_option maxRecDepth 200000 in
set_option maxHeartbeats 2000000 in
theorem wakes4_any (w : World) : Calls Tryd.prog 25 #[] w fun e w' => e = .returned (.bool true) ∧ Below w.heap.size w w' := by
  have HG := hid (begun_any 0 w)
  go_enter Tryd.func25, Tryd.ntmps25
  repeat' (first | (go_at_call 19; go_must ((with_reducible refine Calls.mono HG.out ?_); rintro _ w1 ⟨g, gt, rfl, hgt, hg, hne, hbt, hbg, hb1⟩; have HI := hid (wake_insert w1 gt _ (by decide) (by decide) hbt); have p0 := hbg.cell 0; simp at p0; unfold wakeCells at HI; dsimp only)) | (go_at_call 20; go_must ((with_reducible refine Calls.mono HI.out ?_); rintro _ w2 ⟨p2, T2, rfl, hT2, hbt2, hall2, hB2⟩; have hbg2 := hB2.blk (hbg.alloc _) (Ne.symm hne); have p2 := hbg2.cell 0; simp at p2; have HF := hid (find_ok T2 _ gt _ 1 _ w2 hbt2 hT2 (by rw [hall2]; decide) (by rw [hall2]; decide)); dsimp only)) | (go_at_call 58; go_must ((with_reducible refine Calls.mono HF.out ?_); rintro _ w3 ⟨⟨m, e0, rfl, hm1, hm2, hm3⟩, hb3⟩; rw [hall2] at hm1 hm3; obtain rfl := wake_find hm1 hm2 hm3; clear hm1 hm2 hm3; have hbg3 := hbg2.step hb3; have p3 := hbg3.cell 0; simp at p3; have hbt3 := hbt2.step hb3; have hT3 := hT2.step hb3; have HL := hid (tlen_any T2 _ gt _ w3 hbt3 hT3); have HW := hid (tweight_any T2 _ gt _ w3 hbt3 hT3); rw [hall2] at HL HW; rw [show liveOf wakeEls = 2 from rfl, show linesOf wakeEls = 0 from rfl] at HW; rw [show wakeEls.length = 3 from rfl] at HL; dsimp only)) | (go_at_call 22; go_must ((with_reducible refine Calls.mono HL.out ?_); rintro _ _ ⟨rfl, rfl⟩; dsimp only)) | (go_at_call 60; go_must ((with_reducible refine Calls.mono HW.out ?_); rintro _ w4 ⟨rfl, hb4⟩; dsimp only)) | (with_reducible refine Keep.last ?_) | (with_reducible refine Keep.below (by assumption) ?_) | (with_reducible refine Keep.kept (by assumption) ?_) | (with_reducible refine Keep.alloc ?_) | (with_reducible refine Keep.same ?_) | ((with_reducible refine WpH.here ?_); first | (refine WpH.nil ?_; refine NoP.normal ?_) | (refine WpH.load (by rfl) (by rfl) (by go_simp; rfl) ?_; simp only [Act.put, List.setIfInBounds_toArray, List.set_cons_zero, List.set_cons_succ]) | (refine WpH.loadT (by rfl) (by rfl) (by go_simp; rfl) (by rintro _ _ ⟨⟩; exact ⟨_, _, _, _, _, _, by rfl, by assumption, by assumption⟩) ?_; simp only [Act.put, List.setIfInBounds_toArray, List.set_cons_zero, List.set_cons_succ]) | (refine WpH.pure (by rfl) (fun w_ => by go_simp; (try go_bits); rfl) ?_; simp only [Act.put, List.setIfInBounds_toArray, List.set_cons_zero, List.set_cons_succ]) | (refine WpH.wild1 (by rfl) (fun _ _ => ?_)) | (refine WpH.skip (by rfl) ?_; simp only [Act.put, List.setIfInBounds_toArray, List.set_cons_zero, List.set_cons_succ])) | go_values | go_skip | go_guarded | go_step | go_upon | go_back)
  go_ret
  have B2 := hB2.below_new (hb1.alloc hb1.size _) hgt
  have B3 := B2.trans (hb3.mono B2.size)
  exact ⟨rfl, B3.trans (hb4.mono B3.size)⟩
end Go.Proofs.YtogkbddniacgiaaDoor
