/- The leaves' lengths told, held against what they must be, spoilt: the walks. Conditions: the tree lies in memory, fewer than 601 elements. -/
import Derived.Test.YtogkbddniacgiaaDoorPair
import Derived.Test.YtogkbddniacgiaaDoorLeaves
namespace Go.Proofs.YtogkbddniacgiaaDoor
set_option linter.unusedSimpArgs false
set_option linter.unusedVariables false
open Go Go.RowKit
set_option maxRecDepth 100000 in
set_option maxHeartbeats 2000000 in
/-- leaves gone over, told one by one -/
theorem leaves_rows (g : Nat) (cap : Array Value) (hg : ∀ args w, (callFunc g args).run Tryd.prog w = .ok (.enter g args) w) (S : Nat → Prop) (It : List (List El) → World → Prop) (all : List (List El))
    (hE : ∀ (pre : List (List El)) A n c row post W, It pre W → Row W S A n c row → row ≠ [] → all = pre ++ [row] ++ post → Calls Tryd.prog g (#[.slice A n c] ++ cap) W fun e W' => e = .returned (.bool true) ∧ It (pre ++ [row]) W' ∧ KS S W W') (t : Tr) :
    ∀ (p : Option Addr) (pre post : List (List El)) (W : World), IsTree W S t p → It pre W → all = pre ++ t.rows ++ post →
      Calls Tryd.prog 75 #[.pointer p, .func (.func g) #[] cap] W fun e W' => e = .returned (.bool true) ∧ It (pre ++ t.rows) W' ∧ KS S W W' := by
  induction t with
  | nil =>
    intro p pre post W ht hI _
    obtain rfl := ht
    go_enter Tryd.func75, Tryd.ntmps75
    repeat' (first | (with_reducible refine Keep.last ?_) | (with_reducible refine Keep.below (by assumption) ?_) | (with_reducible refine Keep.kept (by assumption) ?_) | (with_reducible refine Keep.alloc ?_) | (with_reducible refine Keep.same ?_) | ((with_reducible refine WpH.here ?_); first | (refine WpH.nil ?_; refine NoP.normal ?_) | (refine WpH.load (by rfl) (by rfl) (by go_simp; rfl) ?_; simp only [Act.put, List.setIfInBounds_toArray, List.set_cons_zero, List.set_cons_succ]) | (refine WpH.loadT (by rfl) (by rfl) (by go_simp; rfl) (by rintro _ _ ⟨⟩; exact ⟨_, _, _, _, _, _, by rfl, by assumption, by assumption⟩) ?_; simp only [Act.put, List.setIfInBounds_toArray, List.set_cons_zero, List.set_cons_succ]) | (refine WpH.pure (by rfl) (fun w_ => by go_simp; (try go_bits); rfl) ?_; simp only [Act.put, List.setIfInBounds_toArray, List.set_cons_zero, List.set_cons_succ]) | (refine WpH.wild1 (by rfl) (fun _ _ => ?_)) | (refine WpH.skip (by rfl) ?_; simp only [Act.put, List.setIfInBounds_toArray, List.set_cons_zero, List.set_cons_succ])) | go_values | go_skip | go_guarded | go_step | go_upon | go_back)
    go_ret
    exact ⟨rfl, by simpa [Tr.rows] using hI, KS.refl _ _⟩
  | node l row r ihl ihr =>
    intro p pre post W ht hI hall
    obtain ⟨hne, b, A, n, c, pl, pr, rfl, hS, hrow, hl, hr, c0, c1, c2, c3, c4, c5, c6⟩ := ht
    clear c3 c4 c5 c6
    have hlt := lt_of_cell' c0
    simp only [Tr.rows] at hall ⊢
    have h1 := hid (ihl pl pre (row :: r.rows ++ post) W hl hI (by rw [hall]; simp))
    have h2 := hid (fun W1 (hI1 : It (pre ++ l.rows) W1) (hk : KS S W W1) => hE (pre ++ l.rows) A n c row (r.rows ++ post) W1 hI1 (hrow.keep hk.same) hne (by rw [hall]; simp))
    have h3 := hid (fun W2 (hI2 : It (pre ++ l.rows ++ [row]) W2) (hk : KS S W W2) => ihr pr (pre ++ l.rows ++ [row]) post W2 (hr.keep hk.same) hI2 (by rw [hall]; simp))
    clear ihl ihr hE hall
    go_enter Tryd.func75, Tryd.ntmps75
    repeat' (first | (go_at_call 75; first | ((with_reducible refine Calls.mono H3.out ?_); clear H3; rintro _ W3 ⟨rfl, hI3, hk3⟩; all_goals dsimp only) | (go_must ((with_reducible refine Calls.mono h1.out ?_); clear h1; rintro _ W1 ⟨rfl, hI1, hk1⟩; (have H2 := hid (h2.out W1 hI1 hk1); have d0 := hk1.cell hS c0; have d2 := hk1.cell hS c2); all_goals dsimp only))) | ((with_reducible refine calls_at g ?_); go_must ((with_reducible refine Calls.mono H2.out ?_); clear H2; rintro _ W2 ⟨rfl, hI2, hk2⟩; (have hk12 := hk1.trans hk2; have H3 := hid (h3.out W2 hI2 hk12); have e2 := hk2.cell hS d2; clear d2 d0); all_goals dsimp only)) | (with_reducible refine Keep.last ?_) | (with_reducible refine Keep.below (by assumption) ?_) | (with_reducible refine Keep.kept (by assumption) ?_) | (with_reducible refine Keep.alloc ?_) | (with_reducible refine Keep.same ?_) | ((with_reducible refine WpH.here ?_); first | (refine WpH.nil ?_; refine NoP.normal ?_) | (refine WpH.load (by rfl) (by rfl) (by go_simp; rfl) ?_; simp only [Act.put, List.setIfInBounds_toArray, List.set_cons_zero, List.set_cons_succ]) | (refine WpH.loadT (by rfl) (by rfl) (by go_simp; rfl) (by rintro _ _ ⟨⟩; exact ⟨_, _, _, _, _, _, by rfl, by assumption, by assumption⟩) ?_; simp only [Act.put, List.setIfInBounds_toArray, List.set_cons_zero, List.set_cons_succ]) | (refine WpH.pure (by rfl) (fun w_ => by go_simp; (try go_bits); rfl) ?_; simp only [Act.put, List.setIfInBounds_toArray, List.set_cons_zero, List.set_cons_succ]) | (refine WpH.wild1 (by rfl) (fun _ _ => ?_)) | (refine WpH.skip (by rfl) ?_; simp only [Act.put, List.setIfInBounds_toArray, List.set_cons_zero, List.set_cons_succ])) | go_values | go_skip | go_guarded | go_step | go_upon | go_back)
    go_ret
    exact ⟨rfl, by simpa [List.append_assoc] using hI3, hk12.trans hk3⟩
theorem gcells_int (l : List Int) : gcells l = l.map (Value.int .i64) := by
  induction l with
  | nil => rfl
  | cons x l ih => rw [gcells_cons, ih]; rfl
theorem gown_row {t : TypeId} {w : World} {base : Nat} {A : Option Addr} {n c : Nat} {es : List Int} (h : GOwn t w base A n c es) (hn : 0 < n) : ∃ g cur, A = some ⟨g, 0, none⟩ ∧ base ≤ g ∧ Blk w g t cur ∧ cur.size = c ∧ n ≤ c ∧ c ≤ maxLen ∧ cur.toList.take n = gcells es := by
  have hc := h.cap_le
  rcases h.2.2 with ⟨_, h0⟩ | ⟨g, cap, cur, e, hbg, hh, h1, h2, h3, h4⟩
  · omega
  · injection e with e1 e2 e3
    subst e3
    exact ⟨g, cur, e1, hbg, hh, h3.trans (Nat.mul_one _), h1, hc.2, by rw [← h4]; congr 1; exact (Nat.mul_one n).symm⟩
theorem GOwn.set1 {w : World} {base g n c i : Nat} {es : List Int} {t : TypeId} (h : GOwn t w base (some ⟨g, 0, none⟩) n c es) (v : Int) (hi : i < n) :
    GOwn t (w.setCell ⟨g, i, none⟩ (.int .i64 v)) base (some ⟨g, 0, none⟩) n c (es.set i v) := by
  obtain ⟨g', cur, e1, hbg, hb, hs, hnc, hc, ht⟩ := gown_row h (by omega)
  injection e1 with e1
  injection e1 with e1
  subst e1
  refine ⟨by simpa using h.1, by rw [gcells_length, List.length_set, h.1], .inr ⟨g, c, _, rfl, hbg, hb.set_ i (.int .i64 v), hnc, hc, ?_, ?_⟩⟩
  · simp [hs]; exact (Nat.mul_one c).symm
  · rw [gcells_int, List.map_set, ← gcells_int, ← ht]
    simp only [Array.toList_setIfInBounds]
    rw [show n * Enc.k Int = n from Nat.mul_one n, List.take_set]
/-- a number of a row of the call's own -/
theorem own_int {t : TypeId} {w : World} {base g n c : Nat} {es : List Int} (h : GOwn t w base (some ⟨g, 0, none⟩) n c es) {i : Nat} {v : Int} (hv : es[i]? = some v) : w.cell? ⟨g, i, none⟩ = some (.int .i64 v) ∧ w.frozen? ⟨g, i, none⟩ = false ∧ g < w.heap.size := by
  have hi : i < n := by rw [← h.1]; exact (List.getElem?_eq_some_iff.1 hv).1
  obtain ⟨g', cur, e1, hbg, hb, hs, hnc, hc, ht⟩ := gown_row h (by omega)
  injection e1 with e1
  injection e1 with e1
  subst e1
  refine ⟨?_, hb.frozen _, hb.lt⟩
  rw [hb.cell, ← Array.getElem?_toList, ← List.getElem?_take_of_lt hi, ht, gcells_int, List.getElem?_map, hv]
  rfl
set_option maxRecDepth 20000 in
theorem chunks1_any (lb base k c n d : Nat) (A R : Option Addr) (es : List Int) (row : List El) (S : Nat → Prop) (w : World) (hl : Blk w lb 48 #[.slice A k c]) (ho : GOwn 3 w base A k c es) (hr : Row w S R n d row) (hb : base ≤ w.heap.size) (hlb : lb < base) (hk : k ≤ 1073741824) :
    Calls Tryd.prog 125 #[.slice R n d, .pointer (some ⟨lb, 0, none⟩)] w fun e w' => e = .returned (.bool true) ∧ ∃ A' c', Blk w' lb 48 #[.slice A' (k + 1) c'] ∧ GOwn 3 w' base A' (k + 1) c' (es ++ [(n : Int)]) ∧ Below lb w w' := by
  have c0 : w.cell? ⟨lb, 0, none⟩ = some (.slice A k c) := hl.cell 0
  have hll := hl.lt
  have b1 : Below w.heap.size w (w.alloc (.cells #[.int .i64 n] 3)) := balloc (Below.refl _ _)
  have hl1 := hl.step b1
  have ho1 := ho.step b1
  have hrow : GRow (w.alloc (.cells #[.int .i64 n] 3)) (fun _ => True) (some ⟨w.heap.size, 0, none⟩) 1 1 [(n : Int)] := (GOwn.lit (t := 3) w #[.int .i64 n] [(n : Int)] 0 (Nat.zero_le _) (by show 1 ≤ maxLen; decide) rfl).row fun _ _ _ => trivial
  have hz := Nat.le_trans hb b1.size
  have hnl := hr.len_le
  go_enter Tryd.func125, Tryd.ntmps125
  repeat' (first | ((with_reducible refine app_ints_here ?_); refine wp_append_ints base A _ k c 1 1 es [(n : Int)] _ (by rfl) (by rfl) ho1 hrow hz (by omega) ?_; intro A' c' w2 ho2 hb2 hsm2 hat2 hz2; have hl2 : Blk w2 lb 48 #[.slice A k c] := hl1.below hb2 hlb; have d0 := hl2.cell 0; have f0 := hl2.frozen 0; simp at d0) | (with_reducible refine Keep.last ?_) | (with_reducible refine Keep.below (by assumption) ?_) | (with_reducible refine Keep.kept (by assumption) ?_) | (with_reducible refine Keep.alloc ?_) | (with_reducible refine Keep.same ?_) | ((with_reducible refine WpH.here ?_); first | (refine WpH.nil ?_; refine NoP.normal ?_) | (refine WpH.load (by rfl) (by rfl) (by go_simp; rfl) ?_; simp only [Act.put, List.setIfInBounds_toArray, List.set_cons_zero, List.set_cons_succ]) | (refine WpH.loadT (by rfl) (by rfl) (by go_simp; rfl) (by rintro _ _ ⟨⟩; exact ⟨_, _, _, _, _, _, by rfl, by assumption, by assumption⟩) ?_; simp only [Act.put, List.setIfInBounds_toArray, List.set_cons_zero, List.set_cons_succ]) | (refine WpH.pure (by rfl) (fun w_ => by go_simp; (try go_bits); rfl) ?_; simp only [Act.put, List.setIfInBounds_toArray, List.set_cons_zero, List.set_cons_succ]) | (refine WpH.wild1 (by rfl) (fun _ _ => ?_)) | (refine WpH.skip (by rfl) ?_; simp only [Act.put, List.setIfInBounds_toArray, List.set_cons_zero, List.set_cons_succ])) | go_values | go_skip | go_guarded | go_step | go_upon | go_back)
  skip
  go_ret
  refine ⟨rfl, A', c', hl2.set_ 0 _, ?_, ((b1.mono (Nat.le_of_lt hll)).trans ?_).setCell (Nat.le_refl _) _⟩
  · exact ho2.keep (Same.setCell (S := (· ≠ lb)) _ (by simp) _) fun a ha => by have := (ho2.block a ha).1; show a.block ≠ lb; omega
  · exact hb2.mono (by omega)
set_option maxRecDepth 20000 in
set_option maxHeartbeats 1000000 in
theorem chunks_any (T : Tr) (p : Option Addr) (gt ck : Nat) (S : Nat → Prop) (w : World) (hg : Blk w gt 121 #[.int .i64 ck, .pointer p]) (hT : IsTree w S T p) (hl : T.rows.length ≤ 1073741824) :
    Calls Tryd.prog 92 #[.pointer (some ⟨gt, 0, none⟩)] w fun e w' => ∃ A c, e = .returned (.slice A T.rows.length c) ∧ GOwn 3 w' (w.heap.size + 1) A T.rows.length c (T.rows.map fun r => (r.length : Int)) ∧ w.heap.size + 1 ≤ w'.heap.size ∧ Below w.heap.size w w' := by
  have b1 : Below w.heap.size w (w.alloc (.cells #[.slice none 0 0] 48)) := balloc (Below.refl _ _)
  have hL := Blk.new w 48 #[.slice none 0 0]
  have s1 := box_sz w (.cells #[.slice none 0 0] 48)
  have hE : ∀ (pre : List (List El)) A n c row post W, (∃ A' c', Blk W w.heap.size 48 #[.slice A' pre.length c'] ∧ GOwn 3 W (w.heap.size + 1) A' pre.length c' (pre.map fun r => (r.length : Int)) ∧ w.heap.size + 1 ≤ W.heap.size ∧ Below w.heap.size w W) →
      Row W (fun b => S b ∧ b < w.heap.size) A n c row → row ≠ [] → T.rows = pre ++ [row] ++ post → Calls Tryd.prog 125 (#[.slice A n c] ++ #[.pointer (some ⟨w.heap.size, 0, none⟩)]) W fun e W' => e = .returned (.bool true) ∧ (∃ A' c', Blk W' w.heap.size 48 #[.slice A' (pre ++ [row]).length c'] ∧ GOwn 3 W' (w.heap.size + 1) A' (pre ++ [row]).length c' ((pre ++ [row]).map fun r => (r.length : Int)) ∧ w.heap.size + 1 ≤ W'.heap.size ∧ Below w.heap.size w W') ∧ KS (fun b => S b ∧ b < w.heap.size) W W' := by
    intro pre A n c row post W ⟨A', c', h1, h2, h3, h4⟩ hrow hne hpa
    have hpl : pre.length ≤ T.rows.length := by rw [hpa]; simp
    refine (chunks1_any w.heap.size (w.heap.size + 1) pre.length c' n c A' A _ row _ W h1 h2 hrow h3 (Nat.lt_succ_self _) (by omega)).mono ?_
    rintro _ W' ⟨rfl, A2, c2, g1, g2, g3⟩
    refine ⟨rfl, ⟨A2, c2, by simpa using g1, ?_, Nat.le_trans h3 g3.size, h4.trans g3⟩, g3.size, fun b hb _ => g3.block b hb.2⟩
    have := g2
    rw [← hrow.1] at this
    simpa using this
  have hT1 := ((hT.more (S' := fun b => S b ∧ b < w.heap.size) fun b h1 h2 => ⟨h2, h1⟩)).step b1
  have HL := hid (leaves_rows 125 #[.pointer (some ⟨w.heap.size, 0, none⟩)] (fun args w => enters_of Tryd.func125 (by kernel_rfl) rfl args w) (fun b => S b ∧ b < w.heap.size) _ T.rows hE T p [] [] _ hT1 ⟨none, 0, hL, GOwn.nil _ _ _, by omega, b1⟩ (by simp))
  have c1 := (hg.step b1).cell 1
  simp at c1
  have hgl := hg.lt
  go_enter Tryd.func92, Tryd.ntmps92
  repeat' (first | (go_at_call 75; go_must ((with_reducible refine Calls.mono HL.out ?_); rintro _ w2 ⟨rfl, ⟨A2, c2, hl2, ho2, hz2, hb2⟩, hk2⟩; have d0 := hl2.cell 0; simp at d0; have hll := hl2.lt; dsimp only)) | (with_reducible refine Keep.last ?_) | (with_reducible refine Keep.below (by assumption) ?_) | (with_reducible refine Keep.kept (by assumption) ?_) | (with_reducible refine Keep.alloc ?_) | (with_reducible refine Keep.same ?_) | ((with_reducible refine WpH.here ?_); first | (refine WpH.nil ?_; refine NoP.normal ?_) | (refine WpH.load (by rfl) (by rfl) (by go_simp; rfl) ?_; simp only [Act.put, List.setIfInBounds_toArray, List.set_cons_zero, List.set_cons_succ]) | (refine WpH.loadT (by rfl) (by rfl) (by go_simp; rfl) (by rintro _ _ ⟨⟩; exact ⟨_, _, _, _, _, _, by rfl, by assumption, by assumption⟩) ?_; simp only [Act.put, List.setIfInBounds_toArray, List.set_cons_zero, List.set_cons_succ]) | (refine WpH.pure (by rfl) (fun w_ => by go_simp; (try go_bits); rfl) ?_; simp only [Act.put, List.setIfInBounds_toArray, List.set_cons_zero, List.set_cons_succ]) | (refine WpH.wild1 (by rfl) (fun _ _ => ?_)) | (refine WpH.skip (by rfl) ?_; simp only [Act.put, List.setIfInBounds_toArray, List.set_cons_zero, List.set_cons_succ])) | go_values | go_skip | go_guarded | go_step | go_upon | go_back)
  skip
  go_ret
  exact ⟨A2, c2, rfl, by simpa using ho2, hz2, hb2⟩
set_option maxRecDepth 20000 in
set_option maxHeartbeats 1000000 in
theorem spoilInts_any (A : Option Addr) (n c base : Nat) (es : List Int) (w : World) (ho : GOwn 3 w base A n c es) (hn : n ≤ 1000000) (hb : base ≤ w.heap.size) :
    Calls Tryd.prog 93 #[.slice A n c] w fun e w' => e = .returned (.tuple #[]) ∧ Below base w w' := by
  go_enter Tryd.func93, Tryd.ntmps93
  repeat' (first | (with_reducible refine Keep.last ?_) | (with_reducible refine Keep.below (by assumption) ?_) | (with_reducible refine Keep.kept (by assumption) ?_) | (with_reducible refine Keep.alloc ?_) | (with_reducible refine Keep.same ?_) | ((with_reducible refine WpH.here ?_); first | (refine WpH.nil ?_; refine NoP.normal ?_) | (refine WpH.load (by rfl) (by rfl) (by go_simp; rfl) ?_; simp only [Act.put, List.setIfInBounds_toArray, List.set_cons_zero, List.set_cons_succ]) | (refine WpH.loadT (by rfl) (by rfl) (by go_simp; rfl) (by rintro _ _ ⟨⟩; exact ⟨_, _, _, _, _, _, by rfl, by assumption, by assumption⟩) ?_; simp only [Act.put, List.setIfInBounds_toArray, List.set_cons_zero, List.set_cons_succ]) | (refine WpH.pure (by rfl) (fun w_ => by go_simp; (try go_bits); rfl) ?_; simp only [Act.put, List.setIfInBounds_toArray, List.set_cons_zero, List.set_cons_succ]) | (refine WpH.wild1 (by rfl) (fun _ _ => ?_)) | (refine WpH.skip (by rfl) ?_; simp only [Act.put, List.setIfInBounds_toArray, List.set_cons_zero, List.set_cons_succ])) | go_values | go_skip | go_guarded | go_step | go_upon | go_back)
  go_loopw [2] (fun i wr => ∃ (k : Nat) (es' : List Int), i = .int .i64 k ∧ k ≤ n ∧ GOwn 3 wr base A n c es' ∧ Below base w wr) (fun i _ => n - (intOf i).toNat)
  case atStart => exact ⟨0, es, rfl, Nat.zero_le _, ho, Below.refl _ _⟩
  case round =>
    clear ho es
    obtain ⟨k, es', rfl, hk, ho, hbr⟩ := hrel
    by_cases hlt : k < n
    · obtain ⟨g, cur, rfl, hg, -, -, -, -, -⟩ := gown_row ho (by omega)
      obtain ⟨v, hv⟩ : ∃ v, es'[k]? = some v := ⟨es'[k]'(by rw [ho.1]; exact hlt), List.getElem?_eq_getElem _⟩
      obtain ⟨c0, f0, hgl⟩ := own_int ho hv
      repeat' (first | (with_reducible refine Keep.last ?_) | (with_reducible refine Keep.below (by assumption) ?_) | (with_reducible refine Keep.kept (by assumption) ?_) | (with_reducible refine Keep.alloc ?_) | (with_reducible refine Keep.same ?_) | ((with_reducible refine WpH.here ?_); first | (refine WpH.nil ?_; refine NoP.normal ?_) | (refine WpH.load (by rfl) (by rfl) (by go_simp; rfl) ?_; simp only [Act.put, List.setIfInBounds_toArray, List.set_cons_zero, List.set_cons_succ]) | (refine WpH.loadT (by rfl) (by rfl) (by go_simp; rfl) (by rintro _ _ ⟨⟩; exact ⟨_, _, _, _, _, _, by rfl, by assumption, by assumption⟩) ?_; simp only [Act.put, List.setIfInBounds_toArray, List.set_cons_zero, List.set_cons_succ]) | (refine WpH.pure (by rfl) (fun w_ => by go_simp; (try go_bits); rfl) ?_; simp only [Act.put, List.setIfInBounds_toArray, List.set_cons_zero, List.set_cons_succ]) | (refine WpH.wild1 (by rfl) (fun _ _ => ?_)) | (refine WpH.skip (by rfl) ?_; simp only [Act.put, List.setIfInBounds_toArray, List.set_cons_zero, List.set_cons_succ])) | go_values | go_skip | go_guarded | go_step | go_upon | go_back)
      go_roundw
      case rel => exact ⟨k + 1, _, by go_num, by omega, ho.set1 (-77) hlt, hbr.setCell hg _⟩
      case measure => simp [intOf]; omega
    · obtain rfl : k = n := by omega
      repeat' (first | (with_reducible refine Keep.last ?_) | (with_reducible refine Keep.below (by assumption) ?_) | (with_reducible refine Keep.kept (by assumption) ?_) | (with_reducible refine Keep.alloc ?_) | (with_reducible refine Keep.same ?_) | ((with_reducible refine WpH.here ?_); first | (refine WpH.nil ?_; refine NoP.normal ?_) | (refine WpH.load (by rfl) (by rfl) (by go_simp; rfl) ?_; simp only [Act.put, List.setIfInBounds_toArray, List.set_cons_zero, List.set_cons_succ]) | (refine WpH.loadT (by rfl) (by rfl) (by go_simp; rfl) (by rintro _ _ ⟨⟩; exact ⟨_, _, _, _, _, _, by rfl, by assumption, by assumption⟩) ?_; simp only [Act.put, List.setIfInBounds_toArray, List.set_cons_zero, List.set_cons_succ]) | (refine WpH.pure (by rfl) (fun w_ => by go_simp; (try go_bits); rfl) ?_; simp only [Act.put, List.setIfInBounds_toArray, List.set_cons_zero, List.set_cons_succ]) | (refine WpH.wild1 (by rfl) (fun _ _ => ?_)) | (refine WpH.skip (by rfl) ?_; simp only [Act.put, List.setIfInBounds_toArray, List.set_cons_zero, List.set_cons_succ])) | go_values | go_skip | go_guarded | go_step | go_upon | go_back)
      go_loopw [0, 3] (fun l i wq => ∃ (j : Nat) (A' : Option Addr) (c' : Nat) (es'' : List Int), l = .slice A' (k + j) c' ∧ i = .int .i64 j ∧ j ≤ 40 ∧ GOwn 3 wq base A' (k + j) c' es'' ∧ Below base w wq) (fun _ i _ => 40 - (intOf i).toNat)
      case atStart => exact ⟨0, A, c, es', rfl, rfl, Nat.zero_le _, ho, hbr⟩
      case round =>
        clear ho hbr
        obtain ⟨j, A', c', es'', rfl, rfl, hj, ho, hbr⟩ := hrel
        by_cases hlt : j < 40
        · have hrow : GRow (wr.alloc (.cells #[.int .i64 (-78)] 3)) (fun _ => True) (some ⟨wr.heap.size, 0, none⟩) 1 1 [(-78 : Int)] := (GOwn.lit (t := 3) wr #[.int .i64 (-78)] [(-78 : Int)] 0 (Nat.zero_le _) (by show 1 ≤ maxLen; decide) rfl).row fun _ _ _ => trivial
          have b1 : Below wr.heap.size wr (wr.alloc (.cells #[.int .i64 (-78)] 3)) := balloc (Below.refl _ _)
          have hzr : base ≤ wr.heap.size := Nat.le_trans hb hbr.size
          have ho1 := ho.step b1
          have hz1 := Nat.le_trans hzr b1.size
          have hb1 := hbr.trans (b1.mono hzr)
          repeat' (first | ((with_reducible refine app_ints_here ?_); refine wp_append_ints base A' _ (k + j) c' 1 1 es'' [(-78 : Int)] _ (by rfl) (by rfl) ho1 hrow hz1 (by omega) ?_; intro A2 c2 w2 ho2 hb2 hsm2 hat2 hz2) | (with_reducible refine Keep.last ?_) | (with_reducible refine Keep.below (by assumption) ?_) | (with_reducible refine Keep.kept (by assumption) ?_) | (with_reducible refine Keep.alloc ?_) | (with_reducible refine Keep.same ?_) | ((with_reducible refine WpH.here ?_); first | (refine WpH.nil ?_; refine NoP.normal ?_) | (refine WpH.load (by rfl) (by rfl) (by go_simp; rfl) ?_; simp only [Act.put, List.setIfInBounds_toArray, List.set_cons_zero, List.set_cons_succ]) | (refine WpH.loadT (by rfl) (by rfl) (by go_simp; rfl) (by rintro _ _ ⟨⟩; exact ⟨_, _, _, _, _, _, by rfl, by assumption, by assumption⟩) ?_; simp only [Act.put, List.setIfInBounds_toArray, List.set_cons_zero, List.set_cons_succ]) | (refine WpH.pure (by rfl) (fun w_ => by go_simp; (try go_bits); rfl) ?_; simp only [Act.put, List.setIfInBounds_toArray, List.set_cons_zero, List.set_cons_succ]) | (refine WpH.wild1 (by rfl) (fun _ _ => ?_)) | (refine WpH.skip (by rfl) ?_; simp only [Act.put, List.setIfInBounds_toArray, List.set_cons_zero, List.set_cons_succ])) | go_values | go_skip | go_guarded | go_step | go_upon | go_back)
          go_roundw
          case rel => exact ⟨j + 1, A2, c2, _, rfl, by go_num, by omega, ho2, hb1.trans hb2⟩
          case measure => simp [intOf]; omega
        · obtain rfl : j = 40 := by omega
          repeat' (first | (with_reducible refine Keep.last ?_) | (with_reducible refine Keep.below (by assumption) ?_) | (with_reducible refine Keep.kept (by assumption) ?_) | (with_reducible refine Keep.alloc ?_) | (with_reducible refine Keep.same ?_) | ((with_reducible refine WpH.here ?_); first | (refine WpH.nil ?_; refine NoP.normal ?_) | (refine WpH.load (by rfl) (by rfl) (by go_simp; rfl) ?_; simp only [Act.put, List.setIfInBounds_toArray, List.set_cons_zero, List.set_cons_succ]) | (refine WpH.loadT (by rfl) (by rfl) (by go_simp; rfl) (by rintro _ _ ⟨⟩; exact ⟨_, _, _, _, _, _, by rfl, by assumption, by assumption⟩) ?_; simp only [Act.put, List.setIfInBounds_toArray, List.set_cons_zero, List.set_cons_succ]) | (refine WpH.pure (by rfl) (fun w_ => by go_simp; (try go_bits); rfl) ?_; simp only [Act.put, List.setIfInBounds_toArray, List.set_cons_zero, List.set_cons_succ]) | (refine WpH.wild1 (by rfl) (fun _ _ => ?_)) | (refine WpH.skip (by rfl) ?_; simp only [Act.put, List.setIfInBounds_toArray, List.set_cons_zero, List.set_cons_succ])) | go_values | go_skip | go_guarded | go_step | go_upon | go_back)
          go_end0
          exact ⟨rfl, hbr⟩
theorem flat_sum : ∀ (l : List (List El)), (l.map List.length).sum = l.flatten.length
  | [] => rfl
  | x :: l => by rw [List.map_cons, List.sum_cons, flat_sum l, List.flatten_cons, List.length_append]
/-- how many elements the first leaves have -/
def lenUpto (rows : List (List El)) (k : Nat) : Nat := (rows.take k).flatten.length
theorem lenUpto_succ {rows : List (List El)} {k : Nat} {r : List El} (h : rows[k]? = some r) : lenUpto rows (k + 1) = lenUpto rows k + r.length := by
  unfold lenUpto
  obtain ⟨hk, rfl⟩ := List.getElem?_eq_some_iff.1 h
  rw [List.take_succ_eq_append_getElem hk, List.flatten_append, List.length_append]
  simp only [List.flatten_cons, List.flatten_nil, List.append_nil]
theorem lenUpto_le (rows : List (List El)) (k : Nat) : lenUpto rows k ≤ rows.flatten.length := by
  have h := congrArg List.length (congrArg List.flatten (List.take_append_drop k rows))
  rw [List.flatten_append, List.length_append] at h
  unfold lenUpto
  omega
set_option maxRecDepth 100000 in
set_option maxHeartbeats 4000000 in
theorem pchunks_any (w : World) (pb gt ck base : Nat) (T : Tr) (h : PairAt w pb gt ck T base) (hg : Good ck T.rows) (hl : T.all.length ≤ 600) (hc : ck ≤ 64) :
    Calls Tryd.prog 39 #[.pointer (some ⟨pb, 0, none⟩)] w fun e w' => e = .returned (.bool true) ∧ Below w.heap.size w w' := by
  obtain ⟨⟨hlp, hlg⟩, ⟨A, c, hp, hr⟩, p, hgt, hT⟩ := h
  have hrl : T.rows.length ≤ 600 := by
    have : T.rows.length ≤ T.rows.flatten.length := by
      rw [← flat_sum]
      have h1 : ∀ l : List (List El), (∀ r ∈ l, 1 ≤ r.length) → l.length ≤ (l.map List.length).sum := by
        intro l hl
        induction l with
        | nil => exact Nat.zero_le _
        | cons x l ih =>
          have := ih fun r h => hl r (List.mem_cons_of_mem _ h)
          have := hl x (List.mem_cons_self ..)
          simp
          omega
      exact h1 _ fun r hr => (hg.each r hr).1
    rw [← Tr.all_eq] at this
    omega
  have hlast : lenUpto T.rows T.rows.length = T.all.length := by
    unfold lenUpto
    rw [List.take_of_length_le (Nat.le_refl _), ← Tr.all_eq]
  have hup : ∀ k, lenUpto T.rows k ≤ 600 := fun k => by
    have := lenUpto_le T.rows k
    rw [← Tr.all_eq] at this
    omega
  have HC := hid (chunks_any T p gt ck _ w hgt hT (by omega))
  obtain ⟨p0, p1, p2, pl⟩ := hp.three'
  have Hg := hid hg
  have hpb : pb < w.heap.size + 1 := Nat.lt_succ_of_lt hp.lt
  clear hgt hT hr hg
  go_enter Tryd.func39, Tryd.ntmps39
  repeat' (first | (go_at_call 92; go_must ((with_reducible refine Calls.mono HC.out ?_); rintro _ w1 ⟨A1, c1, rfl, ho1, hq1, hb1⟩; dsimp only)) | (with_reducible refine Keep.last ?_) | (with_reducible refine Keep.below (by assumption) ?_) | (with_reducible refine Keep.kept (by assumption) ?_) | (with_reducible refine Keep.alloc ?_) | (with_reducible refine Keep.same ?_) | ((with_reducible refine WpH.here ?_); first | (refine WpH.nil ?_; refine NoP.normal ?_) | (refine WpH.load (by rfl) (by rfl) (by go_simp; rfl) ?_; simp only [Act.put, List.setIfInBounds_toArray, List.set_cons_zero, List.set_cons_succ]) | (refine WpH.loadT (by rfl) (by rfl) (by go_simp; rfl) (by rintro _ _ ⟨⟩; exact ⟨_, _, _, _, _, _, by rfl, by assumption, by assumption⟩) ?_; simp only [Act.put, List.setIfInBounds_toArray, List.set_cons_zero, List.set_cons_succ]) | (refine WpH.pure (by rfl) (fun w_ => by go_simp; (try go_bits); rfl) ?_; simp only [Act.put, List.setIfInBounds_toArray, List.set_cons_zero, List.set_cons_succ]) | (refine WpH.wild1 (by rfl) (fun _ _ => ?_)) | (refine WpH.skip (by rfl) ?_; simp only [Act.put, List.setIfInBounds_toArray, List.set_cons_zero, List.set_cons_succ])) | go_values | go_skip | go_guarded | go_step | go_upon | go_back)
  have hp1 := hp.step hb1
  have Hho := hid ho1
  have Hup := hid hup
  have Hlast := hid hlast
  have hz1 := hb1.size
  have hz2 : w.heap.size + 1 ≤ w1.heap.size := hq1
  clear hp p0 p1 p2 pl ho1 hup hlast HC
  go_loopw [4, 5] (fun s i wr => ∃ k : Nat, s = .int .i64 (lenUpto T.rows k) ∧ i = .int .i64 k ∧ k ≤ T.rows.length ∧ Below w1.heap.size w1 wr) (fun _ i _ => T.rows.length - (intOf i).toNat)
  case atStart => exact ⟨0, rfl, rfl, Nat.zero_le _, Below.refl _ _⟩
  case round =>
    obtain ⟨k, rfl, rfl, hk, hbr⟩ := hrel
    have hpr := hp1.step hbr
    have hor := Hho.out.step hbr
    by_cases hlt : k < T.rows.length
    · obtain ⟨r, hr⟩ : ∃ r, T.rows[k]? = some r := ⟨T.rows[k], List.getElem?_eq_getElem hlt⟩
      obtain ⟨he1, he2⟩ := Hg.out.each r (List.mem_of_getElem? hr)
      have hsu := lenUpto_succ hr
      have hu1 := Hup.out k
      have hu2 := Hup.out (k + 1)
      rw [hsu] at hu2
      have Hsu := hid hsu
      clear hsu
      obtain ⟨g, cur, rfl, -, -, -, -, -, -⟩ := gown_row hor (by omega)
      obtain ⟨d0, -, dl⟩ := own_int hor (i := k) (v := (r.length : Int)) (by rw [List.getElem?_map, hr]; rfl)
      obtain ⟨p0, p1, p2, pl⟩ := hpr.three'
      have n1 : ¬ ((r.length : Int) < 1) := by omega
      have n2 : ¬ ((r.length : Int) > ck) := by omega
      have qg : ∃ cs u z, wr.drew.heap[g]? = some (.cells cs u z) := cell_obj d0
      have qp : ∃ cs u z, wr.drew.heap[pb]? = some (.cells cs u z) := cell_obj p0
      rcases Nat.eq_zero_or_pos k with h0 | h0
      · subst h0
        repeat' (first | ((with_reducible refine region_at 6 ?_); refine wp_region_order [(0, true, false), (1, true, false), (2, true, false), (3, true, false), (4, true, false), (5, true, false), (6, true, false), (7, true, false), (8, true, false), (9, true, false), (10, true, false), (11, true, false), (12, true, false), (13, true, false), (14, true, false), (15, true, false), (16, true, false), (17, true, false), (18, true, false), (19, true, false), (20, true, false), (21, true, false), (22, true, false), (23, true, false), (24, true, false), (25, true, false), (26, true, false), (27, true, false), (28, true, false), (29, true, false), (30, true, false), (31, true, false), (32, true, false), (33, true, false), (34, true, false), (35, true, false), (36, true, false), (37, true, false)] (by kernel_rfl) (by kernel_rfl) (by kernel_rfl) rfl rfl ?_) | (with_reducible refine Keep.last ?_) | (with_reducible refine Keep.below (by assumption) ?_) | (with_reducible refine Keep.kept (by assumption) ?_) | (with_reducible refine Keep.alloc ?_) | (with_reducible refine Keep.same ?_) | ((with_reducible refine WpH.here ?_); first | (refine WpH.nil ?_; refine NoP.normal ?_) | (refine WpH.load (by rfl) (by rfl) (by go_simp; rfl) ?_; simp only [Act.put, List.setIfInBounds_toArray, List.set_cons_zero, List.set_cons_succ]) | (refine WpH.loadT (by rfl) (by rfl) (by go_simp; rfl) (by rintro _ _ ⟨⟩; exact ⟨_, _, _, _, _, _, by rfl, by assumption, by assumption⟩) ?_; simp only [Act.put, List.setIfInBounds_toArray, List.set_cons_zero, List.set_cons_succ]) | (refine WpH.pure (by rfl) (fun w_ => by go_simp; (try go_bits); rfl) ?_; simp only [Act.put, List.setIfInBounds_toArray, List.set_cons_zero, List.set_cons_succ]) | (refine WpH.wild1 (by rfl) (fun _ _ => ?_)) | (refine WpH.skip (by rfl) ?_; simp only [Act.put, List.setIfInBounds_toArray, List.set_cons_zero, List.set_cons_succ])) | go_values | go_skip | go_guarded | go_step | go_upon | go_back)
        go_roundw
        case rel => exact ⟨1, congrArg _ (by rw [Hsu.out]; omega), rfl, by omega, hbr.drew⟩
        case measure => simp [intOf]; omega
      · obtain ⟨j, rfl⟩ : ∃ j, k = j + 1 := ⟨k - 1, by omega⟩
        obtain ⟨s, hs⟩ : ∃ s, T.rows[j]? = some s := ⟨T.rows[j]'(by omega), List.getElem?_eq_getElem _⟩
        have hpair := adj_get Hg.out.pair j s r hs hr
        have hs2 := (Hg.out.each s (List.mem_of_getElem? hs)).2
        obtain ⟨e0, -, el⟩ := own_int hor (i := j) (v := (s.length : Int)) (by rw [List.getElem?_map, hs]; rfl)
        have n3 : ((j + 1 : Nat) : Int) > 0 := by omega
        have n4 : ((j + 1 : Nat) : Int) - 1 = (j : Int) := by omega
        have n5 : ¬ ((s.length : Int) + r.length ≤ (ck : Int) / 2) := by have hpair' : ck / 2 < s.length + r.length := hpair; omega
        have n6 : ¬ ((s.length : Int) + r.length ≤ (ck : Int).tdiv 2) := by rw [Int.tdiv_eq_ediv_of_nonneg (by omega)]; exact n5
        have hj1 : j < T.rows.length := by omega
        repeat' (first | ((with_reducible refine region_at 6 ?_); refine wp_region_order [(0, true, false), (1, true, false), (2, true, false), (3, true, false), (4, true, false), (5, true, false), (6, true, false), (7, true, false), (8, true, false), (9, true, false), (10, true, false), (11, true, false), (12, true, false), (13, true, false), (14, true, false), (15, true, false), (16, true, false), (17, true, false), (18, true, false), (19, true, false), (20, true, false), (21, true, false), (22, true, false), (23, true, false), (24, true, false), (25, true, false), (26, true, false), (27, true, false), (28, true, false), (29, true, false), (30, true, false), (31, true, false), (32, true, false), (33, true, false), (34, true, false), (35, true, false), (36, true, false), (37, true, false)] (by kernel_rfl) (by kernel_rfl) (by kernel_rfl) rfl rfl ?_) | (with_reducible refine Keep.last ?_) | (with_reducible refine Keep.below (by assumption) ?_) | (with_reducible refine Keep.kept (by assumption) ?_) | (with_reducible refine Keep.alloc ?_) | (with_reducible refine Keep.same ?_) | ((with_reducible refine WpH.here ?_); first | (refine WpH.nil ?_; refine NoP.normal ?_) | (refine WpH.load (by rfl) (by rfl) (by go_simp; rfl) ?_; simp only [Act.put, List.setIfInBounds_toArray, List.set_cons_zero, List.set_cons_succ]) | (refine WpH.loadT (by rfl) (by rfl) (by go_simp; rfl) (by rintro _ _ ⟨⟩; exact ⟨_, _, _, _, _, _, by rfl, by assumption, by assumption⟩) ?_; simp only [Act.put, List.setIfInBounds_toArray, List.set_cons_zero, List.set_cons_succ]) | (refine WpH.pure (by rfl) (fun w_ => by go_simp; (try go_bits); rfl) ?_; simp only [Act.put, List.setIfInBounds_toArray, List.set_cons_zero, List.set_cons_succ]) | (refine WpH.wild1 (by rfl) (fun _ _ => ?_)) | (refine WpH.skip (by rfl) ?_; simp only [Act.put, List.setIfInBounds_toArray, List.set_cons_zero, List.set_cons_succ])) | go_values | go_skip | go_guarded | go_step | go_upon | go_back)
        skip
        go_roundw
        case rel => exact ⟨j + 1 + 1, congrArg _ (by rw [Hsu.out]; omega), by go_num, by omega, hbr.drew⟩
        case measure => simp [intOf]; omega
    · obtain rfl : k = T.rows.length := by omega
      have HS := hid (spoilInts_any A1 T.rows.length c1 (w.heap.size + 1) _ wr hor (by omega) (Nat.le_trans hz2 hbr.size))
      have hll := Hlast.out
      rw [hll]
      clear hll
      have hplt := hpr.lt
      repeat' (first | (go_at_call 93; go_must ((with_reducible refine Calls.mono HS.out ?_); rintro _ w3 ⟨rfl, hb3⟩; obtain ⟨p0, p1, p2, pl⟩ := (hpr.below hb3 hpb).three'; dsimp only)) | (with_reducible refine Keep.last ?_) | (with_reducible refine Keep.below (by assumption) ?_) | (with_reducible refine Keep.kept (by assumption) ?_) | (with_reducible refine Keep.alloc ?_) | (with_reducible refine Keep.same ?_) | ((with_reducible refine WpH.here ?_); first | (refine WpH.nil ?_; refine NoP.normal ?_) | (refine WpH.load (by rfl) (by rfl) (by go_simp; rfl) ?_; simp only [Act.put, List.setIfInBounds_toArray, List.set_cons_zero, List.set_cons_succ]) | (refine WpH.loadT (by rfl) (by rfl) (by go_simp; rfl) (by rintro _ _ ⟨⟩; exact ⟨_, _, _, _, _, _, by rfl, by assumption, by assumption⟩) ?_; simp only [Act.put, List.setIfInBounds_toArray, List.set_cons_zero, List.set_cons_succ]) | (refine WpH.pure (by rfl) (fun w_ => by go_simp; (try go_bits); rfl) ?_; simp only [Act.put, List.setIfInBounds_toArray, List.set_cons_zero, List.set_cons_succ]) | (refine WpH.wild1 (by rfl) (fun _ _ => ?_)) | (refine WpH.skip (by rfl) ?_; simp only [Act.put, List.setIfInBounds_toArray, List.set_cons_zero, List.set_cons_succ])) | go_values | go_skip | go_guarded | go_step | go_upon | go_back)
      go_ret
      exact ⟨rfl, hb1.trans ((hbr.mono hz1).trans (hb3.mono (Nat.le_succ _)))⟩
end Go.Proofs.YtogkbddniacgiaaDoor
