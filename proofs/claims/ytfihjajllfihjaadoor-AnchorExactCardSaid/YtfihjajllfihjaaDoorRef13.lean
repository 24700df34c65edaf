/- The document's At, Where, Rebase of a row: the walks. Conditions: the row lies in memory, fewer than 2^30 elements. -/
import Derived.Test.YtfihjajllfihjaaDoorPlain13
import Derived.Test.YtfihjajllfihjaaDoorTreeAsk
import Derived.Test.YtfihjajllfihjaaDoorRefApply
import Derived.Test.YtfihjajllfihjaaDoorRe
namespace Go.Proofs.YtfihjajllfihjaaDoor
set_option linter.unusedSimpArgs false
set_option linter.unusedVariables false
open Go Go.RowKit
set_option maxRecDepth 50000 in
set_option maxHeartbeats 2000000 in
theorem r13at_ok (A : Option Addr) (n c p : Nat) (l : List El) (S : Nat → Prop) (w : World) (h : Row w S A n c l) (hn : n ≤ 1073741824) (hp : p ≤ liveOf l) :
    Calls Tryd.prog 41 #[.slice A n c, .int .i64 p] w fun e w' => e = .returned (.tuple #[.agg #[.bool (gapOf l p).front, .int .i64 (gapOf l p).id.epoch, .int .i64 (gapOf l p).id.rep, .int .i64 (gapOf l p).id.num], .agg #[.int .i64 0, .slice none 0 0, .slice none 0 0]]) ∧ Below w.heap.size w w' := by
  obtain ⟨hX, hR, hb⟩ := boxes2 w 57 75 #[.bool false, .int .i64 0, .int .i64 0, .int .i64 0] #[.int .i64 0, .slice none 0 0, .slice none 0 0]
  have HS := hid (refSum_any A n c l S _ (h.step hb) (by omega))
  have hle := liveOf_le l
  have hl := h.1
  have hpn : ¬ (p : Int) < 0 := by omega
  have hpg : ¬ (p : Int) > liveOf l := by omega
  by_cases h0 : p = 0
  · subst h0
    rw [show gapOf l 0 = ⟨true, ⟨0, 0, 0⟩⟩ from if_pos rfl]
    clear h hp
    go_enter Tryd.func41, Tryd.ntmps41
    repeat' (first | (go_at_call 31; go_must ((with_reducible refine Calls.mono HS.out ?_); rintro _ w2 ⟨rfl, hb2⟩; have hB1 := hX.step hb2; have g0 := hB1.cell 0; have g1 := hB1.cell 1; have g2 := hB1.cell 2; have g3 := hB1.cell 3; have f0 := hB1.frozen 0; have f1 := hB1.frozen 1; have f2 := hB1.frozen 2; have f3 := hB1.frozen 3; have gl := hB1.lt; simp at g0 g1 g2 g3; have hR1 := hR.step hb2; have r0 := hR1.cell 0; have r1 := hR1.cell 1; have r2 := hR1.cell 2; have e0 := hR1.frozen 0; have e1 := hR1.frozen 1; have e2 := hR1.frozen 2; have rl := hR1.lt; simp at r0 r1 r2; dsimp only)) | (with_reducible refine Keep.last ?_) | (with_reducible refine Keep.below (by assumption) ?_) | (with_reducible refine Keep.kept (by assumption) ?_) | (with_reducible refine Keep.alloc ?_) | (with_reducible refine Keep.same ?_) | ((with_reducible refine WpH.here ?_); first | (refine WpH.nil ?_; refine NoP.normal ?_) | (refine WpH.load (by rfl) (by rfl) (by go_simp; rfl) ?_; simp only [Act.put, List.setIfInBounds_toArray, List.set_cons_zero, List.set_cons_succ]) | (refine WpH.loadT (by rfl) (by rfl) (by go_simp; rfl) (by rintro _ _ ⟨⟩; exact ⟨_, _, _, _, _, _, by rfl, by assumption, by assumption⟩) ?_; simp only [Act.put, List.setIfInBounds_toArray, List.set_cons_zero, List.set_cons_succ]) | (refine WpH.pure (by rfl) (fun w_ => by go_simp; (try go_bits); rfl) ?_; simp only [Act.put, List.setIfInBounds_toArray, List.set_cons_zero, List.set_cons_succ]) | (refine WpH.wild1 (by rfl) (fun _ _ => ?_)) | (refine WpH.skip (by rfl) ?_; simp only [Act.put, List.setIfInBounds_toArray, List.set_cons_zero, List.set_cons_succ])) | go_values | go_skip | go_guarded | go_step | go_upon | go_back)
    skip
    refine bodyPost_ret (v := .tuple #[.agg #[.bool true, .int .i64 0, .int .i64 0, .int .i64 0], .agg #[.int .i64 0, .slice none 0 0, .slice none 0 0]]) (by simp [results, Tryd.results41, go_sem, g0, g1, g2, g3, gl, r0, r1, r2, rl, size_set]) rfl ⟨rfl, ?_⟩
    exact bset (bset (bset (bset (bset (bset (bset (bvia hb hb2) (Nat.le_refl _)) (Nat.le_refl _)) (Nat.le_refl _)) (Nat.le_refl _)) (Nat.le_succ _)) (Nat.le_succ _)) (Nat.le_succ _)
  · obtain ⟨q, rfl⟩ : ∃ q, p = q + 1 := ⟨p - 1, by omega⟩
    have HF := hid (fun W (hb : Below w.heap.size w W) => refFind_live A n c q l S W (h.step hb) hn (by omega))
    have Hr := hid h
    have h0' : ¬ (((q + 1 : Nat) : Int) = 0) := by omega
    have hq0 : (q : Int) ≤ 1073741824 := by omega
    clear h hp h0
    go_enter Tryd.func41, Tryd.ntmps41
    repeat' (first | (go_at_call 31; go_must ((with_reducible refine Calls.mono HS.out ?_); rintro _ w2 ⟨rfl, hb2⟩; have B2 := bvia hb hb2; dsimp only)) | (go_at_call 95; go_must ((with_reducible refine Calls.mono (HF.out _ B2) ?_); rintro _ w3 ⟨⟨m, e, rfl, he, hv, hs⟩, hb3⟩; have B3 := bvia B2 hb3; have hm : m < n := (by rw [← hl]; exact (List.getElem?_eq_some_iff.1 he).1); obtain ⟨b, off, e', rfl, -, he', c0, c1, c2, c3, c4⟩ := (Hr.out.step B3).at_ hm; obtain rfl := Option.some.inj (he'.symm.trans he); have hbl := lt_of_cell' c0; dsimp only at hbl; have hmn : (m : Int) < n := (by omega); have Hg := hid (gapOf_live he hv hs); clear he he' hv hs; have hB1 := (hX.step hb2).step hb3; have g0 := hB1.cell 0; have g1 := hB1.cell 1; have g2 := hB1.cell 2; have g3 := hB1.cell 3; have f0 := hB1.frozen 0; have f1 := hB1.frozen 1; have f2 := hB1.frozen 2; have f3 := hB1.frozen 3; have gl := hB1.lt; simp at g0 g1 g2 g3; have hR1 := (hR.step hb2).step hb3; have r0 := hR1.cell 0; have r1 := hR1.cell 1; have r2 := hR1.cell 2; have e0 := hR1.frozen 0; have e1 := hR1.frozen 1; have e2 := hR1.frozen 2; have rl := hR1.lt; simp at r0 r1 r2; dsimp only)) | (with_reducible refine Keep.last ?_) | (with_reducible refine Keep.below (by assumption) ?_) | (with_reducible refine Keep.kept (by assumption) ?_) | (with_reducible refine Keep.alloc ?_) | (with_reducible refine Keep.same ?_) | ((with_reducible refine WpH.here ?_); first | (refine WpH.nil ?_; refine NoP.normal ?_) | (refine WpH.load (by rfl) (by rfl) (by go_simp; rfl) ?_; simp only [Act.put, List.setIfInBounds_toArray, List.set_cons_zero, List.set_cons_succ]) | (refine WpH.loadT (by rfl) (by rfl) (by go_simp; rfl) (by rintro _ _ ⟨⟩; exact ⟨_, _, _, _, _, _, by rfl, by assumption, by assumption⟩) ?_; simp only [Act.put, List.setIfInBounds_toArray, List.set_cons_zero, List.set_cons_succ]) | (refine WpH.pure (by rfl) (fun w_ => by go_simp; (try go_bits); rfl) ?_; simp only [Act.put, List.setIfInBounds_toArray, List.set_cons_zero, List.set_cons_succ]) | (refine WpH.wild1 (by rfl) (fun _ _ => ?_)) | (refine WpH.skip (by rfl) ?_; simp only [Act.put, List.setIfInBounds_toArray, List.set_cons_zero, List.set_cons_succ])) | go_values | go_skip | go_guarded | go_step | go_upon | go_back)
    skip
    rw [Hg.out]
    refine bodyPost_ret (v := .tuple #[.agg #[.bool false, .int .i64 e'.epoch, .int .i64 e'.rep, .int .i64 e'.num], .agg #[.int .i64 0, .slice none 0 0, .slice none 0 0]]) (by simp [results, Tryd.results41, go_sem, g0, g1, g2, g3, gl, r0, r1, r2, rl, size_set]) rfl ⟨rfl, ?_⟩
    exact bset (bset (bset (bset (bset (bset (bset B3 (Nat.le_refl _)) (Nat.le_refl _)) (Nat.le_refl _)) (Nat.le_refl _)) (Nat.le_succ _)) (Nat.le_succ _)) (Nat.le_succ _)
set_option maxRecDepth 50000 in
set_option maxHeartbeats 2000000 in
theorem r13at_no (A : Option Addr) (n c : Nat) (i : Int) (l : List El) (S S' : Nat → Prop) (w : World) (h : Row w S A n c l) (hn : n ≤ 1073741824) (hi : i < 0 ∨ (liveOf l : Int) < i) :
    Calls Tryd.prog 41 #[.slice A n c, .int .i64 i] w fun e w' => ∃ v, e = .returned (.tuple #[.agg #[.bool false, .int .i64 0, .int .i64 0, .int .i64 0], v]) ∧ IsNo w' (Fr w S') [⟨({ data := #[97, 110, 99, 104, 111, 114] } : ByteArray), ({ data := #[65, 116] } : ByteArray), atOf i⟩] 2 v ∧ Below w.heap.size w w' := by
  obtain ⟨hX, hR, hb⟩ := boxes2 w 57 75 #[.bool false, .int .i64 0, .int .i64 0, .int .i64 0] #[.int .i64 0, .slice none 0 0, .slice none 0 0]
  have HS := hid (refSum_any A n c l S _ (h.step hb) (by omega))
  have HY := hid (fun W => say_any ({ data := #[97, 110, 99, 104, 111, 114] } : ByteArray) ({ data := #[65, 116] } : ByteArray) i 2 (by omega) (by omega) (fun b => S' b ∧ b < w.heap.size) W)
  rw [show ((2 : Nat) : Int) = 2 from rfl] at HY
  clear h
  by_cases hng : i < 0
  · clear HS
    go_enter Tryd.func41, Tryd.ntmps41
    repeat' (first | (go_at_call 90; go_must ((with_reducible refine Calls.mono (HY.out _) ?_); rintro _ w3 ⟨v, rfl, ⟨h1', B, m, d, C, k, rfl, hr1, hr2⟩, hb3⟩; have hB1 := hX.step hb3; have g0 := hB1.cell 0; have g1 := hB1.cell 1; have g2 := hB1.cell 2; have g3 := hB1.cell 3; have f0 := hB1.frozen 0; have f1 := hB1.frozen 1; have f2 := hB1.frozen 2; have f3 := hB1.frozen 3; have gl := hB1.lt; simp at g0 g1 g2 g3; have hR1 := hR.step hb3; have r0 := hR1.cell 0; have r1 := hR1.cell 1; have r2 := hR1.cell 2; have e0 := hR1.frozen 0; have e1 := hR1.frozen 1; have e2 := hR1.frozen 2; have rl := hR1.lt; simp at r0 r1 r2; dsimp only)) | (with_reducible refine Keep.last ?_) | (with_reducible refine Keep.below (by assumption) ?_) | (with_reducible refine Keep.kept (by assumption) ?_) | (with_reducible refine Keep.alloc ?_) | (with_reducible refine Keep.same ?_) | ((with_reducible refine WpH.here ?_); first | (refine WpH.nil ?_; refine NoP.normal ?_) | (refine WpH.load (by rfl) (by rfl) (by go_simp; rfl) ?_; simp only [Act.put, List.setIfInBounds_toArray, List.set_cons_zero, List.set_cons_succ]) | (refine WpH.loadT (by rfl) (by rfl) (by go_simp; rfl) (by rintro _ _ ⟨⟩; exact ⟨_, _, _, _, _, _, by rfl, by assumption, by assumption⟩) ?_; simp only [Act.put, List.setIfInBounds_toArray, List.set_cons_zero, List.set_cons_succ]) | (refine WpH.pure (by rfl) (fun w_ => by go_simp; (try go_bits); rfl) ?_; simp only [Act.put, List.setIfInBounds_toArray, List.set_cons_zero, List.set_cons_succ]) | (refine WpH.wild1 (by rfl) (fun _ _ => ?_)) | (refine WpH.skip (by rfl) ?_; simp only [Act.put, List.setIfInBounds_toArray, List.set_cons_zero, List.set_cons_succ])) | go_values | go_skip | go_guarded | go_step | go_upon | go_back)
    skip
    have hl2 := hR.lt
    generalize (w.alloc (.cells #[.bool false, .int .i64 0, .int .i64 0, .int .i64 0] 57)).alloc (.cells #[.int .i64 0, .slice none 0 0, .slice none 0 0] 75) = W2 at *
    have hzw := hb.size
    refine bodyPost_ret (v := .tuple #[.agg #[.bool false, .int .i64 0, .int .i64 0, .int .i64 0], .agg #[.int .i64 2, .slice B m d, .slice C 1 k]]) (by simp [results, Tryd.results41, go_sem, g0, g1, g2, g3, gl, r0, r1, r2, rl, size_set]) rfl ⟨_, rfl, ?_, ?_⟩
    · have hw2 : w.heap.size + 1 < W2.heap.size := hl2
      have n1 : ¬ Fr W2 (fun b => S' b ∧ b < w.heap.size) w.heap.size := fun h => by rcases h with h | h <;> omega
      have n2 : ¬ Fr W2 (fun b => S' b ∧ b < w.heap.size) (w.heap.size + 1) := fun h => by rcases h with h | h <;> omega
      refine IsNo.re ⟨h1', B, m, d, C, k, rfl, hr1, hr2⟩ (by simp [World.setCell]) (fun b hb hl => ?_) (fun b h => ?_)
      · have m1 : b ≠ w.heap.size := fun e => n1 (e ▸ hb)
        have m2 : b ≠ w.heap.size + 1 := fun e => n2 (e ▸ hb)
        rw [Below.heap_setCell _ _ _ _ m2, Below.heap_setCell _ _ _ _ m2, Below.heap_setCell _ _ _ _ m2, Below.heap_setCell _ _ _ _ m1, Below.heap_setCell _ _ _ _ m1, Below.heap_setCell _ _ _ _ m1, Below.heap_setCell _ _ _ _ m1]
      · rcases h with h | h
        · exact .inl h.1
        · exact .inr (by omega)
    · exact bset (bset (bset (bset (bset (bset (bset (bvia (hb) hb3) (Nat.le_refl _)) (Nat.le_refl _)) (Nat.le_refl _)) (Nat.le_refl _)) (Nat.le_succ _)) (Nat.le_succ _)) (Nat.le_succ _)
  · have hg : i > (liveOf l : Int) := by omega
    go_enter Tryd.func41, Tryd.ntmps41
    repeat' (first | (go_at_call 31; go_must ((with_reducible refine Calls.mono HS.out ?_); rintro _ W2 ⟨rfl, hb2⟩; dsimp only)) | (go_at_call 90; go_must ((with_reducible refine Calls.mono (HY.out _) ?_); rintro _ w3 ⟨v, rfl, ⟨h1', B, m, d, C, k, rfl, hr1, hr2⟩, hb3⟩; have hB1 := (hX.step hb2).step hb3; have g0 := hB1.cell 0; have g1 := hB1.cell 1; have g2 := hB1.cell 2; have g3 := hB1.cell 3; have f0 := hB1.frozen 0; have f1 := hB1.frozen 1; have f2 := hB1.frozen 2; have f3 := hB1.frozen 3; have gl := hB1.lt; simp at g0 g1 g2 g3; have hR1 := (hR.step hb2).step hb3; have r0 := hR1.cell 0; have r1 := hR1.cell 1; have r2 := hR1.cell 2; have e0 := hR1.frozen 0; have e1 := hR1.frozen 1; have e2 := hR1.frozen 2; have rl := hR1.lt; simp at r0 r1 r2; dsimp only)) | (with_reducible refine Keep.last ?_) | (with_reducible refine Keep.below (by assumption) ?_) | (with_reducible refine Keep.kept (by assumption) ?_) | (with_reducible refine Keep.alloc ?_) | (with_reducible refine Keep.same ?_) | ((with_reducible refine WpH.here ?_); first | (refine WpH.nil ?_; refine NoP.normal ?_) | (refine WpH.load (by rfl) (by rfl) (by go_simp; rfl) ?_; simp only [Act.put, List.setIfInBounds_toArray, List.set_cons_zero, List.set_cons_succ]) | (refine WpH.loadT (by rfl) (by rfl) (by go_simp; rfl) (by rintro _ _ ⟨⟩; exact ⟨_, _, _, _, _, _, by rfl, by assumption, by assumption⟩) ?_; simp only [Act.put, List.setIfInBounds_toArray, List.set_cons_zero, List.set_cons_succ]) | (refine WpH.pure (by rfl) (fun w_ => by go_simp; (try go_bits); rfl) ?_; simp only [Act.put, List.setIfInBounds_toArray, List.set_cons_zero, List.set_cons_succ]) | (refine WpH.wild1 (by rfl) (fun _ _ => ?_)) | (refine WpH.skip (by rfl) ?_; simp only [Act.put, List.setIfInBounds_toArray, List.set_cons_zero, List.set_cons_succ])) | go_values | go_skip | go_guarded | go_step | go_upon | go_back)
    skip
    have hl2 := (hR.step hb2).lt
    have hzw := (bvia hb hb2).size
    refine bodyPost_ret (v := .tuple #[.agg #[.bool false, .int .i64 0, .int .i64 0, .int .i64 0], .agg #[.int .i64 2, .slice B m d, .slice C 1 k]]) (by simp [results, Tryd.results41, go_sem, g0, g1, g2, g3, gl, r0, r1, r2, rl, size_set]) rfl ⟨_, rfl, ?_, ?_⟩
    · have hw2 : w.heap.size + 1 < W2.heap.size := hl2
      have n1 : ¬ Fr W2 (fun b => S' b ∧ b < w.heap.size) w.heap.size := fun h => by rcases h with h | h <;> omega
      have n2 : ¬ Fr W2 (fun b => S' b ∧ b < w.heap.size) (w.heap.size + 1) := fun h => by rcases h with h | h <;> omega
      refine IsNo.re ⟨h1', B, m, d, C, k, rfl, hr1, hr2⟩ (by simp [World.setCell]) (fun b hb hl => ?_) (fun b h => ?_)
      · have m1 : b ≠ w.heap.size := fun e => n1 (e ▸ hb)
        have m2 : b ≠ w.heap.size + 1 := fun e => n2 (e ▸ hb)
        rw [Below.heap_setCell _ _ _ _ m2, Below.heap_setCell _ _ _ _ m2, Below.heap_setCell _ _ _ _ m2, Below.heap_setCell _ _ _ _ m1, Below.heap_setCell _ _ _ _ m1, Below.heap_setCell _ _ _ _ m1, Below.heap_setCell _ _ _ _ m1]
      · rcases h with h | h
        · exact .inl h.1
        · exact .inr (by omega)
    · exact bset (bset (bset (bset (bset (bset (bset (bvia (bvia hb hb2) hb3) (Nat.le_refl _)) (Nat.le_refl _)) (Nat.le_refl _)) (Nat.le_refl _)) (Nat.le_succ _)) (Nat.le_succ _)) (Nat.le_succ _)
set_option maxRecDepth 50000 in
set_option maxHeartbeats 2000000 in
theorem r13where_any (A : Option Addr) (n c : Nat) (l : List El) (S : Nat → Prop) (w : World) (x : Anc) (h : Row w S A n c l) (hn : n ≤ 1073741824) :
    Calls Tryd.prog 43 #[.slice A n c, .agg #[.bool x.front, .int .i64 x.id.epoch, .int .i64 x.id.rep, .int .i64 x.id.num]] w fun e w' => e = .returned (.tuple #[.int .i64 (whereOf l x).1, .bool (whereOf l x).2]) ∧ Below w.heap.size w w' := by
  have b1 : Below w.heap.size w (w.alloc (.cells #[.bool x.front, .int .i64 x.id.epoch, .int .i64 x.id.rep, .int .i64 x.id.num] 57)) := balloc (Below.refl _ _)
  obtain ⟨fr, id⟩ := x
  dsimp only at b1 ⊢
  have hl := h.1
  cases fr
  · have HI := hid (ref5Index_at A n c l S id _ (h.step b1) hn)
    have Hr := hid h
    have hnc := h.2.1
    have hcm := h.2.2.1
    unfold maxLen at hcm
    have HS := hid (fun W k (hk : k + 1 ≤ n) (hb : Below w.heap.size w W) => refSum_any A (k + 1) c (l.take (k + 1)) S W ((h.step hb).take_ hk) (by omega))
    clear h
    have hcases : ∀ k x, l[k]? = some x → k < n := fun k x hx => by rw [← hl]; exact (List.getElem?_eq_some_iff.1 hx).1
    by_cases hm : id ∈ l.map El.nm
    · obtain ⟨k0, hk0⟩ := ixOf_mem hm
      have hw := whereOf_some (x := ⟨false, id⟩) rfl hk0
      rw [hw]
      obtain ⟨x0, hx0, hxn, hxf⟩ := ixOf_get hk0
      have hkn := hcases k0 x0 hx0
      have HS2 := hid (fun W (hb : Below w.heap.size w W) => HS.out W k0 (by omega) hb)
      have hHI := HI.out
      have HI2 := hid (hHI.mono (R' := fun e w' => e = .returned (.int .i64 k0) ∧ Below (w.alloc (.cells #[.bool false, .int .i64 id.epoch, .int .i64 id.rep, .int .i64 id.num] 57)).heap.size _ w') fun e w' h => by
        obtain ⟨h1 | h1, h2⟩ := h
        · obtain ⟨k, y, rfl, hy, hyn, hyf⟩ := h1
          obtain rfl := first_same hx0 hxn hxf hy hyn hyf
          exact ⟨rfl, h2⟩
        · exact absurd hm h1.2)
      obtain ⟨m, hmq⟩ : ∃ m, m = k0 + 1 := ⟨_, rfl⟩
      rw [← hmq] at HS2 ⊢
      obtain ⟨r, hrq⟩ : ∃ r : Int, r = k0 := ⟨_, rfl⟩
      rw [← hrq] at HI2
      have hq : r + 1 = (m : Int) := by omega
      have hmc : m ≤ c := by omega
      have hrn : ¬ r < 0 := by omega
      have hmb : (m : Int) ≤ 1073741824 := by omega
      clear hcases hm hHI HI hk0 hx0 hxn hxf HS hw hmq hrq hkn hl hnc hcm
      go_enter Tryd.func43, Tryd.ntmps43
      repeat' (first | (go_at_call 35; go_must ((with_reducible refine Calls.mono HI2.out ?_); rintro _ w2 ⟨rfl, hb2⟩; have B2 := bvia b1 hb2; dsimp only)) | (go_at_call 31; go_must ((with_reducible refine Calls.mono (HS2.out _ B2) ?_); rintro _ w3 ⟨rfl, hb3⟩; dsimp only)) | (with_reducible refine Keep.last ?_) | (with_reducible refine Keep.below (by assumption) ?_) | (with_reducible refine Keep.kept (by assumption) ?_) | (with_reducible refine Keep.alloc ?_) | (with_reducible refine Keep.same ?_) | ((with_reducible refine WpH.here ?_); first | (refine WpH.nil ?_; refine NoP.normal ?_) | (refine WpH.load (by rfl) (by rfl) (by go_simp; rfl) ?_; simp only [Act.put, List.setIfInBounds_toArray, List.set_cons_zero, List.set_cons_succ]) | (refine WpH.loadT (by rfl) (by rfl) (by go_simp; rfl) (by rintro _ _ ⟨⟩; exact ⟨_, _, _, _, _, _, by rfl, by assumption, by assumption⟩) ?_; simp only [Act.put, List.setIfInBounds_toArray, List.set_cons_zero, List.set_cons_succ]) | (refine WpH.pure (by rfl) (fun w_ => by go_simp; (try go_bits); rfl) ?_; simp only [Act.put, List.setIfInBounds_toArray, List.set_cons_zero, List.set_cons_succ]) | (refine WpH.wild1 (by rfl) (fun _ _ => ?_)) | (refine WpH.skip (by rfl) ?_; simp only [Act.put, List.setIfInBounds_toArray, List.set_cons_zero, List.set_cons_succ])) | go_values | go_skip | go_guarded | go_step | go_upon | go_back)
      skip
      go_ret2
      exact ⟨rfl, bvia B2 hb3⟩
    · have hw := whereOf_none (x := ⟨false, id⟩) rfl (ixOf_none hm)
      rw [hw]
      have hHI := HI.out
      have HI2 := hid (hHI.mono (R' := fun e w' => (∃ r : Int, e = .returned (.int .i64 r) ∧ r < 0) ∧ Below (w.alloc (.cells #[.bool false, .int .i64 id.epoch, .int .i64 id.rep, .int .i64 id.num] 57)).heap.size _ w') fun e w' h => by
        obtain ⟨h1 | h1, h2⟩ := h
        · obtain ⟨k, y, rfl, hy, hyn, hyf⟩ := h1
          exact absurd (List.mem_map.2 ⟨y, List.mem_of_getElem? hy, hyn⟩) hm
        · exact ⟨⟨-1, h1.1, by decide⟩, h2⟩)
      clear hcases hm hHI HI HS hw hcm hnc hl
      go_enter Tryd.func43, Tryd.ntmps43
      repeat' (first | (go_at_call 35; go_must ((with_reducible refine Calls.mono HI2.out ?_); rintro _ w2 ⟨⟨r, rfl, hr0⟩, hb2⟩; dsimp only)) | (with_reducible refine Keep.last ?_) | (with_reducible refine Keep.below (by assumption) ?_) | (with_reducible refine Keep.kept (by assumption) ?_) | (with_reducible refine Keep.alloc ?_) | (with_reducible refine Keep.same ?_) | ((with_reducible refine WpH.here ?_); first | (refine WpH.nil ?_; refine NoP.normal ?_) | (refine WpH.load (by rfl) (by rfl) (by go_simp; rfl) ?_; simp only [Act.put, List.setIfInBounds_toArray, List.set_cons_zero, List.set_cons_succ]) | (refine WpH.loadT (by rfl) (by rfl) (by go_simp; rfl) (by rintro _ _ ⟨⟩; exact ⟨_, _, _, _, _, _, by rfl, by assumption, by assumption⟩) ?_; simp only [Act.put, List.setIfInBounds_toArray, List.set_cons_zero, List.set_cons_succ]) | (refine WpH.pure (by rfl) (fun w_ => by go_simp; (try go_bits); rfl) ?_; simp only [Act.put, List.setIfInBounds_toArray, List.set_cons_zero, List.set_cons_succ]) | (refine WpH.wild1 (by rfl) (fun _ _ => ?_)) | (refine WpH.skip (by rfl) ?_; simp only [Act.put, List.setIfInBounds_toArray, List.set_cons_zero, List.set_cons_succ])) | go_values | go_skip | go_guarded | go_step | go_upon | go_back)
      skip
      go_ret2
      exact ⟨rfl, bvia b1 hb2⟩
  · rw [whereOf_front (l := l) (x := ⟨true, id⟩) rfl]
    clear h
    go_enter Tryd.func43, Tryd.ntmps43
    repeat' (first | (with_reducible refine Keep.last ?_) | (with_reducible refine Keep.below (by assumption) ?_) | (with_reducible refine Keep.kept (by assumption) ?_) | (with_reducible refine Keep.alloc ?_) | (with_reducible refine Keep.same ?_) | ((with_reducible refine WpH.here ?_); first | (refine WpH.nil ?_; refine NoP.normal ?_) | (refine WpH.load (by rfl) (by rfl) (by go_simp; rfl) ?_; simp only [Act.put, List.setIfInBounds_toArray, List.set_cons_zero, List.set_cons_succ]) | (refine WpH.loadT (by rfl) (by rfl) (by go_simp; rfl) (by rintro _ _ ⟨⟩; exact ⟨_, _, _, _, _, _, by rfl, by assumption, by assumption⟩) ?_; simp only [Act.put, List.setIfInBounds_toArray, List.set_cons_zero, List.set_cons_succ]) | (refine WpH.pure (by rfl) (fun w_ => by go_simp; (try go_bits); rfl) ?_; simp only [Act.put, List.setIfInBounds_toArray, List.set_cons_zero, List.set_cons_succ]) | (refine WpH.wild1 (by rfl) (fun _ _ => ?_)) | (refine WpH.skip (by rfl) ?_; simp only [Act.put, List.setIfInBounds_toArray, List.set_cons_zero, List.set_cons_succ])) | go_values | go_skip | go_guarded | go_step | go_upon | go_back)
    go_ret2
    exact ⟨rfl, b1⟩
theorem liveOf_next' {l : List El} {k : Nat} {e : El} (he : l[k]? = some e) : liveOf (l.take (k + 1)) = liveOf (l.take k) + e.live := by
  rw [take_snoc_el he, liveOf_append]
  simp [liveOf]
theorem rebaseOf_ok {l : List El} {x : Anc} {p : Nat} (h : whereOf l x = (p, true)) : rebaseOf l x = (gapOf l p, true) := by
  unfold rebaseOf
  rw [h]
  rfl
theorem rebaseOf_none {l : List El} {x : Anc} {p : Nat} (h : whereOf l x = (p, false)) : rebaseOf l x = (⟨false, ⟨0, 0, 0⟩⟩, false) := by
  unfold rebaseOf
  rw [h]
  rfl
set_option maxRecDepth 50000 in
set_option maxHeartbeats 4000000 in
theorem r13rebase_any (A : Option Addr) (n c : Nat) (l : List El) (S : Nat → Prop) (w : World) (x : Anc) (h : Row w S A n c l) (hn : n ≤ 1073741824) :
    Calls Tryd.prog 45 #[.slice A n c, .agg #[.bool x.front, .int .i64 x.id.epoch, .int .i64 x.id.rep, .int .i64 x.id.num]] w fun e w' => e = .returned (.tuple #[.agg #[.bool (rebaseOf l x).1.front, .int .i64 (rebaseOf l x).1.id.epoch, .int .i64 (rebaseOf l x).1.id.rep, .int .i64 (rebaseOf l x).1.id.num], .bool (rebaseOf l x).2]) ∧ Below w.heap.size w w' := by
  obtain ⟨fr, id⟩ := x
  obtain ⟨hX, hB, hb⟩ := boxes2 w 57 57 #[.bool fr, .int .i64 id.epoch, .int .i64 id.rep, .int .i64 id.num] #[.bool false, .int .i64 0, .int .i64 0, .int .i64 0]
  dsimp only
  have hl := h.1
  cases fr
  · have HI := ref5Index_at A n c l S id _ (h.step hb) hn
    have Hr := hid h
    clear h
    have hcases : ∀ k x, l[k]? = some x → k < n := fun k x hx => by rw [← hl]; exact (List.getElem?_eq_some_iff.1 hx).1
    by_cases hm : id ∈ l.map El.nm
    · obtain ⟨k0, hk0⟩ := ixOf_mem hm
      rw [rebaseOf_ok (whereOf_some (x := ⟨false, id⟩) rfl hk0)]
      dsimp only
      generalize hgq : gapOf l (liveOf (l.take (k0 + 1))) = g
      have Hgq := hid hgq
      clear hgq
      obtain ⟨x0, hx0, hxn, hxf⟩ := ixOf_get hk0
      have hkn := hcases k0 x0 hx0
      have HI2 := hid (HI.mono (R' := fun e w' => (∃ r : Int, e = .returned (.int .i64 r) ∧ r = k0) ∧ Below _ _ w') fun e w' h => by
        obtain ⟨h1 | h1, h2⟩ := h
        · obtain ⟨k, y, rfl, hy, hyn, hyf⟩ := h1
          obtain rfl := first_same hx0 hxn hxf hy hyn hyf
          exact ⟨⟨_, rfl, rfl⟩, h2⟩
        · exact absurd hm h1.2)
      clear hcases hm HI hk0 hx0 hxn hxf
      go_enter Tryd.func45, Tryd.ntmps45
      repeat' (first | (go_at_call 35; go_must ((with_reducible refine Calls.mono HI2.out ?_); rintro _ w2 ⟨⟨r, rfl, hrk⟩, hb2⟩; have hrn : ¬ r < 0 := (by omega); have hBw := hB.step hb2; have B2 := bvia hb hb2; have Hrk := hid hrk; clear hrk; dsimp only)) | (with_reducible refine stop_block 0 ?_) | (with_reducible refine Keep.last ?_) | (with_reducible refine Keep.below (by assumption) ?_) | (with_reducible refine Keep.kept (by assumption) ?_) | (with_reducible refine Keep.alloc ?_) | (with_reducible refine Keep.same ?_) | ((with_reducible refine WpH.here ?_); first | (refine WpH.nil ?_; refine NoP.normal ?_) | (refine WpH.load (by rfl) (by rfl) (by go_simp; rfl) ?_; simp only [Act.put, List.setIfInBounds_toArray, List.set_cons_zero, List.set_cons_succ]) | (refine WpH.loadT (by rfl) (by rfl) (by go_simp; rfl) (by rintro _ _ ⟨⟩; exact ⟨_, _, _, _, _, _, by rfl, by assumption, by assumption⟩) ?_; simp only [Act.put, List.setIfInBounds_toArray, List.set_cons_zero, List.set_cons_succ]) | (refine WpH.pure (by rfl) (fun w_ => by go_simp; (try go_bits); rfl) ?_; simp only [Act.put, List.setIfInBounds_toArray, List.set_cons_zero, List.set_cons_succ]) | (refine WpH.wild1 (by rfl) (fun _ _ => ?_)) | (refine WpH.skip (by rfl) ?_; simp only [Act.put, List.setIfInBounds_toArray, List.set_cons_zero, List.set_cons_succ])) | go_values | go_skip | go_guarded | go_step | go_upon | go_back)
      refine Stop.go ?_
      refine wp_block ?_
      go_loopw [6] (fun i wr => ∃ (j : Nat) (r : Int), i = .int .i64 r ∧ r + 1 = j ∧ j ≤ k0 + 1 ∧ liveOf (l.take j) = liveOf (l.take (k0 + 1)) ∧ Blk wr (w.heap.size + 1) 57 #[.bool false, .int .i64 0, .int .i64 0, .int .i64 0] ∧ Below w.heap.size w wr) (fun i _ => (intOf i + 1).toNat)
      case atStart => exact ⟨k0 + 1, r, rfl, by have := Hrk.out; omega, by omega, rfl, hBw, B2⟩
      case round =>
        clear hBw B2 hrn Hrk
        obtain ⟨j, r, rfl, hrj, hj, hlv, hBr, hbr⟩ := hrel
        by_cases hj0 : j = 0
        · subst hj0
          obtain rfl : g = ⟨true, ⟨0, 0, 0⟩⟩ := by rw [← Hgq.out, ← hlv]; exact if_pos rfl
          have hrn : ¬ r ≥ 0 := by omega
          clear hlv hrj Hgq
          have hB1 := hBr; have g0 := hB1.cell 0; have g1 := hB1.cell 1; have g2 := hB1.cell 2; have g3 := hB1.cell 3; have f0 := hB1.frozen 0; have f1 := hB1.frozen 1; have f2 := hB1.frozen 2; have f3 := hB1.frozen 3; have gl := hB1.lt; simp at g0 g1 g2 g3
          repeat' (first | (with_reducible refine Keep.last ?_) | (with_reducible refine Keep.below (by assumption) ?_) | (with_reducible refine Keep.kept (by assumption) ?_) | (with_reducible refine Keep.alloc ?_) | (with_reducible refine Keep.same ?_) | ((with_reducible refine WpH.here ?_); first | (refine WpH.nil ?_; refine NoP.normal ?_) | (refine WpH.load (by rfl) (by rfl) (by go_simp; rfl) ?_; simp only [Act.put, List.setIfInBounds_toArray, List.set_cons_zero, List.set_cons_succ]) | (refine WpH.loadT (by rfl) (by rfl) (by go_simp; rfl) (by rintro _ _ ⟨⟩; exact ⟨_, _, _, _, _, _, by rfl, by assumption, by assumption⟩) ?_; simp only [Act.put, List.setIfInBounds_toArray, List.set_cons_zero, List.set_cons_succ]) | (refine WpH.pure (by rfl) (fun w_ => by go_simp; (try go_bits); rfl) ?_; simp only [Act.put, List.setIfInBounds_toArray, List.set_cons_zero, List.set_cons_succ]) | (refine WpH.wild1 (by rfl) (fun _ _ => ?_)) | (refine WpH.skip (by rfl) ?_; simp only [Act.put, List.setIfInBounds_toArray, List.set_cons_zero, List.set_cons_succ])) | go_values | go_skip | go_guarded | go_step | go_upon | go_back)
          skip
          refine bodyPost_ret (v := .tuple #[.agg #[.bool true, .int .i64 0, .int .i64 0, .int .i64 0], .bool true]) (by simp [results, Tryd.results45, go_sem, g0, g1, g2, g3, gl, size_set]) rfl ⟨rfl, ?_⟩
          exact bset (bset (bset (bset hbr (Nat.le_succ _)) (Nat.le_succ _)) (Nat.le_succ _)) (Nat.le_succ _)
        · obtain ⟨m, rfl⟩ : ∃ m, j = m + 1 := ⟨j - 1, by omega⟩
          obtain rfl : r = (m : Int) := by omega
          obtain ⟨b, off, e, rfl, hS, he, c0, c1, c2, c3, c4⟩ := (Hr.out.step hbr).at_ (show m < n by omega)
          have hbl := lt_of_cell' c0
          dsimp only at hbl
          have hmn : (m : Int) < n := by omega
          have hm0 : (m : Int) ≥ 0 := by omega
          have HL := hid (fun W => refLive_any e W)
          have hnx := liveOf_next' he
          have Hh := hid (And.intro he (And.intro hnx hlv))
          clear he hnx hlv hrj
          by_cases hh : e.hides ≤ 0
          · have dh : decide (e.hides ≤ 0) = true := decide_eq_true hh
            rw [dh] at HL
            have hv : e.live = 1 := by unfold El.live; rw [if_neg (by omega)]
            obtain rfl : g = ⟨false, e.nm⟩ := by rw [← Hgq.out, ← Hh.out.2.2, Hh.out.2.1, hv]; exact gapOf_live Hh.out.1 hv rfl
            clear hh dh hv Hgq
            repeat' (first | (go_at_call 47; go_must ((with_reducible refine Calls.mono (HL.out _) ?_); rintro _ w3 ⟨rfl, hb3⟩; have c0 := kc hb3 c0; have c1 := kc hb3 c1; have c2 := kc hb3 c2; have hbl := Nat.lt_of_lt_of_le hbl hb3.size; have hB1 := hBr.step hb3; have g0 := hB1.cell 0; have g1 := hB1.cell 1; have g2 := hB1.cell 2; have g3 := hB1.cell 3; have f0 := hB1.frozen 0; have f1 := hB1.frozen 1; have f2 := hB1.frozen 2; have f3 := hB1.frozen 3; have gl := hB1.lt; simp at g0 g1 g2 g3; dsimp only)) | (with_reducible refine Keep.last ?_) | (with_reducible refine Keep.below (by assumption) ?_) | (with_reducible refine Keep.kept (by assumption) ?_) | (with_reducible refine Keep.alloc ?_) | (with_reducible refine Keep.same ?_) | ((with_reducible refine WpH.here ?_); first | (refine WpH.nil ?_; refine NoP.normal ?_) | (refine WpH.load (by rfl) (by rfl) (by go_simp; rfl) ?_; simp only [Act.put, List.setIfInBounds_toArray, List.set_cons_zero, List.set_cons_succ]) | (refine WpH.loadT (by rfl) (by rfl) (by go_simp; rfl) (by rintro _ _ ⟨⟩; exact ⟨_, _, _, _, _, _, by rfl, by assumption, by assumption⟩) ?_; simp only [Act.put, List.setIfInBounds_toArray, List.set_cons_zero, List.set_cons_succ]) | (refine WpH.pure (by rfl) (fun w_ => by go_simp; (try go_bits); rfl) ?_; simp only [Act.put, List.setIfInBounds_toArray, List.set_cons_zero, List.set_cons_succ]) | (refine WpH.wild1 (by rfl) (fun _ _ => ?_)) | (refine WpH.skip (by rfl) ?_; simp only [Act.put, List.setIfInBounds_toArray, List.set_cons_zero, List.set_cons_succ])) | go_values | go_skip | go_guarded | go_step | go_upon | go_back)
            skip
            refine bodyPost_ret (v := .tuple #[.agg #[.bool false, .int .i64 e.epoch, .int .i64 e.rep, .int .i64 e.num], .bool true]) (by simp [results, Tryd.results45, go_sem, g0, g1, g2, g3, gl, size_set]) rfl ⟨rfl, ?_⟩
            exact bset (bset (bset (bset (bvia hbr hb3) (Nat.le_succ _)) (Nat.le_succ _)) (Nat.le_succ _)) (Nat.le_succ _)
          · have dh : decide (e.hides ≤ 0) = false := decide_eq_false hh
            rw [dh] at HL
            have hv : e.live = 0 := by unfold El.live; rw [if_pos (by omega)]
            have Hv := hid hv
            clear hh dh hv
            repeat' (first | (go_at_call 47; go_must ((with_reducible refine Calls.mono (HL.out _) ?_); rintro _ w3 ⟨rfl, hb3⟩; dsimp only)) | (with_reducible refine Keep.last ?_) | (with_reducible refine Keep.below (by assumption) ?_) | (with_reducible refine Keep.kept (by assumption) ?_) | (with_reducible refine Keep.alloc ?_) | (with_reducible refine Keep.same ?_) | ((with_reducible refine WpH.here ?_); first | (refine WpH.nil ?_; refine NoP.normal ?_) | (refine WpH.load (by rfl) (by rfl) (by go_simp; rfl) ?_; simp only [Act.put, List.setIfInBounds_toArray, List.set_cons_zero, List.set_cons_succ]) | (refine WpH.loadT (by rfl) (by rfl) (by go_simp; rfl) (by rintro _ _ ⟨⟩; exact ⟨_, _, _, _, _, _, by rfl, by assumption, by assumption⟩) ?_; simp only [Act.put, List.setIfInBounds_toArray, List.set_cons_zero, List.set_cons_succ]) | (refine WpH.pure (by rfl) (fun w_ => by go_simp; (try go_bits); rfl) ?_; simp only [Act.put, List.setIfInBounds_toArray, List.set_cons_zero, List.set_cons_succ]) | (refine WpH.wild1 (by rfl) (fun _ _ => ?_)) | (refine WpH.skip (by rfl) ?_; simp only [Act.put, List.setIfInBounds_toArray, List.set_cons_zero, List.set_cons_succ])) | go_values | go_skip | go_guarded | go_step | go_upon | go_back)
            skip
            exact ⟨⟨m, (m : Int) - 1, rfl, by omega, by omega, by rw [← Hh.out.2.2, Hh.out.2.1, Hv.out, Nat.add_zero], hBr.step hb3, bvia hbr hb3⟩, by simp only [intOf]; omega⟩
    · rw [rebaseOf_none (whereOf_none (x := ⟨false, id⟩) rfl (ixOf_none hm))]
      dsimp only
      have HI2 := hid (HI.mono (R' := fun e w' => (∃ r : Int, e = .returned (.int .i64 r) ∧ r < 0) ∧ Below _ _ w') fun e w' h => by
        obtain ⟨h1 | h1, h2⟩ := h
        · obtain ⟨k, y, rfl, hy, hyn, hyf⟩ := h1
          exact absurd (List.mem_map.2 ⟨y, List.mem_of_getElem? hy, hyn⟩) hm
        · exact ⟨⟨-1, h1.1, by decide⟩, h2⟩)
      clear hcases hm HI
      go_enter Tryd.func45, Tryd.ntmps45
      repeat' (first | (go_at_call 35; go_must ((with_reducible refine Calls.mono HI2.out ?_); rintro _ w2 ⟨⟨r, rfl, hr0⟩, hb2⟩; have hB1 := hB.step hb2; have g0 := hB1.cell 0; have g1 := hB1.cell 1; have g2 := hB1.cell 2; have g3 := hB1.cell 3; have f0 := hB1.frozen 0; have f1 := hB1.frozen 1; have f2 := hB1.frozen 2; have f3 := hB1.frozen 3; have gl := hB1.lt; simp at g0 g1 g2 g3; dsimp only)) | (with_reducible refine Keep.last ?_) | (with_reducible refine Keep.below (by assumption) ?_) | (with_reducible refine Keep.kept (by assumption) ?_) | (with_reducible refine Keep.alloc ?_) | (with_reducible refine Keep.same ?_) | ((with_reducible refine WpH.here ?_); first | (refine WpH.nil ?_; refine NoP.normal ?_) | (refine WpH.load (by rfl) (by rfl) (by go_simp; rfl) ?_; simp only [Act.put, List.setIfInBounds_toArray, List.set_cons_zero, List.set_cons_succ]) | (refine WpH.loadT (by rfl) (by rfl) (by go_simp; rfl) (by rintro _ _ ⟨⟩; exact ⟨_, _, _, _, _, _, by rfl, by assumption, by assumption⟩) ?_; simp only [Act.put, List.setIfInBounds_toArray, List.set_cons_zero, List.set_cons_succ]) | (refine WpH.pure (by rfl) (fun w_ => by go_simp; (try go_bits); rfl) ?_; simp only [Act.put, List.setIfInBounds_toArray, List.set_cons_zero, List.set_cons_succ]) | (refine WpH.wild1 (by rfl) (fun _ _ => ?_)) | (refine WpH.skip (by rfl) ?_; simp only [Act.put, List.setIfInBounds_toArray, List.set_cons_zero, List.set_cons_succ])) | go_values | go_skip | go_guarded | go_step | go_upon | go_back)
      refine bodyPost_ret (v := .tuple #[.agg #[.bool false, .int .i64 0, .int .i64 0, .int .i64 0], .bool false]) (by simp [results, Tryd.results45, go_sem, g0, g1, g2, g3, gl, size_set]) rfl ⟨rfl, ?_⟩
      exact bset (bset (bset (bset (bvia hb hb2) (Nat.le_succ _)) (Nat.le_succ _)) (Nat.le_succ _)) (Nat.le_succ _)
  · rw [rebaseOf_ok (whereOf_front (l := l) (x := ⟨true, id⟩) rfl), show gapOf l 0 = ⟨true, ⟨0, 0, 0⟩⟩ from if_pos rfl]
    dsimp only
    clear h
    have hB1 := hB; have g0 := hB1.cell 0; have g1 := hB1.cell 1; have g2 := hB1.cell 2; have g3 := hB1.cell 3; have f0 := hB1.frozen 0; have f1 := hB1.frozen 1; have f2 := hB1.frozen 2; have f3 := hB1.frozen 3; have gl := hB1.lt; simp at g0 g1 g2 g3
    go_enter Tryd.func45, Tryd.ntmps45
    repeat' (first | (with_reducible refine Keep.last ?_) | (with_reducible refine Keep.below (by assumption) ?_) | (with_reducible refine Keep.kept (by assumption) ?_) | (with_reducible refine Keep.alloc ?_) | (with_reducible refine Keep.same ?_) | ((with_reducible refine WpH.here ?_); first | (refine WpH.nil ?_; refine NoP.normal ?_) | (refine WpH.load (by rfl) (by rfl) (by go_simp; rfl) ?_; simp only [Act.put, List.setIfInBounds_toArray, List.set_cons_zero, List.set_cons_succ]) | (refine WpH.loadT (by rfl) (by rfl) (by go_simp; rfl) (by rintro _ _ ⟨⟩; exact ⟨_, _, _, _, _, _, by rfl, by assumption, by assumption⟩) ?_; simp only [Act.put, List.setIfInBounds_toArray, List.set_cons_zero, List.set_cons_succ]) | (refine WpH.pure (by rfl) (fun w_ => by go_simp; (try go_bits); rfl) ?_; simp only [Act.put, List.setIfInBounds_toArray, List.set_cons_zero, List.set_cons_succ]) | (refine WpH.wild1 (by rfl) (fun _ _ => ?_)) | (refine WpH.skip (by rfl) ?_; simp only [Act.put, List.setIfInBounds_toArray, List.set_cons_zero, List.set_cons_succ])) | go_values | go_skip | go_guarded | go_step | go_upon | go_back)
    skip
    refine bodyPost_ret (v := .tuple #[.agg #[.bool true, .int .i64 0, .int .i64 0, .int .i64 0], .bool true]) (by simp [results, Tryd.results45, go_sem, g0, g1, g2, g3, gl, size_set]) rfl ⟨rfl, by (repeat' (first | (with_reducible exact Below.refl _ _) | (with_reducible assumption) | (with_reducible refine balloc ?_) | (with_reducible refine bdrew ?_) | (with_reducible refine bset ?_ (by (try dsimp only); omega)) | (with_reducible refine bvia ?_ (by assumption))))⟩
end Go.Proofs.YtfihjajllfihjaaDoor
