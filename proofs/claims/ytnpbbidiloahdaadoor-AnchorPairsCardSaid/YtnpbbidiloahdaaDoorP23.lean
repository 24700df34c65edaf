/- anchor.Sort: the walk. Conditions: the model and the row of at most 30 anchors lie in memory. The document's At, Where, Rebase of a row: the walks. Conditions: the row lies in memory, fewer than 2^30 elements. -/
import Derived.Test.YtnpbbidiloahdaaDoorP20
import Derived.Test.YtnpbbidiloahdaaDoorSAnchor
import Derived.Test.YtnpbbidiloahdaaDoorP15
import Derived.Test.YtnpbbidiloahdaaDoorP14
import Derived.Test.YtnpbbidiloahdaaDoorP21
namespace Go.Proofs.YtnpbbidiloahdaaDoor
set_option linter.unusedSimpArgs false
set_option linter.unusedVariables false
open Go Go.RowKit
theorem Tryd.infoPl : (Tryd.prog.info? 60).map (fun i => (i.zero, i.size, i.bytes)) = some (some (.agg #[.bool false, .int .i64 0, .int .i64 0, .int .i64 0, .int .i64 0]), 5, 40) := by kernel_rfl
theorem wp_append_pls {ac : Act} {K : Act → World → Prop} {Q : Exit → Act → World → Prop} {w : World} {dst : Option Tmp} {s x : Operand} {ty : TypeId} {pos : String} {after : Array Edge} {guard : Option (Nat × Bool)}
    (base : Nat) (A B : Option Addr) (n c m d : Nat) (es fs : List Pl) (S : Nat → Prop) (hs : ac.eval s = .slice A n c) (hx : ac.eval x = .slice B m d) (hown : GOwn 60 w base A n c es) (hrow : GRow w S B m d fs) (hb : base ≤ w.heap.size) (hbd : n + m ≤ 1099511627776)
    (h : ∀ A' c' w', GOwn 60 w' base A' (n + m) c' (es ++ fs) → Below base w w' → Same (fun k => ∀ g, A = some g → g.block ≠ k) w w' → (A' = A ∨ ∃ g, A' = some ⟨g, 0, none⟩ ∧ w.heap.size ≤ g) → w.heap.size ≤ w'.heap.size → K (ac.put dst (.slice A' (n + m) c')) w') :
    Oper.wp Tryd.prog ⟨dst, .call ⟨.builtin .append, #[s, x], #[58, 58]⟩, ty, pos, after, guard⟩ ac w K Q :=
  wp_append_g (α := Pl) 58 60 _ 40 Tryd.underlying58 Tryd.infoPl rfl (by decide) (by decide) (by decide) base A B n c m d es fs S hs hx hown hrow hb hbd h
theorem app_pls_here {ac : Act} {K : Act → World → Prop} {Q : Exit → Act → World → Prop} {w : World} {dst : Option Tmp} {s x : Operand} {ty : TypeId} {pos : String} {after : Array Edge} {guard : Option (Nat × Bool)}
    (h : Oper.wp Tryd.prog ⟨dst, .call ⟨.builtin .append, #[s, x], #[58, 58]⟩, ty, pos, after, guard⟩ ac w K Q) : Oper.wp Tryd.prog ⟨dst, .call ⟨.builtin .append, #[s, x], #[58, 58]⟩, ty, pos, after, guard⟩ ac w K Q := h
theorem grow_pl (W : World) (x : Pl) : GRow (W.alloc (.cells #[.bool x.a.front, .int .i64 x.a.id.epoch, .int .i64 x.a.id.rep, .int .i64 x.a.id.num, .int .i64 x.p] 60)) (fun _ => True) (some ⟨W.heap.size, 0, none⟩) 1 1 [x] :=
  (GOwn.lit (t := 60) W #[.bool x.a.front, .int .i64 x.a.id.epoch, .int .i64 x.a.id.rep, .int .i64 x.a.id.num, .int .i64 x.p] [x] W.heap.size (Nat.le_refl _) (by show 1 ≤ maxLen; decide) rfl).row fun _ _ _ => trivial
/-- those that there are, with their gaps -/
def plOf (l : List El) (as_ : List Anc) : List Pl := as_.filterMap fun x => if (whereOf l x).2 = true then some ⟨x, (whereOf l x).1⟩ else none
theorem plOf_snoc_yes {l : List El} {as_ : List Anc} {k p : Nat} {x : Anc} (hx : as_[k]? = some x) (h : whereOf l x = (p, true)) : plOf l (as_.take (k + 1)) = plOf l (as_.take k) ++ [⟨x, p⟩] := by
  unfold plOf
  rw [take_at hx, List.filterMap_append]
  simp [h]
theorem plOf_snoc_no {l : List El} {as_ : List Anc} {k p : Nat} {x : Anc} (hx : as_[k]? = some x) (h : whereOf l x = (p, false)) : plOf l (as_.take (k + 1)) = plOf l (as_.take k) := by
  unfold plOf
  rw [take_at hx, List.filterMap_append]
  simp [h]
theorem plOf_le {l : List El} {as_ : List Anc} : (plOf l as_).length ≤ as_.length := List.length_filterMap_le _ _
theorem sortStable_own (w : World) (A : Option Addr) (base n c : Nat) (L : List Pl) (h : GOwn 60 w base A n c L) (hb : base ≤ w.heap.size) (hn : n ≤ 30) :
    Calls Tryd.prog 17 #[.slice A n c, .func (.func 18) #[] #[]] w fun e w' => e = .returned (.tuple #[]) ∧ (∃ X, StSort Pl.p L X ∧ GOwn 60 w' base A n c X) ∧ Below base w w' := by
  rcases Nat.eq_zero_or_pos n with h0 | h0
  · subst h0
    obtain rfl := List.eq_nil_of_length_eq_zero h.1
    exact (sortStable_none w A c).mono fun e w' ⟨he, hw⟩ => ⟨he, ⟨[], StSort.refl .nil, by rw [hw]; exact h⟩, by rw [hw]; exact Below.refl _ _⟩
  · obtain ⟨g, cur, rfl, hbg, hB, _⟩ := gown_at' h h0
    exact (sortStable_any w base g n c L h hb hn).mono fun e w' ⟨he, ⟨X, hs, hX⟩, hO⟩ => ⟨he, ⟨X, hs, hX⟩, Out.below hO (Below.refl _ _) hb fun b e => by rw [e]; exact hbg⟩
theorem grow_anc (W : World) (x : Anc) : GRow (W.alloc (.cells #[.bool x.front, .int .i64 x.id.epoch, .int .i64 x.id.rep, .int .i64 x.id.num] 32)) (fun _ => True) (some ⟨W.heap.size, 0, none⟩) 1 1 [x] := grow_one W x
set_option maxRecDepth 50000 in
set_option maxHeartbeats 4000000 in
theorem asort_any (w : World) (S S' : Nat → Prop) (mb : Nat) (l : List El) (K n c : Nat) (A : Option Addr) (as_ : List Anc) (h : Mdl w S mb l K) (hl : l.length ≤ 536870912) (ha : GRow w S' A n c as_) (hn : n ≤ 30) (hin : ∀ x ∈ as_, x.id.In) :
    Calls Tryd.prog 8 #[.pointer (some ⟨mb, 0, none⟩), .slice A n c] w fun e w' => (∃ A' m c' X, e = .returned (.slice A' m c') ∧ StSort Pl.p (plOf l as_) X ∧ GOwn 32 w' w.heap.size A' m c' (X.map Pl.a)) ∧ Below w.heap.size w w' := by
  have HM := hid h
  have HA := hid ha
  have Hin := hid hin
  have hal := ha.1
  have hcap := ha.2.1
  have hcb := ha.2.2.1
  unfold maxLen at hcb
  clear h ha hin
  go_enter Tryd.func8, Tryd.ntmps8
  repeat' (first | go_values | go_skip | go_guarded | go_step | go_upon | go_back)
  skip
  go_loopw [5, 15] (fun th i wr => ∃ (k : Nat) (B : Option Addr) (d : Nat), i = .int .i64 k ∧ th = .slice B (plOf l (as_.take k)).length d ∧ k ≤ n ∧ GOwn 60 wr w.heap.size B (plOf l (as_.take k)).length d (plOf l (as_.take k)) ∧ Below w.heap.size w wr) (fun _ i _ => n - (intOf i).toNat)
  case atStart => exact ⟨0, none, 0, rfl, rfl, Nat.zero_le _, GOwn.nil _ _ _, Below.refl _ _⟩
  case round =>
    obtain ⟨k, B, d, rfl, rfl, hk, hown, hbr⟩ := hrel
    by_cases hlt : k < n
    · obtain ⟨b, off, x, rfl, hSb, hbl, hxk, hcell⟩ := (HA.out.step hbr).at_ hlt
      have c0 : wr.cell? ⟨b, off + k * 4, none⟩ = some (.bool x.front) := hcell 0 _ rfl
      have c1 : wr.cell? ⟨b, off + k * 4 + 1, none⟩ = some (.int .i64 x.id.epoch) := hcell 1 _ rfl
      have c2 : wr.cell? ⟨b, off + k * 4 + 2, none⟩ = some (.int .i64 x.id.rep) := hcell 2 _ rfl
      have c3 : wr.cell? ⟨b, off + k * 4 + 3, none⟩ = some (.int .i64 x.id.num) := hcell 3 _ rfl
      have hkI : (k : Int) < n := by omega
      have e1 := balloc (o := .cells #[.bool x.front, .int .i64 x.id.epoch, .int .i64 x.id.rep, .int .i64 x.id.num] 32) (Below.refl _ wr)
      have hX := Blk.new wr 32 #[.bool x.front, .int .i64 x.id.epoch, .int .i64 x.id.rep, .int .i64 x.id.num]
      have HW := hid (awhere_any _ _ mb l K x ((HM.out.step hbr).step e1) hl (Hin.out x (List.mem_of_getElem? hxk)))
      generalize hwo : whereOf l x = wo at *
      obtain ⟨p, is⟩ := wo
      dsimp only at HW
      have hpl := plOf_le (l := l) (as_ := as_.take k)
      rw [List.length_take] at hpl
      have Hown := hid hown
      have Hx := hid (And.intro hxk hwo)
      clear hcell hxk hown hwo
      cases is
      · repeat' (first | (go_at_call 16; go_must ((with_reducible refine Calls.mono HW.out ?_); rintro _ w2 ⟨rfl, hb2⟩; have B2 := bvia e1 hb2; have hX2 := hX.step hb2; have x0 := hX2.cell 0; have x1 := hX2.cell 1; have x2 := hX2.cell 2; have x3 := hX2.cell 3; have xl := hX2.lt; simp at x0 x1 x2 x3; dsimp only)) | go_values | go_skip | go_guarded | go_step | go_upon | go_back)
        skip
        go_roundw
        case rel =>
          refine ⟨k + 1, B, d, by go_num, ?_, by omega, ?_, bvia hbr B2⟩
          · rw [plOf_snoc_no Hx.out.1 Hx.out.2]
          · rw [plOf_snoc_no Hx.out.1 Hx.out.2]
            exact Hown.out.step B2
        case measure => simp [intOf]; omega
      · repeat' (first | (go_at_call 16; go_must ((with_reducible refine Calls.mono HW.out ?_); rintro _ w2 ⟨rfl, hb2⟩; have B2 := bvia e1 hb2; have hX2 := hX.step hb2; have x0 := hX2.cell 0; have x1 := hX2.cell 1; have x2 := hX2.cell 2; have x3 := hX2.cell 3; have xl := hX2.lt; simp at x0 x1 x2 x3; dsimp only)) | ((with_reducible refine app_pls_here ?_); go_must (have e3 := balloc (o := .cells #[.bool x.front, .int .i64 x.id.epoch, .int .i64 x.id.rep, .int .i64 x.id.num, .int .i64 p] 60) (Below.refl _ w2); refine wp_append_pls w.heap.size B _ (plOf l (as_.take k)).length d 1 1 (plOf l (as_.take k)) [⟨x, p⟩] (fun _ => True) (by rfl) (by rfl) ((Hown.out.step B2).step e3) (grow_pl w2 ⟨x, p⟩) (Nat.le_trans hbr.size (Nat.le_trans B2.size e3.size)) (by omega) ?_; intro A4 c4 w4 hown4 hb4 hsm4 hat4 hz4)) | go_values | go_skip | go_guarded | go_step | go_upon | go_back)
        skip
        go_roundw
        case rel =>
          refine ⟨k + 1, A4, c4, by go_num, ?_, by omega, ?_, (bvia (bvia hbr B2) e3).trans hb4⟩
          · rw [plOf_snoc_yes Hx.out.1 Hx.out.2, List.length_append, List.length_singleton]
          · rw [plOf_snoc_yes Hx.out.1 Hx.out.2, List.length_append, List.length_singleton]
            exact hown4
        case measure => simp [intOf]; omega
    · obtain rfl : k = n := by omega
      have hT : as_.take k = as_ := List.take_of_length_le (by omega)
      rw [hT] at hown ⊢
      have hpl := plOf_le (l := l) (as_ := as_)
      generalize hTT : plOf l as_ = T at *
      have HTT := hid hTT
      clear hTT
      have HS := hid (sortStable_own wr B w.heap.size T.length d T hown hbr.size (by omega))
      have hTB : T.length ≤ 30 := by omega
      clear hown hT HA Hin hal hcap hcb HM
      repeat' (first | (go_at_call 17; go_must ((with_reducible refine Calls.mono HS.out ?_); rintro _ w2 ⟨rfl, ⟨X, hs, hX⟩, hb2⟩; dsimp only)) | go_values | go_skip | go_guarded | go_step | go_upon | go_back)
      skip
      have hxl := hX.1
      obtain ⟨nb, hnb⟩ : ∃ nb, nb = w2.heap.size := ⟨_, rfl⟩
      have hwn : w.heap.size ≤ nb := by rw [hnb]; exact (hbr.trans hb2).size
      have HX := hid (fun W (hb : Below nb w2 W) => ((hX.step (by rw [hnb] at hb; exact hb)).row (S := fun _ => True) fun _ _ _ => trivial : GRow W (fun _ => True) B T.length d X))
      have hbn : Below nb w2 w2 := by rw [hnb]; exact Below.refl _ _
      have Hnb := hid (fun W (hb : Below nb w2 W) => (by have := hb.size; omega : nb ≤ W.heap.size))
      have Hs := hid hs
      have HB := hid (hbr.trans hb2)
      clear hX hs HS hbr hb2
      go_loopw [10, 37] (fun o i wq => ∃ (j : Nat) (O : Option Addr) (q : Nat), i = .int .i64 j ∧ o = .slice O j q ∧ j ≤ T.length ∧ GOwn 32 wq nb O j q ((X.take j).map Pl.a) ∧ Below nb w2 wq) (fun _ i _ => T.length - (intOf i).toNat)
      case atStart => exact ⟨0, none, 0, rfl, rfl, Nat.zero_le _, GOwn.nil _ _ _, hbn⟩
      case round =>
        clear hbn
        obtain ⟨j, O, q, rfl, rfl, hj, hO, hbq⟩ := hrel
        by_cases hlt2 : j < T.length
        · obtain ⟨b, off, x, rfl, hSb, hbl, hxk, hcell⟩ := (HX.out _ hbq).at_ hlt2
          have c0 : wr.cell? ⟨b, off + j * 5, none⟩ = some (.bool x.a.front) := hcell 0 _ rfl
          have c1 : wr.cell? ⟨b, off + j * 5 + 1, none⟩ = some (.int .i64 x.a.id.epoch) := hcell 1 _ rfl
          have c2 : wr.cell? ⟨b, off + j * 5 + 2, none⟩ = some (.int .i64 x.a.id.rep) := hcell 2 _ rfl
          have c3 : wr.cell? ⟨b, off + j * 5 + 3, none⟩ = some (.int .i64 x.a.id.num) := hcell 3 _ rfl
          have c4 : wr.cell? ⟨b, off + j * 5 + 4, none⟩ = some (.int .i64 x.p) := hcell 4 _ rfl
          have hjI : (j : Int) < T.length := by omega
          have hcd := (HX.out _ hbq).2.1
          have e1 := balloc (o := .cells #[.bool x.a.front, .int .i64 x.a.id.epoch, .int .i64 x.a.id.rep, .int .i64 x.a.id.num, .int .i64 x.p] 60) (Below.refl _ wr)
          have e3 := balloc (o := .cells #[.bool x.a.front, .int .i64 x.a.id.epoch, .int .i64 x.a.id.rep, .int .i64 x.a.id.num] 32) e1
          have hr1 : GRow ((wr.alloc (.cells #[.bool x.a.front, .int .i64 x.a.id.epoch, .int .i64 x.a.id.rep, .int .i64 x.a.id.num, .int .i64 x.p] 60)).alloc (.cells #[.bool x.a.front, .int .i64 x.a.id.epoch, .int .i64 x.a.id.rep, .int .i64 x.a.id.num] 32)) (fun _ => True) (some ⟨wr.heap.size + 1, 0, none⟩) 1 1 [x.a] := by
            have h := grow_anc (wr.alloc (.cells #[.bool x.a.front, .int .i64 x.a.id.epoch, .int .i64 x.a.id.rep, .int .i64 x.a.id.num, .int .i64 x.p] 60)) x.a
            rw [boxSz] at h
            exact h
          have Hr1 := hid hr1
          have Hx := hid hxk
          have HO := hid hO
          clear hr1
          clear hcell hxk hO
          repeat' (first | ((with_reducible refine app_ancs_here ?_); go_must (refine wp_append_ancs nb O _ j q 1 1 ((X.take j).map Pl.a) [x.a] (fun _ => True) (by rfl) (by rfl) (HO.out.step e3) Hr1.out (Nat.le_trans (Hnb.out _ hbq) e3.size) (by omega) ?_; intro A4 c4' w4 hown4 hb4 hsm4 hat4 hz4)) | go_values | go_skip | go_guarded | go_step | go_upon | go_back)
          skip
          go_roundw
          case rel =>
            refine ⟨j + 1, A4, c4', by go_num, by go_num, by omega, ?_, (hbq.trans (e3.mono (Hnb.out _ hbq))).trans hb4⟩
            rw [take_at Hx.out, List.map_append]
            exact hown4
          case measure => simp [intOf]; omega
        · obtain rfl : j = T.length := by omega
          repeat' (first | go_values | go_skip | go_guarded | go_step | go_upon | go_back)
          skip
          go_ret
          rw [HTT.out]
          refine ⟨⟨O, T.length, q, X, rfl, Hs.out, ?_⟩, HB.out.trans (hbq.mono hwn)⟩
          rw [List.take_of_length_le (by omega)] at hO
          exact hO.mono hwn
end Go.Proofs.YtnpbbidiloahdaaDoor
namespace Go.Proofs.YtnpbbidiloahdaaDoor
set_option linter.unusedSimpArgs false
set_option linter.unusedVariables false
open Go Go.RowKit
set_option maxRecDepth 50000 in
set_option maxHeartbeats 2000000 in
theorem r13where_any (A : Option Addr) (n c : Nat) (l : List El) (S : Nat → Prop) (w : World) (x : Anc) (h : Row w S A n c l) (hn : n ≤ 1073741824) :
    Calls Tryd.prog 5 #[.slice A n c, .agg #[.bool x.front, .int .i64 x.id.epoch, .int .i64 x.id.rep, .int .i64 x.id.num]] w fun e w' => e = .returned (.tuple #[.int .i64 (whereOf l x).1, .bool (whereOf l x).2]) ∧ Below w.heap.size w w' := by
  have b1 : Below w.heap.size w (w.alloc (.cells #[.bool x.front, .int .i64 x.id.epoch, .int .i64 x.id.rep, .int .i64 x.id.num] 32)) := balloc (Below.refl _ _)
  obtain ⟨fr, id⟩ := x
  dsimp only at b1 ⊢
  have hl := h.1
  cases fr
  · have HI := hid (ref5Index_at A n c l S id _ (h.step b1) hn)
    have Hr := hid h
    have hnc := h.2.1
    have hcm := h.2.2.1
    unfold maxLen at hcm
    have HS := hid (fun W k (hk : k + 1 ≤ n) (hb : Below w.heap.size w W) => refSum_any A (k + 1) c (l.take (k + 1)) S W ((h.step hb).take_ hk) (by omega))
    clear h
    have hcases : ∀ k x, l[k]? = some x → k < n := fun k x hx => by rw [← hl]; exact (List.getElem?_eq_some_iff.1 hx).1
    by_cases hm : id ∈ l.map El.nm
    · obtain ⟨k0, hk0⟩ := ixOf_mem hm
      have hw := whereOf_some (x := ⟨false, id⟩) rfl hk0
      rw [hw]
      obtain ⟨x0, hx0, hxn, hxf⟩ := ixOf_get hk0
      have hkn := hcases k0 x0 hx0
      have HS2 := hid (fun W (hb : Below w.heap.size w W) => HS.out W k0 (by omega) hb)
      have hHI := HI.out
      have HI2 := hid (hHI.mono (R' := fun e w' => e = .returned (.int .i64 k0) ∧ Below (w.alloc (.cells #[.bool false, .int .i64 id.epoch, .int .i64 id.rep, .int .i64 id.num] 32)).heap.size _ w') fun e w' h => by
        obtain ⟨h1 | h1, h2⟩ := h
        · obtain ⟨k, y, rfl, hy, hyn, hyf⟩ := h1
          obtain rfl := first_same hx0 hxn hxf hy hyn hyf
          exact ⟨rfl, h2⟩
        · exact absurd hm h1.2)
      obtain ⟨m, hmq⟩ : ∃ m, m = k0 + 1 := ⟨_, rfl⟩
      rw [← hmq] at HS2 ⊢
      obtain ⟨r, hrq⟩ : ∃ r : Int, r = k0 := ⟨_, rfl⟩
      rw [← hrq] at HI2
      have hq : r + 1 = (m : Int) := by omega
      have hmc : m ≤ c := by omega
      have hrn : ¬ r < 0 := by omega
      have hmb : (m : Int) ≤ 1073741824 := by omega
      clear hcases hm hHI HI hk0 hx0 hxn hxf HS hw hmq hrq hkn hl hnc hcm
      go_enter Tryd.func5, Tryd.ntmps5
      repeat' (first | (go_at_call 14; go_must ((with_reducible refine Calls.mono HI2.out ?_); rintro _ w2 ⟨rfl, hb2⟩; have B2 := bvia b1 hb2; dsimp only)) | (go_at_call 15; go_must ((with_reducible refine Calls.mono (HS2.out _ B2) ?_); rintro _ w3 ⟨rfl, hb3⟩; dsimp only)) | go_values | go_skip | go_guarded | go_step | go_upon | go_back)
      skip
      go_ret2
      exact ⟨rfl, bvia B2 hb3⟩
    · have hw := whereOf_none (x := ⟨false, id⟩) rfl (ixOf_none hm)
      rw [hw]
      have hHI := HI.out
      have HI2 := hid (hHI.mono (R' := fun e w' => (∃ r : Int, e = .returned (.int .i64 r) ∧ r < 0) ∧ Below (w.alloc (.cells #[.bool false, .int .i64 id.epoch, .int .i64 id.rep, .int .i64 id.num] 32)).heap.size _ w') fun e w' h => by
        obtain ⟨h1 | h1, h2⟩ := h
        · obtain ⟨k, y, rfl, hy, hyn, hyf⟩ := h1
          exact absurd (List.mem_map.2 ⟨y, List.mem_of_getElem? hy, hyn⟩) hm
        · exact ⟨⟨-1, h1.1, by decide⟩, h2⟩)
      clear hcases hm hHI HI HS hw hcm hnc hl
      go_enter Tryd.func5, Tryd.ntmps5
      repeat' (first | (go_at_call 14; go_must ((with_reducible refine Calls.mono HI2.out ?_); rintro _ w2 ⟨⟨r, rfl, hr0⟩, hb2⟩; dsimp only)) | go_values | go_skip | go_guarded | go_step | go_upon | go_back)
      skip
      go_ret2
      exact ⟨rfl, bvia b1 hb2⟩
  · rw [whereOf_front (l := l) (x := ⟨true, id⟩) rfl]
    clear h
    go_enter Tryd.func5, Tryd.ntmps5
    repeat' (first | go_values | go_skip | go_guarded | go_step | go_upon | go_back)
    go_ret2
    exact ⟨rfl, b1⟩
end Go.Proofs.YtnpbbidiloahdaaDoor
