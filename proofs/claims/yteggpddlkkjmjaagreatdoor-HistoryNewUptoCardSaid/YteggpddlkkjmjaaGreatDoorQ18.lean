/- Part of a proof: what functions of the program compute. Conditions: as each theorem says. -/
import Derived.Maps.RangeWalk
import Derived.Test.YteggpddlkkjmjaaGreatDoorQ13
set_option linter.unusedSimpArgs false
set_option linter.unusedVariables false
set_option maxHeartbeats 2000000
set_option maxRecDepth 50000
namespace Go.Proofs.YteggpddlkkjmjaaGreatDoor
open Go Go.RowKit
instance : Enc Opn where
 k := 4
 cells o := [.int .i64 o.kind, .int .i64 o.at_, .int .i32 o.char, .int .i64 o.rep]
 len _ := rfl
 one := by
  intro a u hu
  simp only [List.mem_cons, List.not_mem_nil, or_false] at hu
  rcases hu with rfl | rfl | rfl | rfl <;> rfl
theorem IsIds.monoK {w : World} {b K K' : Nat} {s : List Nm} (h : IsIds w b K s) (hk : K ≤ K') : IsIds w b K' s := by
 obtain ⟨n, D, ho, hn, hs⟩ := h
 exact ⟨n, D, ho, by omega, hs⟩
theorem Mdl.monoK {w : World} {S : Nat → Prop} {mb : Nat} {l : List El} {K K' : Nat} (h : Mdl w S mb l K) (hk : K ≤ K') : Mdl w S mb l K' := by
 obtain ⟨gt, gm, p, T, h1, h2, h3, h4, h5, r⟩ := h
 exact ⟨gt, gm, p, T, h1, h2, h3, h4, h5.monoK hk, r⟩
theorem apply_ok (w : World) (S : Nat → Prop) (mb : Nat) (l : List El) (K : Nat) (o : Opn) (id : Nm) (h : Mdl w S mb l K) (hl : l.length ≤ 536870912) (hK : K ≤ 1099511627776) (hc : CanDo l o id) :
 Calls Tryz.prog 102 #[.pointer (some ⟨mb, 0, none⟩), o.agg, id.val] w fun e w' => e = .returned .nilIface ∧ Mdl w' (Fr w S) mb (doneOp l o id) (K + 1) ∧ Out S w w' := by
 obtain ⟨hro, h0, hn⟩ := validOp_right hc.valid
 have hv := hc.valid
 obtain ⟨k, t, c, r⟩ := o
 obtain ⟨i, rfl⟩ : ∃ i : Nat, t = i := ⟨t.toNat, by simp only at h0; omega⟩
 simp only at hn h0
 have hm : ∀ e w', (e = Ending.returned Value.nilIface ∧ Mdl w' (Fr w S) mb (doneOp l ⟨k, i, c, r⟩ id) K ∧ Out S w w') → e = .returned .nilIface ∧ Mdl w' (Fr w S) mb (doneOp l ⟨k, i, c, r⟩ id) (K + 1) ∧ Out S w w' := fun e w' ⟨a, b, d⟩ => ⟨a, b.monoK (Nat.le_succ _), d⟩
 rcases rightOp_kind hro with ⟨h1, h2⟩ | h1 | h1
 · simp only at h1 h2
   subst h1
   obtain ⟨g1, g2⟩ := hc.ins rfl
   have he : doneOp l ⟨1, i, c, r⟩ id = l.take i ++ insEl id c :: l.drop i := by simp [doneOp]
   rw [he]
   exact apply_ins w S mb l K i c r id h hl hK (by omega) h2 hro hv g1 g2
 · simp only at h1
   subst h1
   have hi : i < l.length := by omega
   have he : l[i]? = some l[i] := List.getElem?_eq_getElem hi
   have hd : doneOp l ⟨2, i, c, r⟩ id = l.set i (l[i].hide 1) := by simp [doneOp, he]
   have hf := hc.hide (by simp) l[i] (by simp [he])
   rw [hd] at hm ⊢
   exact (apply_era w S mb l K i c r id l[i] h hl he hf hro hv).mono hm
 · simp only at h1
   subst h1
   have hi : i < l.length := by omega
   have he : l[i]? = some l[i] := List.getElem?_eq_getElem hi
   have hd : doneOp l ⟨3, i, c, r⟩ id = l.set i (l[i].hide (-1)) := by simp [doneOp, he]
   have hf := hc.hide (by simp) l[i] (by simp [he])
   rw [hd] at hm ⊢
   exact (apply_res w S mb l K i c r id l[i] h hl he hf hro hv).mono hm
theorem doneOp_length (l : List El) (o : Opn) (id : Nm) : (doneOp l o id).length ≤ l.length + 1 := by
 unfold doneOp
 split
 · simp
   omega
 · split
   · simp
   · omega
theorem in_any (r : Int) (w : World) : Calls Tryz.prog 116 #[.int .i64 r] w fun e w' => e = .returned (.bool (decide (0 ≤ r ∧ r < 8))) ∧ w = w' := by
 go_enter Tryz.func116, Tryz.ntmps116
 repeat' (first | go_skip | go_guarded | go_step)
 all_goals
  go_ret
  refine ⟨congrArg (fun x => Ending.returned (.bool x)) ?_, rfl⟩
  first
   | (simp_all; done)
   | (simp_all; omega)
theorem has_any (c : Clk) (r n : Int) (w : World) : Calls Tryz.prog 79 #[c.agg, .int .i64 r, .int .i64 n] w fun e w' => e = .returned (.bool (hasC c r n)) ∧ Below w.heap.size w w' := by
 have HI := hid (fun W => in_any r W)
 have hb := Blk.new w 44 c.vals
 have e0 : Below w.heap.size w (w.alloc (.cells c.vals 44)) := balloc (Below.refl _ _)
 by_cases hr : 0 ≤ r ∧ r < 8
 · obtain ⟨k, rfl⟩ := Int.eq_ofNat_of_zero_le hr.1
   have hk : k < 8 := by omega
   have hk' : (k : Int) < 8 := by omega
   rw [decide_eq_true hr] at HI
   have q0 := (hb.cell k).trans (c.vals_get hk)
   have ql := hb.lt
   have hq : hasC c k n = decide (1 ≤ n ∧ n ≤ c.get k) := decide_eq_decide.2 ⟨fun h => ⟨h.2.2.1, by simpa using h.2.2.2⟩, fun h => ⟨hr.1, hr.2, h.1, by simpa using h.2⟩⟩
   rw [hq]
   clear hq hr
   generalize c.get k = m at *
   obtain ⟨c0, c1, c2, c3, c4, c5, c6, c7⟩ := c
   simp only [Clk.agg, Clk.vals] at *
   by_cases h1 : 1 ≤ n
   · by_cases h2 : n ≤ m
     · rw [decide_eq_true (And.intro h1 h2)]
       go_enter Tryz.func79, Tryz.ntmps79
       repeat' (first | (go_at_call 116; go_must ((with_reducible refine Calls.mono (HI.out _) ?_); rintro _ _ ⟨rfl, rfl⟩; dsimp only)) | go_guarded | go_step)
       go_ret
       exact ⟨rfl, e0⟩
     · rw [decide_eq_false (fun h => h2 h.2)]
       go_enter Tryz.func79, Tryz.ntmps79
       repeat' (first | (go_at_call 116; go_must ((with_reducible refine Calls.mono (HI.out _) ?_); rintro _ _ ⟨rfl, rfl⟩; dsimp only)) | go_guarded | go_step)
       go_ret
       exact ⟨rfl, e0⟩
   · rw [decide_eq_false (fun h => h1 h.1)]
     go_enter Tryz.func79, Tryz.ntmps79
     repeat' (first | (go_at_call 116; go_must ((with_reducible refine Calls.mono (HI.out _) ?_); rintro _ _ ⟨rfl, rfl⟩; dsimp only)) | go_skip | go_guarded | go_step)
     go_ret
     exact ⟨rfl, e0⟩
 · rw [decide_eq_false hr] at HI
   have hq : hasC c r n = false := decide_eq_false fun h => hr ⟨h.1, h.2.1⟩
   rw [hq]
   have h1 : ¬ 0 ≤ r ∨ (0 ≤ r ∧ ¬ r < 8) := by omega
   clear hq hr
   obtain ⟨c0, c1, c2, c3, c4, c5, c6, c7⟩ := c
   simp only [Clk.agg, Clk.vals] at *
   rcases h1 with h1 | ⟨h1, h2⟩
   all_goals
    go_enter Tryz.func79, Tryz.ntmps79
    repeat' (first | (go_at_call 116; go_must ((with_reducible refine Calls.mono (HI.out _) ?_); rintro _ _ ⟨rfl, rfl⟩; dsimp only)) | go_skip | go_step)
    go_ret
    exact ⟨rfl, e0⟩
theorem refHas_any (c : Clk) (r n : Int) (w : World) : Calls Tryz.prog 52 #[c.agg, .int .i64 r, .int .i64 n] w fun e w' => e = .returned (.bool (hasC c r n)) ∧ Below w.heap.size w w' := by
 have HI := hid (fun W => in_any r W)
 have hb := Blk.new w 44 c.vals
 have e0 : Below w.heap.size w (w.alloc (.cells c.vals 44)) := balloc (Below.refl _ _)
 by_cases hr : 0 ≤ r ∧ r < 8
 · obtain ⟨k, rfl⟩ := Int.eq_ofNat_of_zero_le hr.1
   have hk : k < 8 := by omega
   have hk' : (k : Int) < 8 := by omega
   rw [decide_eq_true hr] at HI
   have q0 := (hb.cell k).trans (c.vals_get hk)
   have ql := hb.lt
   have hq : hasC c k n = decide (1 ≤ n ∧ n ≤ c.get k) := decide_eq_decide.2 ⟨fun h => ⟨h.2.2.1, by simpa using h.2.2.2⟩, fun h => ⟨hr.1, hr.2, h.1, by simpa using h.2⟩⟩
   rw [hq]
   clear hq hr
   generalize c.get k = m at *
   obtain ⟨c0, c1, c2, c3, c4, c5, c6, c7⟩ := c
   simp only [Clk.agg, Clk.vals] at *
   by_cases h1 : 1 ≤ n
   · by_cases h2 : n ≤ m
     · rw [decide_eq_true (And.intro h1 h2)]
       go_enter Tryz.func52, Tryz.ntmps52
       repeat' (first | go_guarded | go_step)
       go_ret
       exact ⟨rfl, e0⟩
     · rw [decide_eq_false (fun h => h2 h.2)]
       go_enter Tryz.func52, Tryz.ntmps52
       repeat' (first | go_guarded | go_step)
       go_ret
       exact ⟨rfl, e0⟩
   · rw [decide_eq_false (fun h => h1 h.1)]
     go_enter Tryz.func52, Tryz.ntmps52
     repeat' (first | go_skip | go_guarded | go_step)
     go_ret
     exact ⟨rfl, e0⟩
 · rw [decide_eq_false hr] at HI
   have hq : hasC c r n = false := decide_eq_false fun h => hr ⟨h.1, h.2.1⟩
   rw [hq]
   have h1 : ¬ 0 ≤ r ∨ (0 ≤ r ∧ ¬ r < 8) := by omega
   clear hq hr
   obtain ⟨c0, c1, c2, c3, c4, c5, c6, c7⟩ := c
   simp only [Clk.agg, Clk.vals] at *
   rcases h1 with h1 | ⟨h1, h2⟩
   all_goals
    go_enter Tryz.func52, Tryz.ntmps52
    repeat' (first | go_skip | go_guarded | go_step)
    go_ret
    exact ⟨rfl, e0⟩
theorem idx_clk {c : Array Value} (w : World) (k : Nat) (n : Int) (hk : (k : Int) < 8) (hv : c[k]? = some (.int .i64 n)) : (Instr.index 44 (.agg c) (.int .i64 k)).run Tryz.prog w = .ok (.int .i64 n) w := by
 have hn : (0 : Int) ≤ k ∧ (k : Int) < 8 := ⟨by omega, hk⟩
 simp [Instr.index, run_underlying Tryz.underlying44, asIntOf, hn, go_sem]
 rw [if_pos (by omega), hv]
 rfl
theorem twoBoxes (w : World) (t u : TypeId) (x y : Array Value) : let W := (w.alloc (.cells x t)).alloc (.cells y u)
 Blk W w.heap.size t x ∧ Blk W (w.heap.size + 1) u y ∧ Below w.heap.size w W := by
 intro W
 have s1 : (w.alloc (.cells x t)).heap.size = w.heap.size + 1 := Array.size_push _
 refine ⟨(Blk.new w t x).alloc _, ?_, balloc (balloc (Below.refl _ _))⟩
 have := Blk.new (w.alloc (.cells x t)) u y
 rw [s1] at this
 exact this
theorem covers_any (a b : Clk) (w : World) : Calls Tryz.prog 141 #[a.agg, b.agg] w fun e w' => e = .returned (.bool (coversC a b)) ∧ Below w.heap.size w w' := by
 obtain ⟨hX, hY, e0⟩ := twoBoxes w 44 44 a.vals b.vals
 have qx : ∀ W, Below ((w.alloc (.cells a.vals 44)).alloc (.cells b.vals 44)).heap.size ((w.alloc (.cells a.vals 44)).alloc (.cells b.vals 44)) W → ∀ k, k < 8 → _ := fun W hb k hk => ((hX.step hb).cell k).trans (a.vals_get hk)
 have qy : ∀ W, Below ((w.alloc (.cells a.vals 44)).alloc (.cells b.vals 44)).heap.size ((w.alloc (.cells a.vals 44)).alloc (.cells b.vals 44)) W → ∀ k, k < 8 → _ := fun W hb k hk => ((hY.step hb).cell k).trans (b.vals_get hk)
 have qv : ∀ k, k < 8 → _ := fun k hk => b.vals_get (r := k) hk
 have Qx := hid qx
 have Qy := hid qy
 have Qv := hid qv
 have xl := hX.lt
 have yl := hY.lt
 obtain ⟨av, hav⟩ : ∃ f : Nat → Int, f = a.get := ⟨_, rfl⟩
 obtain ⟨bv, hbv⟩ : ∃ f : Nat → Int, f = b.get := ⟨_, rfl⟩
 have hcv : coversC a b = true ↔ ∀ k, k < 8 → bv k ≤ av k := by rw [hav, hbv]; exact coversC_iff a b
 rw [← hav] at Qx
 rw [← hbv] at Qy Qv
 generalize coversC a b = cv at *
 obtain ⟨a0, a1, a2, a3, a4, a5, a6, a7⟩ := a
 obtain ⟨b0, b1, b2, b3, b4, b5, b6, b7⟩ := b
 simp only [Clk.agg, Clk.vals] at *
 obtain ⟨y0, y1, y2, y3, y4, y5, y6, y7⟩ := cl8 (w := ((w.alloc (.cells #[.int .i64 a0, .int .i64 a1, .int .i64 a2, .int .i64 a3, .int .i64 a4, .int .i64 a5, .int .i64 a6, .int .i64 a7] 44)).alloc (.cells #[.int .i64 b0, .int .i64 b1, .int .i64 b2, .int .i64 b3, .int .i64 b4, .int .i64 b5, .int .i64 b6, .int .i64 b7] 44))) (g := w.heap.size + 1) hY
 clear qx qy qv hX hY hav hbv
 have Hcv := hid hcv
 clear hcv
 go_enter Tryz.func141, Tryz.ntmps141
 repeat' (first | (with_reducible refine stop_region 1 ?_) | go_step)
 refine Stop.go ?_
 generalize ((w.alloc (.cells #[.int .i64 a0, .int .i64 a1, .int .i64 a2, .int .i64 a3, .int .i64 a4, .int .i64 a5, .int .i64 a6, .int .i64 a7] 44)).alloc (.cells #[.int .i64 b0, .int .i64 b1, .int .i64 b2, .int .i64 b3, .int .i64 b4, .int .i64 b5, .int .i64 b6, .int .i64 b7] 44)) = X at *
 repeat' (first | go_step)
 clear y0 y1 y2 y3 y4 y5 y6 y7
 go_loopw [8] (fun i wr => ∃ k : Nat, i = .int .i64 k ∧ k ≤ 8 ∧ (∀ j, j < k → bv j ≤ av j) ∧ Below X.heap.size X wr) (fun i _ => 8 - (intOf i).toNat)
 case atStart => exact ⟨0, rfl, by omega, fun j hj => by omega, Below.refl _ _⟩
 case round =>
  obtain ⟨k, rfl, hk, hall, hbr⟩ := hrel
  have hz := hbr.size
  have xl2 := Nat.lt_of_lt_of_le xl hz
  have yl2 := Nat.lt_of_lt_of_le yl hz
  clear xl yl
  by_cases hlt : k < 8
  · have hk' : (k : Int) < 8 := by omega
    have qx := Qx.out wr hbr k hlt
    have qy := Qy.out wr hbr k hlt
    have qv := Qv.out k hlt
    have hix : ∀ W, _ := fun W => idx_clk W k _ hk' qv
    clear qv
    have Hall := hid hall
    clear hall
    by_cases hc : av k < bv k
    · have hcf : cv = false := by
       cases hcv : cv with
       | false => rfl
       | true => have := (Hcv.out.1 hcv) k hlt; omega
      subst hcf
      repeat' (first | go_step)
      go_ret
      exact ⟨rfl, bvia e0 (by first | exact hbr | exact hbr.drew)⟩
    · repeat' (first | go_step)
      go_roundw
      case rel => exact ⟨k + 1, by go_num, by omega, (fun j hj => by
       by_cases h : j = k
       · subst h; omega
       · exact Hall.out j (by omega)), by first | exact hbr | exact hbr.drew⟩
      case measure => simp [intOf]; omega
  · obtain rfl : k = 8 := by omega
    have hct : cv = true := Hcv.out.2 hall
    subst hct
    repeat' (first | go_step)
    go_ret
    exact ⟨rfl, bvia e0 hbr⟩
theorem refCovers_any (a b : Clk) (w : World) : Calls Tryz.prog 123 #[a.agg, b.agg] w fun e w' => e = .returned (.bool (coversC a b)) ∧ Below w.heap.size w w' := by
 obtain ⟨hX, hY, e0⟩ := twoBoxes w 44 44 a.vals b.vals
 have qx : ∀ W, Below ((w.alloc (.cells a.vals 44)).alloc (.cells b.vals 44)).heap.size ((w.alloc (.cells a.vals 44)).alloc (.cells b.vals 44)) W → ∀ k, k < 8 → _ := fun W hb k hk => ((hX.step hb).cell k).trans (a.vals_get hk)
 have qy : ∀ W, Below ((w.alloc (.cells a.vals 44)).alloc (.cells b.vals 44)).heap.size ((w.alloc (.cells a.vals 44)).alloc (.cells b.vals 44)) W → ∀ k, k < 8 → _ := fun W hb k hk => ((hY.step hb).cell k).trans (b.vals_get hk)
 have qv : ∀ k, k < 8 → _ := fun k hk => b.vals_get (r := k) hk
 have Qx := hid qx
 have Qy := hid qy
 have Qv := hid qv
 have xl := hX.lt
 have yl := hY.lt
 obtain ⟨av, hav⟩ : ∃ f : Nat → Int, f = a.get := ⟨_, rfl⟩
 obtain ⟨bv, hbv⟩ : ∃ f : Nat → Int, f = b.get := ⟨_, rfl⟩
 have hcv : coversC a b = true ↔ ∀ k, k < 8 → bv k ≤ av k := by rw [hav, hbv]; exact coversC_iff a b
 rw [← hav] at Qx
 rw [← hbv] at Qy Qv
 generalize coversC a b = cv at *
 obtain ⟨a0, a1, a2, a3, a4, a5, a6, a7⟩ := a
 obtain ⟨b0, b1, b2, b3, b4, b5, b6, b7⟩ := b
 simp only [Clk.agg, Clk.vals] at *
 obtain ⟨y0, y1, y2, y3, y4, y5, y6, y7⟩ := cl8 (w := ((w.alloc (.cells #[.int .i64 a0, .int .i64 a1, .int .i64 a2, .int .i64 a3, .int .i64 a4, .int .i64 a5, .int .i64 a6, .int .i64 a7] 44)).alloc (.cells #[.int .i64 b0, .int .i64 b1, .int .i64 b2, .int .i64 b3, .int .i64 b4, .int .i64 b5, .int .i64 b6, .int .i64 b7] 44))) (g := w.heap.size + 1) hY
 clear qx qy qv hX hY hav hbv
 have Hcv := hid hcv
 clear hcv
 go_enter Tryz.func123, Tryz.ntmps123
 repeat' (first | (with_reducible refine stop_region 1 ?_) | go_step)
 refine Stop.go ?_
 generalize ((w.alloc (.cells #[.int .i64 a0, .int .i64 a1, .int .i64 a2, .int .i64 a3, .int .i64 a4, .int .i64 a5, .int .i64 a6, .int .i64 a7] 44)).alloc (.cells #[.int .i64 b0, .int .i64 b1, .int .i64 b2, .int .i64 b3, .int .i64 b4, .int .i64 b5, .int .i64 b6, .int .i64 b7] 44)) = X at *
 repeat' (first | go_step)
 clear y0 y1 y2 y3 y4 y5 y6 y7
 go_loopw [5] (fun i wr => ∃ k : Nat, i = .int .i64 k ∧ k ≤ 8 ∧ (∀ j, j < k → bv j ≤ av j) ∧ Below X.heap.size X wr) (fun i _ => 8 - (intOf i).toNat)
 case atStart => exact ⟨0, rfl, by omega, fun j hj => by omega, Below.refl _ _⟩
 case round =>
  obtain ⟨k, rfl, hk, hall, hbr⟩ := hrel
  have hz := hbr.size
  have xl2 := Nat.lt_of_lt_of_le xl hz
  have yl2 := Nat.lt_of_lt_of_le yl hz
  clear xl yl
  by_cases hlt : k < 8
  · have hk' : (k : Int) < 8 := by omega
    have qx := Qx.out wr hbr k hlt
    have qy := Qy.out wr hbr k hlt
    have qv := Qv.out k hlt
    have hix : ∀ W, _ := fun W => idx_clk W k _ hk' qv
    clear qv
    have Hall := hid hall
    clear hall
    by_cases hc : av k < bv k
    · have hcf : cv = false := by
       cases hcv : cv with
       | false => rfl
       | true => have := (Hcv.out.1 hcv) k hlt; omega
      subst hcf
      repeat' (first | ((with_reducible refine region_at 4 ?_); refine wp_region_order (rgl [0,4,8,12,16,20,24]) (by kernel_rfl) (by kernel_rfl) (by kernel_rfl) rfl rfl ?_) | ((with_reducible refine WpH.here ?_); first | (refine WpH.nil ?_; refine NoP.normal ?_) | ((first | refine WpH.load (by rfl) (by rfl) (by go_simp; rfl) ?_ | refine WpH.pure (by rfl) (fun w_ => by go_simp; (try go_bits); rfl) ?_); go_frame)) | go_step)
      go_ret
      exact ⟨rfl, bvia e0 (by first | exact hbr | exact hbr.drew)⟩
    · repeat' (first | ((with_reducible refine region_at 4 ?_); refine wp_region_order (rgl [0,4,8,12,16,20,24]) (by kernel_rfl) (by kernel_rfl) (by kernel_rfl) rfl rfl ?_) | ((with_reducible refine WpH.here ?_); first | (refine WpH.nil ?_; refine NoP.normal ?_) | ((first | refine WpH.load (by rfl) (by rfl) (by go_simp; rfl) ?_ | refine WpH.pure (by rfl) (fun w_ => by go_simp; (try go_bits); rfl) ?_); go_frame)) | go_step)
      go_roundw
      case rel => exact ⟨k + 1, by go_num, by omega, (fun j hj => by
       by_cases h : j = k
       · subst h; omega
       · exact Hall.out j (by omega)), by first | exact hbr | exact hbr.drew⟩
      case measure => simp [intOf]; omega
  · obtain rfl : k = 8 := by omega
    have hct : cv = true := Hcv.out.2 hall
    subst hct
    repeat' (first | go_step)
    go_ret
    exact ⟨rfl, bvia e0 hbr⟩
theorem valid_any (b : Clk) (w : World) : Calls Tryz.prog 109 #[b.agg, .int .i64 8] w fun e w' => e = .returned (.bool (validC b)) ∧ Below w.heap.size w w' := by
 have hY := Blk.new w 44 b.vals
 have e0 : Below w.heap.size w (w.alloc (.cells b.vals 44)) := balloc (Below.refl _ _)
 have qy : ∀ W, Below (w.alloc (.cells b.vals 44)).heap.size (w.alloc (.cells b.vals 44)) W → ∀ k, k < 8 → _ := fun W hb k hk => ((hY.step hb).cell k).trans (b.vals_get hk)
 have qv : ∀ k, k < 8 → _ := fun k hk => b.vals_get (r := k) hk
 have Qy := hid qy
 have Qv := hid qv
 have yl := hY.lt
 obtain ⟨bv, hbv⟩ : ∃ f : Nat → Int, f = b.get := ⟨_, rfl⟩
 have hcv : validC b = true ↔ ∀ k, k < 8 → 0 ≤ bv k := by rw [hbv]; exact validC_iff b
 rw [← hbv] at Qy Qv
 generalize validC b = cv at *
 obtain ⟨b0, b1, b2, b3, b4, b5, b6, b7⟩ := b
 simp only [Clk.agg, Clk.vals] at *
 obtain ⟨y0, y1, y2, y3, y4, y5, y6, y7⟩ := cl8 (w := (w.alloc (.cells #[.int .i64 b0, .int .i64 b1, .int .i64 b2, .int .i64 b3, .int .i64 b4, .int .i64 b5, .int .i64 b6, .int .i64 b7] 44))) (g := w.heap.size) hY
 clear qy qv hY hbv
 have Hcv := hid hcv
 clear hcv
 go_enter Tryz.func109, Tryz.ntmps109
 repeat' (first | (with_reducible refine stop_region 1 ?_) | go_step)
 refine Stop.go ?_
 generalize (w.alloc (.cells #[.int .i64 b0, .int .i64 b1, .int .i64 b2, .int .i64 b3, .int .i64 b4, .int .i64 b5, .int .i64 b6, .int .i64 b7] 44)) = X at *
 repeat' (first | go_guarded | go_step)
 clear y0 y1 y2 y3 y4 y5 y6 y7
 go_loopw [14] (fun i wr => ∃ k : Nat, i = .int .i64 k ∧ k ≤ 8 ∧ (∀ j, j < k → 0 ≤ bv j) ∧ Below X.heap.size X wr) (fun i _ => 8 - (intOf i).toNat)
 case atStart => exact ⟨0, rfl, by omega, fun j hj => by omega, Below.refl _ _⟩
 case round =>
  obtain ⟨k, rfl, hk, hall, hbr⟩ := hrel
  have hz := hbr.size
  have yl2 := Nat.lt_of_lt_of_le yl hz
  clear yl
  by_cases hlt : k < 8
  · have hk' : (k : Int) < 8 := by omega
    have hk8 : ¬ (k : Int) ≥ 8 := by omega
    have qy := Qy.out wr hbr k hlt
    have qv := Qv.out k hlt
    have hix : ∀ W, _ := fun W => idx_clk W k _ hk' qv
    clear qv
    have Hall := hid hall
    clear hall
    by_cases hc : bv k < 0
    · have hcf : cv = false := by
       cases hcv : cv with
       | false => rfl
       | true => have := (Hcv.out.1 hcv) k hlt; omega
      subst hcf
      repeat' (first | go_guarded | go_step)
      go_ret
      exact ⟨rfl, bvia e0 (by first | exact hbr | exact hbr.drew)⟩
    · repeat' (first | go_guarded | go_step)
      go_roundw
      case rel => exact ⟨k + 1, by go_num, by omega, (fun j hj => by
       by_cases h : j = k
       · subst h; omega
       · exact Hall.out j (by omega)), by first | exact hbr | exact hbr.drew⟩
      case measure => simp [intOf]; omega
  · obtain rfl : k = 8 := by omega
    have hct : cv = true := Hcv.out.2 hall
    subst hct
    repeat' (first | go_step)
    go_ret
    exact ⟨rfl, bvia e0 hbr⟩
theorem refValid_any (b : Clk) (w : World) : Calls Tryz.prog 136 #[b.agg, .int .i64 8] w fun e w' => e = .returned (.bool (validC b)) ∧ Below w.heap.size w w' := by
 have hY := Blk.new w 44 b.vals
 have e0 : Below w.heap.size w (w.alloc (.cells b.vals 44)) := balloc (Below.refl _ _)
 have qy : ∀ W, Below (w.alloc (.cells b.vals 44)).heap.size (w.alloc (.cells b.vals 44)) W → ∀ k, k < 8 → _ := fun W hb k hk => ((hY.step hb).cell k).trans (b.vals_get hk)
 have qv : ∀ k, k < 8 → _ := fun k hk => b.vals_get (r := k) hk
 have Qy := hid qy
 have Qv := hid qv
 have yl := hY.lt
 obtain ⟨bv, hbv⟩ : ∃ f : Nat → Int, f = b.get := ⟨_, rfl⟩
 have hcv : validC b = true ↔ ∀ k, k < 8 → 0 ≤ bv k := by rw [hbv]; exact validC_iff b
 rw [← hbv] at Qy Qv
 generalize validC b = cv at *
 obtain ⟨b0, b1, b2, b3, b4, b5, b6, b7⟩ := b
 simp only [Clk.agg, Clk.vals] at *
 obtain ⟨y0, y1, y2, y3, y4, y5, y6, y7⟩ := cl8 (w := (w.alloc (.cells #[.int .i64 b0, .int .i64 b1, .int .i64 b2, .int .i64 b3, .int .i64 b4, .int .i64 b5, .int .i64 b6, .int .i64 b7] 44))) (g := w.heap.size) hY
 clear qy qv hY hbv
 have Hcv := hid hcv
 clear hcv
 go_enter Tryz.func136, Tryz.ntmps136
 repeat' (first | (with_reducible refine stop_region 1 ?_) | go_step)
 refine Stop.go ?_
 generalize (w.alloc (.cells #[.int .i64 b0, .int .i64 b1, .int .i64 b2, .int .i64 b3, .int .i64 b4, .int .i64 b5, .int .i64 b6, .int .i64 b7] 44)) = X at *
 repeat' (first | go_guarded | go_step)
 clear y0 y1 y2 y3 y4 y5 y6 y7
 go_loopw [5] (fun i wr => ∃ k : Nat, i = .int .i64 k ∧ k ≤ 8 ∧ (∀ j, j < k → 0 ≤ bv j) ∧ Below X.heap.size X wr) (fun i _ => 8 - (intOf i).toNat)
 case atStart => exact ⟨0, rfl, by omega, fun j hj => by omega, Below.refl _ _⟩
 case round =>
  obtain ⟨k, rfl, hk, hall, hbr⟩ := hrel
  have hz := hbr.size
  have yl2 := Nat.lt_of_lt_of_le yl hz
  clear yl
  by_cases hlt : k < 8
  · have hk' : (k : Int) < 8 := by omega
    have hk8 : ¬ (k : Int) ≥ 8 := by omega
    have qy := Qy.out wr hbr k hlt
    have qv := Qv.out k hlt
    have hix : ∀ W, _ := fun W => idx_clk W k _ hk' qv
    clear qv
    have Hall := hid hall
    clear hall
    by_cases hc : bv k < 0
    · have hcf : cv = false := by
       cases hcv : cv with
       | false => rfl
       | true => have := (Hcv.out.1 hcv) k hlt; omega
      subst hcf
      repeat' (first | go_guarded | go_step)
      go_ret
      exact ⟨rfl, bvia e0 (by first | exact hbr | exact hbr.drew)⟩
    · repeat' (first | go_guarded | go_step)
      go_roundw
      case rel => exact ⟨k + 1, by go_num, by omega, (fun j hj => by
       by_cases h : j = k
       · subst h; omega
       · exact Hall.out j (by omega)), by first | exact hbr | exact hbr.drew⟩
      case measure => simp [intOf]; omega
  · obtain rfl : k = 8 := by omega
    have hct : cv = true := Hcv.out.2 hall
    subst hct
    repeat' (first | go_step)
    go_ret
    exact ⟨rfl, bvia e0 hbr⟩
theorem refRightOp_any (o : Opn) (w : World) : Calls Tryz.prog 108 #[o.agg] w fun e w' => e = .returned (.bool (rightOp o)) ∧ Below w.heap.size w w' := by
 have HR := hid (fun W => ref5Right_any o.char W)
 unfold Opn.agg
 go_enter Tryz.func108, Tryz.ntmps108
 repeat' (first | (go_at_call 74; go_must ((with_reducible refine Calls.mono (HR.out _) ?_); rintro _ w1 ⟨rfl, rfl⟩; dsimp only)) | go_skip | go_guarded | go_step)
 all_goals
  go_ret
  refine ⟨congrArg (fun x => Ending.returned (.bool x)) ?_, (Below.refl _ _).alloc (Nat.le_refl _) _⟩
  clear HR
  try simp only [beq_iff_eq, beq_eq_false_iff_ne, ne_eq] at *
  unfold rightOp
  first
   | (simp_all; done)
   | (simp_all; omega)
   | (rw [Bool.eq_iff_iff]; simp_all; done)
   | (rw [Bool.eq_iff_iff]; simp_all; omega)
   | (go_goals; fail)
theorem refValidOp_any (o : Opn) (n : Int) (w : World) : Calls Tryz.prog 137 #[o.agg, .int .i64 n] w fun e w' => e = .returned (.bool (validOp o n)) ∧ Below w.heap.size w w' := by
 have HR := hid (fun W => refRightOp_any o W)
 have b1 : Below w.heap.size w (w.alloc (.cells (opCells o) 37)) := (Below.refl _ _).alloc (Nat.le_refl _) _
 have hx := Blk.new w 37 (opCells o)
 unfold opCells at b1 hx
 cases hr : rightOp o
 · rw [hr] at HR
   have hv : validOp o n = false := by unfold validOp; rw [hr]; rfl
   rw [hv]
   clear hv hr
   unfold Opn.agg at HR ⊢
   go_enter Tryz.func137, Tryz.ntmps137
   repeat' (first | (go_at_call 108; go_must ((with_reducible refine Calls.mono (HR.out _) ?_); rintro _ w1 ⟨rfl, hb1⟩; dsimp only)) | go_skip | go_step)
   go_ret
   exact ⟨rfl, b1.trans (hb1.mono b1.size)⟩
 · rw [hr] at HR
   have hv : validOp o n = decide (0 ≤ o.at_ ∧ (o.at_ < n ∨ o.at_ = n ∧ o.kind = 1)) := by unfold validOp; rw [hr]; rfl
   rw [hv]
   clear hv hr
   unfold Opn.agg at HR ⊢
   go_enter Tryz.func137, Tryz.ntmps137
   repeat' (first | (go_at_call 108; go_must ((with_reducible refine Calls.mono (HR.out _) ?_); rintro _ w1 ⟨rfl, hb1⟩; have hx1 := hx.step hb1; obtain ⟨x0, x1, x2, x3, -, -, -, -, xl⟩ := hx1.four; dsimp only)) | go_guarded | go_step)
   all_goals
    go_ret
    refine ⟨congrArg (fun x => Ending.returned (.bool x)) ?_, b1.trans (hb1.mono b1.size)⟩
    clear HR x0 x1 x2 x3 b1 hx hb1 hx1
    try simp only [beq_iff_eq, beq_eq_false_iff_ne, ne_eq] at *
    first
     | (simp_all; done)
     | (simp_all; omega)
     | (rw [Bool.eq_iff_iff]; simp_all; done)
     | (rw [Bool.eq_iff_iff]; simp_all; omega)
     | (go_goals; fail)
section
variable {α : Type} [Enc α]
theorem run_append_w (P : Program) (ts t : TypeId) (nm : String) (i0 : TypeInfo) (z : Value) (by_ : Nat) (hu : P.underlying ts = some (.slice t)) (hi0 : P.info? t = some i0) (hz0 : i0.zero = some z) (hz1 : i0.size = Enc.k α) (hz2 : i0.bytes = by_) (hzc : z.cells.size = Enc.k α) (hk0 : 0 < Enc.k α) (hb0 : 0 < by_) (hbb : by_ ≤ 128)
 (w : World) (ty : TypeId) (base : Nat) (A B : Option Addr) (n c m d : Nat) (es fs : List α) (S : Nat → Prop) (hown : GOwn t w base A n c es) (hrow : GRow w S B m d fs) (hb : base ≤ w.heap.size) (hbd : n + m ≤ 1099511627776) :
 ∃ A' c' w', (Builtin.append_ #[ts, ts] ty #[.slice A n c, .slice B m d]).run P w = .ok (.slice A' (n + m) c') w' ∧ GOwn t w' base A' (n + m) c' (es ++ fs) ∧ w.grownBy w' (A.map (·.block)) ∧
  (A' = A ∨ ∃ g, A' = some ⟨g, 0, none⟩ ∧ w.heap.size ≤ g) := by
 rcases Nat.eq_zero_or_pos m with h0 | h0
 · subst h0
   have hfs : fs = [] := List.eq_nil_of_length_eq_zero hrow.1
   subst hfs
   refine ⟨A, c, w, ?_, by simpa using hown, ⟨rfl, rfl, rfl, Nat.le_refl _, fun _ _ _ => rfl⟩, .inl rfl⟩
   have hc := hown.cap_le.1
   rcases A with _ | a <;> rcases B with _ | b <;>
    simp [Builtin.append_, run_underlying hu, sizeOf, typeInfo, hi0, Builtin.lenOf, Builtin.firstCells, loadCells, loadCellsFrom, storeCells, hc]
 · obtain ⟨b, off, rfl, _, _, hcell⟩ := hrow.2.2.2 h0
   have hcells : ∀ j u, (gcells fs)[j]? = some u → w.cell? ((⟨b, off, none⟩ : Addr).add j) = some u := fun j u hu => by
    rw [show ((⟨b, off, none⟩ : Addr).add j) = ⟨b, off + j, none⟩ from by unfold Addr.add; split <;> simp_all]
    exact hcell j u hu
   have hmx : n + m ≤ maxLen := by have : maxLen = 9223372036854775807 := rfl; omega
   have hby : (n + m) * by_ ≤ 140737488355328 := Nat.le_trans (Nat.mul_le_mul hbd hbb) (by decide)
   obtain ⟨v', w', hrun, h2, h3, h4, h5⟩ := run_append_own_at (P := P) w base ts ty t i0 z (Enc.k α) by_ hu hi0 hz0 hz1 hz2 hzc hk0 _ n (gcells es) hown.2 ⟨b, off, none⟩ m d (gcells fs) (by rw [gcells_length, hrow.1]) hcells (gcells_oneCell fs)
    hmx hby hb
   have hform : ∃ g cap, v' = .slice (some ⟨g, 0, none⟩) (n + m) cap := by
    rcases h2.2 with ⟨_, h⟩ | ⟨g, cap, cur, hv, _⟩
    · omega
    · exact ⟨g, cap, hv⟩
   obtain ⟨g, cap, rfl⟩ := hform
   have hob : (Value.slice A n c).ownBlock = A.map (·.block) := by cases A <;> rfl
   refine ⟨_, cap, w', hrun, ⟨by simp [hown.1, hrow.1], by rw [gcells_append]; exact h2⟩, by rw [← hob]; exact h3, ?_⟩
   rcases h5 with h5 | h5
   · cases A with
     | none => simp [Value.ownBlock] at h5
     | some a =>
      left
      obtain ⟨g', rfl⟩ := hown.head
      have : g = g' := by simpa [Value.ownBlock] using h5
      rw [this]
   · right
     have : g = w.heap.size := by simpa [Value.ownBlock] using h5
     exact ⟨g, rfl, by omega⟩
end
theorem wp_append_w {α : Type} [Enc α] (ts t : TypeId) (z : Value) (by_ : Nat) (hu : Tryz.prog.underlying ts = some (.slice t)) (hinfo : (Tryz.prog.info? t).map (fun i => (i.zero, i.size, i.bytes)) = some (some z, Enc.k α, by_)) (hzc : z.cells.size = Enc.k α) (hk0 : 0 < Enc.k α) (hb0 : 0 < by_) (hbb : by_ ≤ 128)
 {ac : Act} {K : Act → World → Prop} {Q : Exit → Act → World → Prop} {w : World} {dst : Option Tmp} {s x : Operand} {ty : TypeId} {pos : String} {after : Array Edge} {guard : Option (Nat × Bool)}
 (base : Nat) (A B : Option Addr) (n c m d : Nat) (es fs : List α) (S : Nat → Prop) (hs : ac.eval s = .slice A n c) (hx : ac.eval x = .slice B m d) (hown : GOwn t w base A n c es) (hrow : GRow w S B m d fs) (hb : base ≤ w.heap.size) (hbd : n + m ≤ 1099511627776)
 (h : ∀ A' c' w', GOwn t w' base A' (n + m) c' (es ++ fs) → Below base w w' → Same (fun k => ∀ g, A = some g → g.block ≠ k) w w' → (A' = A ∨ ∃ g, A' = some ⟨g, 0, none⟩ ∧ w.heap.size ≤ g) → w.heap.size ≤ w'.heap.size → K (ac.put dst (.slice A' (n + m) c')) w') :
 Oper.wp Tryz.prog ⟨dst, .call ⟨.builtin .append, #[s, x], #[ts, ts]⟩, ty, pos, after, guard⟩ ac w K Q := by
 obtain ⟨i0, hi0, hz0, hz1, hz2⟩ := info_parts hinfo
 obtain ⟨A', c', w', hrun, h2, h3, h4⟩ := run_append_w Tryz.prog ts t "" i0 z by_ hu hi0 hz0 hz1 hz2 hzc hk0 hb0 hbb w ty base A B n c m d es fs S hown hrow hb hbd
 unfold Oper.wp execOp
 simp only [resolve, invoke, builtin, Sem.run_bind, Sem.run_pure, Result.andThen_ok, List.map_toArray, List.map_cons, List.map_nil, hs, hx, hrun]
 refine h A' c' w' h2 ?_ ?_ h4 h3.size
 · refine (Below.refl _ _).grown h3 hb fun k hk => ?_
   cases A with
   | none => cases hk
   | some a =>
    have := hown.block a rfl
    have : a.block = k := by simpa using hk
    omega
 · intro k hk hl
   refine h3.block k hl fun e => ?_
   cases A with
   | none => cases e
   | some a => exact hk a rfl (by simpa using e.symm)
theorem Tryz.infoAct : (Tryz.prog.info? 46).map (fun i => (i.zero, i.size, i.bytes)) = some (some (.agg #[.int .i64 0, .int .i64 0, .int .i32 0, .int .i64 0, .int .i64 0, .int .i64 0, .int .i64 0, .int .i64 0, .int .i64 0, .int .i64 0, .int .i64 0, .int .i64 0, .int .i64 0]), 13, 104) := by kernel_rfl
theorem wp_append_acts {ac : Act} {K : Act → World → Prop} {Q : Exit → Act → World → Prop} {w : World} {dst : Option Tmp} {s x : Operand} {ty : TypeId} {pos : String} {after : Array Edge} {guard : Option (Nat × Bool)}
 (base : Nat) (A B : Option Addr) (n c m d : Nat) (es fs : List Actn) (S : Nat → Prop) (hs : ac.eval s = .slice A n c) (hx : ac.eval x = .slice B m d) (hown : GOwn 46 w base A n c es) (hrow : GRow w S B m d fs) (hb : base ≤ w.heap.size) (hbd : n + m ≤ 1099511627776)
 (h : ∀ A' c' w', GOwn 46 w' base A' (n + m) c' (es ++ fs) → Below base w w' → Same (fun k => ∀ g, A = some g → g.block ≠ k) w w' → (A' = A ∨ ∃ g, A' = some ⟨g, 0, none⟩ ∧ w.heap.size ≤ g) → w.heap.size ≤ w'.heap.size → K (ac.put dst (.slice A' (n + m) c')) w') :
 Oper.wp Tryz.prog ⟨dst, .call ⟨.builtin .append, #[s, x], #[29, 29]⟩, ty, pos, after, guard⟩ ac w K Q :=
 wp_append_w (α := Actn) 29 46 _ 104 Tryz.underlying29 Tryz.infoAct rfl (by decide) (by decide) (by decide) base A B n c m d es fs S hs hx hown hrow hb hbd h
theorem app_acts_here {ac : Act} {K : Act → World → Prop} {Q : Exit → Act → World → Prop} {w : World} {dst : Option Tmp} {s x : Operand} {ty : TypeId} {pos : String} {after : Array Edge} {guard : Option (Nat × Bool)}
 (h : Oper.wp Tryz.prog ⟨dst, .call ⟨.builtin .append, #[s, x], #[29, 29]⟩, ty, pos, after, guard⟩ ac w K Q) : Oper.wp Tryz.prog ⟨dst, .call ⟨.builtin .append, #[s, x], #[29, 29]⟩, ty, pos, after, guard⟩ ac w K Q := h
theorem GOwn.apartT {α β : Type} [Enc α] [Enc β] {t u : TypeId} {w w' : World} {base base' n c m d : Nat} {A B : Option Addr} {es : List α} {fs : List β} (htu : t ≠ u) (h : GOwn t w base A n c es) (k : GOwn u w base' B m d fs) (hs : Same (fun k => ∀ g, B = some g → g.block ≠ k) w w') : GOwn t w' base A n c es := by
 refine h.keep hs fun a ha g hg e => ?_
 subst ha hg
 obtain ⟨a', rfl⟩ := h.head
 obtain ⟨g', rfl⟩ := k.head
 have e' : g' = a' := e
 subst e'
 rcases h.2.2 with ⟨h0, _⟩ | ⟨g1, cap, cur, h1, _, hh, _⟩
 · injection h0 with h0; cases h0
 · rcases k.2.2 with ⟨k0, _⟩ | ⟨g2, cap2, cur2, k1, _, kk, _⟩
   · injection k0 with k0; cases k0
   · injection h1 with h1; injection h1 with h1; injection h1 with h1
     injection k1 with k1; injection k1 with k1; injection k1 with k1
     subst h1
     subst k1
     rw [hh] at kk
     injection kk with kk
     injection kk with _ kk
     exact htu kk
theorem grow_act (W : World) (x : Actn) : GRow (W.alloc (.cells x.vals 46)) (fun _ => True) (some ⟨W.heap.size, 0, none⟩) 1 1 [x] :=
 (GOwn.lit (t := 46) W x.vals [x] W.heap.size (Nat.le_refl _) (by show 1 ≤ maxLen; decide) rfl).row fun _ _ _ => trivial
theorem grow_opn (W : World) (x : Opn) : GRow (W.alloc (.cells (opCells x) 37)) (fun _ => True) (some ⟨W.heap.size, 0, none⟩) 1 1 [x] :=
 (GOwn.lit (t := 37) W (opCells x) [x] W.heap.size (Nat.le_refl _) (by show 1 ≤ maxLen; decide) rfl).row fun _ _ _ => trivial
theorem IsNo.moreS {w : World} {S S' : Nat → Prop} {ch : List Lk} {code : Nat} {v : Value} (h : IsNo w S ch code v) (hs : ∀ b, S b → S' b) : IsNo w S' ch code v := by
 obtain ⟨h1, A, n, c, B, d, rfl, hr1, hr2⟩ := h
 exact ⟨h1, A, n, c, B, d, rfl, hr1.more fun b _ h => hs b h, hr2.more fun b _ h => hs b h⟩
theorem IsNo.keepS {w w' : World} {S : Nat → Prop} {ch : List Lk} {code : Nat} {v : Value} (h : IsNo w S ch code v) (hz : w.heap.size ≤ w'.heap.size) (hs : Same S w w') : IsNo w' S ch code v := by
 obtain ⟨h1, A, n, c, B, d, rfl, hr1, hr2⟩ := h
 exact ⟨h1, A, n, c, B, d, rfl, hr1.keep hz hs, hr2.keep hz hs⟩
theorem IsNo.set3 {w : World} {S : Nat → Prop} {b : Nat} {ch : List Lk} {code : Nat} {v : Value} (h : IsNo w S ch code v) (ns : ¬ S b) (x y z : Value) :
 IsNo (((w.setCell ⟨b, 0, none⟩ x).setCell ⟨b, 1, none⟩ y).setCell ⟨b, 2, none⟩ z) S ch code v :=
 h.keepS (by simp [World.setCell]) (((Same.setCell w ns _).trans (by simp [World.setCell]) (Same.setCell _ ns _)).trans (by simp [World.setCell]) (Same.setCell _ ns _))
theorem boxes3 (w : World) (t u s : TypeId) (x y z : Array Value) : let W := ((w.alloc (.cells x t)).alloc (.cells y u)).alloc (.cells z s)
 Blk W w.heap.size t x ∧ Blk W (w.heap.size + 1) u y ∧ Blk W (w.heap.size + 1 + 1) s z ∧ Below w.heap.size w W := by
 intro W
 have s1 : (w.alloc (.cells x t)).heap.size = w.heap.size + 1 := Array.size_push _
 have s2 : ((w.alloc (.cells x t)).alloc (.cells y u)).heap.size = w.heap.size + 1 + 1 := by rw [← s1]; exact Array.size_push _
 refine ⟨((Blk.new w t x).alloc _).alloc _, ?_, ?_, balloc (balloc (balloc (Below.refl _ _)))⟩
 · have := (Blk.new (w.alloc (.cells x t)) u y).alloc (.cells z s)
   rw [s1] at this
   exact this
 · have := Blk.new ((w.alloc (.cells x t)).alloc (.cells y u)) s z
   rw [s2] at this
   exact this
theorem wrap_none (l c : ByteArray) (n : Int) (w : World) : Calls Tryz.prog 59 #[.string l, .string c, .int .i64 n, noNone] w fun e w' => e = .returned noNone ∧ Below w.heap.size w w' := by
 unfold noNone
 go_enter Tryz.func59, Tryz.ntmps59
 repeat' (first | go_step)
 exact bodyPost_ret (v := .agg #[.int .i64 0, .slice none 0 0, .slice none 0 0]) (by simp [results, Tryz.results59, go_sem]) rfl ⟨rfl, by (repeat' (first | (with_reducible exact Below.refl _ _) | (with_reducible refine balloc ?_)))⟩
def NoAns (w : World) (S : Nat → Prop) (ch : List Lk) (code : Nat) (v : Value) : Prop := code = 0 ∧ v = noNone ∨ IsNo w S ch code v
theorem refApply_arg (A : Option Addr) (n c : Nat) (o : Opn) (id_ : Nm) (S' : Nat → Prop) (w : World) (hro : rightOp o = false) :
 Calls Tryz.prog 139 #[.slice A n c, o.agg, id_.val] w fun r w' => ∃ v, r = .returned (.tuple #[.slice A n c, v]) ∧ IsNo w' (Fr w S') [⟨({ data := #[120, 102, 111, 114, 109] } : ByteArray), ({ data := #[65, 112, 112, 108, 121] } : ByteArray), atOf o.at_⟩] 1 v ∧ Below w.heap.size w w' := by
 have HR := hid (fun W => refRightOp_any o W)
 rw [hro] at HR
 have HS := hid (fun W => say_any ({ data := #[120, 102, 111, 114, 109] } : ByteArray) ({ data := #[65, 112, 112, 108, 121] } : ByteArray) o.at_ 1 (by omega) (by omega) (fun b => S' b ∧ b < w.heap.size) W)
 clear hro
 unfold Opn.agg Nm.val at *
 go_enter Tryz.func139, Tryz.ntmps139
 repeat' (first | (with_reducible refine stop_region 1 ?_) | go_step)
 refine Stop.go ?_
 obtain ⟨hX, hY, hZ, hb⟩ := boxes3 w 37 70 62 #[.int .i64 o.kind, .int .i64 o.at_, .int .i32 o.char, .int .i64 o.rep] #[.int .i64 id_.epoch, .int .i64 id_.rep, .int .i64 id_.num] #[.int .i64 0, .slice none 0 0, .slice none 0 0]
 generalize ((w.alloc (.cells #[.int .i64 o.kind, .int .i64 o.at_, .int .i32 o.char, .int .i64 o.rep] 37)).alloc (.cells #[.int .i64 id_.epoch, .int .i64 id_.rep, .int .i64 id_.num] 70)).alloc (.cells #[.int .i64 0, .slice none 0 0, .slice none 0 0] 62) = W1 at *
 obtain ⟨x0, x1, x2, x3, -, -, -, -, xl⟩ := hX.four
 repeat' (first | (go_at_call 108; go_must ((with_reducible refine Calls.mono (HR.out _) ?_); rintro _ w2 ⟨rfl, hb2⟩; have hZ2 := hZ.step hb2; obtain ⟨x0, x1, x2, x3, -, -, -, -, xl⟩ := (hX.step hb2).four; dsimp only)) | (go_at_call 57; go_must ((with_reducible refine Calls.mono (HS.out _) ?_); rintro _ w3 ⟨v, rfl, hno, hb3⟩; obtain ⟨g1, B, m, d, C, k, rfl, hr1, hr2⟩ := id hno; have hZ3 := hZ2.step hb3; obtain ⟨rl, r0, r1, r2, f0, f1, f2⟩ := bl3 hZ3; dsimp only)) | go_step)
 have hbb := bvia hb hb2
 refine bodyPost_ret (v := .tuple #[.slice A n c, .agg #[.int .i64 1, .slice B m d, .slice C 1 k]]) (by simp [results, Tryz.results139, go_sem, r0, r1, r2, rl, size_set]) rfl ⟨_, rfl, ?_, ?_⟩
 · exact IsNo.boxed (W := w2) hno (by omega) (Nat.lt_of_lt_of_le hZ.lt hb2.size) hbb.size _ _ _
 · exact bset (bset (bset (bvia hbb hb3) (by show w.heap.size ≤ w.heap.size + 1 + 1; omega)) (by show w.heap.size ≤ w.heap.size + 1 + 1; omega)) (by show w.heap.size ≤ w.heap.size + 1 + 1; omega)
theorem refApply_range (A : Option Addr) (n c : Nat) (o : Opn) (id_ : Nm) (S' : Nat → Prop) (w : World) (hro : rightOp o = true) (hvo : validOp o n = false) :
 Calls Tryz.prog 139 #[.slice A n c, o.agg, id_.val] w fun r w' => ∃ v, r = .returned (.tuple #[.slice A n c, v]) ∧ IsNo w' (Fr w S') [⟨({ data := #[120, 102, 111, 114, 109] } : ByteArray), ({ data := #[65, 112, 112, 108, 121] } : ByteArray), atOf o.at_⟩] 2 v ∧ Below w.heap.size w w' := by
 have HR := hid (fun W => refRightOp_any o W)
 rw [hro] at HR
 have HV := hid (fun W => refValidOp_any o n W)
 rw [hvo] at HV
 have HS := hid (fun W => say_any ({ data := #[120, 102, 111, 114, 109] } : ByteArray) ({ data := #[65, 112, 112, 108, 121] } : ByteArray) o.at_ 2 (by omega) (by omega) (fun b => S' b ∧ b < w.heap.size) W)
 clear hro hvo
 unfold Opn.agg Nm.val at *
 go_enter Tryz.func139, Tryz.ntmps139
 repeat' (first | (with_reducible refine stop_region 1 ?_) | go_step)
 refine Stop.go ?_
 obtain ⟨hX, hY, hZ, hb⟩ := boxes3 w 37 70 62 #[.int .i64 o.kind, .int .i64 o.at_, .int .i32 o.char, .int .i64 o.rep] #[.int .i64 id_.epoch, .int .i64 id_.rep, .int .i64 id_.num] #[.int .i64 0, .slice none 0 0, .slice none 0 0]
 generalize ((w.alloc (.cells #[.int .i64 o.kind, .int .i64 o.at_, .int .i32 o.char, .int .i64 o.rep] 37)).alloc (.cells #[.int .i64 id_.epoch, .int .i64 id_.rep, .int .i64 id_.num] 70)).alloc (.cells #[.int .i64 0, .slice none 0 0, .slice none 0 0] 62) = W1 at *
 obtain ⟨x0, x1, x2, x3, -, -, -, -, xl⟩ := hX.four
 repeat' (first | (go_at_call 108; go_must ((with_reducible refine Calls.mono (HR.out _) ?_); rintro _ w5 ⟨rfl, hb5⟩; have hZ5 := hZ.step hb5; have hX5 := hX.step hb5; obtain ⟨x0, x1, x2, x3, -, -, -, -, xl⟩ := hX5.four; dsimp only)) | (go_at_call 137; go_must ((with_reducible refine Calls.mono (HV.out _) ?_); rintro _ w2 ⟨rfl, hb2⟩; have hZ2 := hZ5.step hb2; obtain ⟨x0, x1, x2, x3, -, -, -, -, xl⟩ := (hX5.step hb2).four; dsimp only)) | (go_at_call 57; go_must ((with_reducible refine Calls.mono (HS.out _) ?_); rintro _ w3 ⟨v, rfl, hno, hb3⟩; obtain ⟨g1, B, m, d, C, k, rfl, hr1, hr2⟩ := id hno; have hZ3 := hZ2.step hb3; obtain ⟨rl, r0, r1, r2, f0, f1, f2⟩ := bl3 hZ3; dsimp only)) | go_step)
 have hbb := bvia (bvia hb hb5) hb2
 refine bodyPost_ret (v := .tuple #[.slice A n c, .agg #[.int .i64 2, .slice B m d, .slice C 1 k]]) (by simp [results, Tryz.results139, go_sem, r0, r1, r2, rl, size_set]) rfl ⟨_, rfl, ?_, ?_⟩
 · exact IsNo.boxed (W := w2) hno (by omega) hZ2.lt hbb.size _ _ _
 · exact bset (bset (bset (bvia hbb hb3) (by show w.heap.size ≤ w.heap.size + 1 + 1; omega)) (by show w.heap.size ≤ w.heap.size + 1 + 1; omega)) (by show w.heap.size ≤ w.heap.size + 1 + 1; omega)
theorem refApply_twice (A : Option Addr) (n c : Nat) (es : List El) (S S' : Nat → Prop) (o : Opn) (id_ : Nm) (w : World) (h : Row w S A n c es) (hn : n ≤ 1073741824) (hvo : validOp o n = true) (hk : o.kind = 1) (hin : id_ ∈ es.map El.nm) :
 Calls Tryz.prog 139 #[.slice A n c, o.agg, id_.val] w fun r w' => ∃ v, r = .returned (.tuple #[.slice A n c, v]) ∧ IsNo w' (Fr w S') [⟨({ data := #[120, 102, 111, 114, 109] } : ByteArray), ({ data := #[65, 112, 112, 108, 121] } : ByteArray), atOf o.at_⟩, ⟨({ data := #[109, 111, 100, 101, 108] } : ByteArray), ({ data := #[73, 110, 115, 101, 114, 116] } : ByteArray), atOf o.at_⟩] 9 v ∧ Below w.heap.size w w' := by
 have hro := valid_right hvo
 obtain ⟨-, h0, hh⟩ := validOp_right hvo
 have hw := wrong_ins (l := es) (id := id_) hvo hk
 rw [if_pos hin] at hw
 have HR := hid (fun W => refRightOp_any o W)
 rw [hro] at HR
 have HV := hid (fun W => refValidOp_any o n W)
 rw [hvo] at HV
 obtain ⟨k, t, c', r⟩ := o
 dsimp only at hk h0 hh hw
 subst hk
 obtain ⟨i, rfl⟩ : ∃ i : Nat, t = i := ⟨t.toNat, by omega⟩
 have HI := hid (fun W (hb : Below w.heap.size w W) => refInsert_no A n c i 9 es S (fun b => S' b ∧ b < w.heap.size) (insEl id_ c') W (h.step hb) hn (by omega) hw (by omega) (by omega))
 unfold insEl at HI
 dsimp only at HI
 clear hro hvo hw hin hh h0 h
 obtain ⟨o, ho⟩ : ∃ o : Opn, o = ⟨1, i, c', r⟩ := ⟨_, rfl⟩
 have ho0 : Hid (o.kind = 1) := hid (by rw [ho])
 have ho1 : Hid (o.at_ = i) := hid (by rw [ho])
 have ho2 : Hid (o.char = c') := hid (by rw [ho])
 rw [← ho] at HR HV ⊢
 clear ho
 unfold Opn.agg Nm.val at *
 go_enter Tryz.func139, Tryz.ntmps139
 repeat' (first | (with_reducible refine stop_region 1 ?_) | go_step)
 refine Stop.go ?_
 obtain ⟨hX, hY, hZ, hb⟩ := boxes3 w 37 70 62 #[.int .i64 o.kind, .int .i64 o.at_, .int .i32 o.char, .int .i64 o.rep] #[.int .i64 id_.epoch, .int .i64 id_.rep, .int .i64 id_.num] #[.int .i64 0, .slice none 0 0, .slice none 0 0]
 generalize ((w.alloc (.cells #[.int .i64 o.kind, .int .i64 o.at_, .int .i32 o.char, .int .i64 o.rep] 37)).alloc (.cells #[.int .i64 id_.epoch, .int .i64 id_.rep, .int .i64 id_.num] 70)).alloc (.cells #[.int .i64 0, .slice none 0 0, .slice none 0 0] 62) = W1 at *
 obtain ⟨x0, x1, x2, x3, -, -, -, -, xl⟩ := hX.four
 repeat' (first | (go_at_call 108; go_must ((with_reducible refine Calls.mono (HR.out _) ?_); rintro _ w5 ⟨rfl, hb5⟩; have hZ5 := hZ.step hb5; have hX5 := hX.step hb5; have hY5 := hY.step hb5; obtain ⟨x0, x1, x2, x3, -, -, -, -, xl⟩ := hX5.four; dsimp only)) | (go_at_call 137; go_must ((with_reducible refine Calls.mono (HV.out _) ?_); rintro _ w2 ⟨rfl, hb2⟩; have hZ2 := hZ5.step hb2; have hX2 := hX5.step hb2; have hY2 := hY5.step hb2; dsimp only)) | (with_reducible refine stop_region 7 ?_) | go_step)
 refine Stop.go ?_
 clear HR HV
 have eN : Below w2.heap.size w2 (w2.alloc (.cells #[.int .i64 0, .slice none 0 0, .slice none 0 0] 62)) := balloc (Below.refl _ _)
 have hN := Blk.new w2 62 #[.int .i64 0, .slice none 0 0, .slice none 0 0]
 have hXN := hX2.step eN
 have hYN := hY2.step eN
 have hZN := hZ2.step eN
 have hbN := bvia (bvia (bvia hb hb5) hb2) eN
 have hnz : w.heap.size + 1 + 1 < w2.heap.size := hZ2.lt
 clear x0 x1 x2 x3 xl hX hY hZ hX5 hY5 hZ5 hX2 hY2 hZ2 hb hb5 hb2 eN
 generalize w2.alloc (.cells #[.int .i64 0, .slice none 0 0, .slice none 0 0] 62) = W2 at *
 generalize w2.heap.size = nb at *
 have hnl := hN.lt
 obtain ⟨x0, x1, x2, x3, -, -, -, -, xl⟩ := hXN.four
 have y0 := hYN.cell 0
 have y1 := hYN.cell 1
 have y2 := hYN.cell 2
 simp at y0 y1 y2
 rw [ho0.out] at x0
 rw [ho1.out] at x1
 rw [ho2.out] at x2
 rw [ho0.out, ho1.out, ho2.out] at hXN
 clear ho0 ho2
 repeat' (first | (go_at_call 155; go_must ((with_reducible refine Calls.mono (HI.out _ hbN) ?_); rintro _ w6 ⟨v, rfl, hno, hb6⟩; obtain ⟨g1, B, m, d, C, q, rfl, hr1, hr2⟩ := id hno; have hN6 := hN.step hb6; have hX6 := hXN.step hb6; have hZ6 := hZN.step hb6; obtain ⟨nl, n0, n1, n2, f0, f1, f2⟩ := bl3 hN6; dsimp only)) | (with_reducible refine stop_region 13 ?_) | go_step)
 refine Stop.go ?_
 have hb7 : Below w.heap.size w (((w6.setCell ⟨nb, 0, none⟩ (.int .i64 9)).setCell ⟨nb, 1, none⟩ (.slice B m d)).setCell ⟨nb, 2, none⟩ (.slice C 1 q)) := bset (bset (bset (bvia hbN hb6) (by show w.heap.size ≤ nb; omega)) (by show w.heap.size ≤ nb; omega)) (by show w.heap.size ≤ nb; omega)
 have hno7 := hno.set3 (b := nb) (fun h => by rcases h with h | h; omega; omega) (.int .i64 9) (.slice B m d) (.slice C 1 q)
 have hN7 := ((hN6.set_ 0 (.int .i64 9)).set_ 1 (.slice B m d)).set_ 2 (.slice C 1 q)
 have hX7 := ((hX6.far (p := ⟨nb, 0, none⟩) (by show w.heap.size ≠ nb; omega) (.int .i64 9)).far (p := ⟨nb, 1, none⟩) (by show w.heap.size ≠ nb; omega) (.slice B m d)).far (p := ⟨nb, 2, none⟩) (by show w.heap.size ≠ nb; omega) (.slice C 1 q)
 have hZ7 := ((hZ6.far (p := ⟨nb, 0, none⟩) (by show w.heap.size + 1 + 1 ≠ nb; omega) (.int .i64 9)).far (p := ⟨nb, 1, none⟩) (by show w.heap.size + 1 + 1 ≠ nb; omega) (.slice B m d)).far (p := ⟨nb, 2, none⟩) (by show w.heap.size + 1 + 1 ≠ nb; omega) (.slice C 1 q)
 have hz7 : W2.heap.size ≤ (((w6.setCell ⟨nb, 0, none⟩ (.int .i64 9)).setCell ⟨nb, 1, none⟩ (.slice B m d)).setCell ⟨nb, 2, none⟩ (.slice C 1 q)).heap.size := by simpa [World.setCell] using hb6.size
 clear n0 n1 n2 f0 f1 f2 nl x0 x1 x2 x3 y0 y1 y2 hno hr1 hr2 hN6 hX6 hZ6
 generalize ((w6.setCell ⟨nb, 0, none⟩ (.int .i64 9)).setCell ⟨nb, 1, none⟩ (.slice B m d)).setCell ⟨nb, 2, none⟩ (.slice C 1 q) = W7 at *
 obtain ⟨-, A0, m0, d0, B0, q0, hv, hch, hco⟩ := hno7
 simp only [Value.agg.injEq, Array.mk.injEq, List.cons.injEq, Value.slice.injEq, and_true, true_and] at hv
 obtain ⟨⟨rfl, rfl, rfl⟩, rfl, rfl⟩ := hv
 obtain ⟨x0, x1, x2, x3, -, -, -, -, xl⟩ := hX7.four
 have n0 := hN7.cell 0
 have n1 := hN7.cell 1
 have n2 := hN7.cell 2
 have nl := hN7.lt
 simp at n0 n1 n2
 have hm1 : m ≤ 1073741824 := by have := hch.1; simp at this; omega
 have HW := hid (wrap_any ({ data := #[120, 102, 111, 114, 109] } : ByteArray) ({ data := #[65, 112, 112, 108, 121] } : ByteArray) i 9 (by omega) (by omega) B m d C q _ W7 hch hco hm1)
 repeat' (first | (go_at_call 59; go_must ((with_reducible refine Calls.mono HW.out ?_); rintro _ w8 ⟨v, rfl, hno, hb8⟩; obtain ⟨g1, B8, m8, d8, C8, k8, rfl, -, -⟩ := id hno; have hZ8 := hZ7.step hb8; obtain ⟨rl, r0, r1, r2, f0, f1, f2⟩ := bl3 hZ8; dsimp only)) | go_step)
 refine bodyPost_ret (v := .tuple #[.slice A n c, .agg #[.int .i64 9, .slice B8 m8 d8, .slice C8 1 k8]]) (by simp [results, Tryz.results139, go_sem, r0, r1, r2, rl, size_set]) rfl ⟨_, rfl, ?_, ?_⟩
 · rw [ho1.out]
   refine ((hno.moreS (S' := fun b => (S' b ∧ b < w.heap.size) ∨ W2.heap.size ≤ b) ?_).set3 (b := w.heap.size + 1 + 1) ?_ _ _ _).moreS ?_
   · intro b h
     rcases h with h | h
     · exact h
     · exact .inr (Nat.le_trans hz7 h)
   · intro h
     rcases h with h | h
     · omega
     · have := hZN.lt; omega
   · intro b h
     rcases h with h | h
     · exact .inl h.1
     · exact .inr (Nat.le_trans hbN.size h)
 · exact bset (bset (bset (bvia hb7 hb8) (by show w.heap.size ≤ w.heap.size + 1 + 1; omega)) (by show w.heap.size ≤ w.heap.size + 1 + 1; omega)) (by show w.heap.size ≤ w.heap.size + 1 + 1; omega)
theorem refApply_ins (A : Option Addr) (n c i : Nat) (es : List El) (S : Nat → Prop) (c' r : Int) (id_ : Nm) (w : World) (h : Row w S A n c es) (hn : n ≤ 1073741824) (hvo : validOp ⟨1, i, c', r⟩ n = true) (hin : id_ ∉ es.map El.nm) :
 Calls Tryz.prog 139 #[.slice A n c, .agg #[.int .i64 1, .int .i64 i, .int .i32 c', .int .i64 r], id_.val] w fun e w' => ∃ A' d, e = .returned (.tuple #[.slice A' (n + 1) d, noNone]) ∧ Own w' w.heap.size A' (n + 1) d (es.take i ++ insEl id_ c' :: es.drop i) ∧ Below w.heap.size w w' := by
 have hro := valid_right hvo
 obtain ⟨-, h0, hh⟩ := validOp_right hvo
 have hw := wrong_ins (l := es) (id := id_) hvo rfl
 rw [if_neg hin] at hw
 dsimp only at hw h0 hh
 obtain ⟨o, ho⟩ : ∃ o : Opn, o = ⟨1, i, c', r⟩ := ⟨_, rfl⟩
 have HR := hid (fun W => refRightOp_any o W)
 rw [ho, hro, ← ho] at HR
 have HV := hid (fun W => refValidOp_any o n W)
 rw [ho, hvo, ← ho] at HV
 have HI := hid (fun W (hb : Below w.heap.size w W) => refInsert_ok A n c i es S (insEl id_ c') W (h.step hb) hn (by omega) hw)
 have hil : i ≤ n := by omega
 unfold insEl at HI ⊢
 dsimp only at HI
 clear hro hvo hw hin hh h0 h
 have hagg : Value.agg #[.int .i64 1, .int .i64 i, .int .i32 c', .int .i64 r] = o.agg := by rw [ho]; rfl
 rw [hagg]
 have ho0 : Hid (o.kind = 1) := hid (by rw [ho])
 have ho1 : Hid (o.at_ = i) := hid (by rw [ho])
 have ho2 : Hid (o.char = c') := hid (by rw [ho])
 clear ho hagg
 unfold Opn.agg Nm.val at *
 go_enter Tryz.func139, Tryz.ntmps139
 repeat' (first | (with_reducible refine stop_region 1 ?_) | go_step)
 refine Stop.go ?_
 obtain ⟨hX, hY, hZ, hb⟩ := boxes3 w 37 70 62 #[.int .i64 o.kind, .int .i64 o.at_, .int .i32 o.char, .int .i64 o.rep] #[.int .i64 id_.epoch, .int .i64 id_.rep, .int .i64 id_.num] #[.int .i64 0, .slice none 0 0, .slice none 0 0]
 generalize ((w.alloc (.cells #[.int .i64 o.kind, .int .i64 o.at_, .int .i32 o.char, .int .i64 o.rep] 37)).alloc (.cells #[.int .i64 id_.epoch, .int .i64 id_.rep, .int .i64 id_.num] 70)).alloc (.cells #[.int .i64 0, .slice none 0 0, .slice none 0 0] 62) = W1 at *
 obtain ⟨x0, x1, x2, x3, -, -, -, -, xl⟩ := hX.four
 repeat' (first | (go_at_call 108; go_must ((with_reducible refine Calls.mono (HR.out _) ?_); rintro _ w5 ⟨rfl, hb5⟩; have hZ5 := hZ.step hb5; have hX5 := hX.step hb5; have hY5 := hY.step hb5; obtain ⟨x0, x1, x2, x3, -, -, -, -, xl⟩ := hX5.four; dsimp only)) | (go_at_call 137; go_must ((with_reducible refine Calls.mono (HV.out _) ?_); rintro _ w2 ⟨rfl, hb2⟩; have hZ2 := hZ5.step hb2; have hX2 := hX5.step hb2; have hY2 := hY5.step hb2; dsimp only)) | (with_reducible refine stop_region 7 ?_) | go_step)
 refine Stop.go ?_
 clear HR HV
 have eN : Below w2.heap.size w2 (w2.alloc (.cells #[.int .i64 0, .slice none 0 0, .slice none 0 0] 62)) := balloc (Below.refl _ _)
 have hN := Blk.new w2 62 #[.int .i64 0, .slice none 0 0, .slice none 0 0]
 have hXN := hX2.step eN
 have hYN := hY2.step eN
 have hZN := hZ2.step eN
 have hbN := bvia (bvia (bvia hb hb5) hb2) eN
 have hnz : w.heap.size + 1 + 1 < w2.heap.size := hZ2.lt
 clear x0 x1 x2 x3 xl hX hY hZ hX5 hY5 hZ5 hX2 hY2 hZ2 hb hb5 hb2 eN
 generalize w2.alloc (.cells #[.int .i64 0, .slice none 0 0, .slice none 0 0] 62) = W2 at *
 generalize w2.heap.size = nb at *
 have hnl := hN.lt
 obtain ⟨x0, x1, x2, x3, -, -, -, -, xl⟩ := hXN.four
 have y0 := hYN.cell 0
 have y1 := hYN.cell 1
 have y2 := hYN.cell 2
 simp at y0 y1 y2
 rw [ho0.out] at x0
 rw [ho1.out] at x1
 rw [ho2.out] at x2
 rw [ho0.out, ho1.out, ho2.out] at hXN
 clear ho0 ho1 ho2
 repeat' (first | (go_at_call 155; go_must ((with_reducible refine Calls.mono (HI.out _ hbN) ?_); unfold noNone; rintro _ w6 ⟨A6, c6, rfl, hown6, hb6⟩; have hN6 := hN.step hb6; have hX6 := hXN.step hb6; have hZ6 := hZN.step hb6; obtain ⟨nl, n0, n1, n2, f0, f1, f2⟩ := bl3 hN6; dsimp only)) | (with_reducible refine stop_region 13 ?_) | go_step)
 refine Stop.go ?_
 have hb7 : Below w.heap.size w (((w6.setCell ⟨nb, 0, none⟩ (.int .i64 0)).setCell ⟨nb, 1, none⟩ (.slice none 0 0)).setCell ⟨nb, 2, none⟩ (.slice none 0 0)) := bset (bset (bset (bvia hbN hb6) (by show w.heap.size ≤ nb; omega)) (by show w.heap.size ≤ nb; omega)) (by show w.heap.size ≤ nb; omega)
 have hN7 := ((hN6.set_ 0 (.int .i64 0)).set_ 1 (.slice none 0 0)).set_ 2 (.slice none 0 0)
 have hX7 := ((hX6.far (p := ⟨nb, 0, none⟩) (by show w.heap.size ≠ nb; omega) (.int .i64 0)).far (p := ⟨nb, 1, none⟩) (by show w.heap.size ≠ nb; omega) (.slice none 0 0)).far (p := ⟨nb, 2, none⟩) (by show w.heap.size ≠ nb; omega) (.slice none 0 0)
 have hZ7 := ((hZ6.far (p := ⟨nb, 0, none⟩) (by show w.heap.size + 1 + 1 ≠ nb; omega) (.int .i64 0)).far (p := ⟨nb, 1, none⟩) (by show w.heap.size + 1 + 1 ≠ nb; omega) (.slice none 0 0)).far (p := ⟨nb, 2, none⟩) (by show w.heap.size + 1 + 1 ≠ nb; omega) (.slice none 0 0)
 have hown7 := (((hown6.keep (S := fun b => b ≠ nb) (Same.setCell (p := ⟨nb, 0, none⟩) w6 (fun h => h rfl) (.int .i64 0)) (fun a ha e => by have := (hown6.block a ha).1; omega)).keep (S := fun b => b ≠ nb) (Same.setCell (p := ⟨nb, 1, none⟩) _ (fun h => h rfl) (.slice none 0 0)) (fun a ha e => by have := (hown6.block a ha).1; omega)).keep (S := fun b => b ≠ nb) (Same.setCell (p := ⟨nb, 2, none⟩) _ (fun h => h rfl) (.slice none 0 0)) (fun a ha e => by have := (hown6.block a ha).1; omega))
 clear n0 n1 n2 f0 f1 f2 nl x0 x1 x2 x3 y0 y1 y2 hN6 hX6 hZ6 hown6
 generalize ((w6.setCell ⟨nb, 0, none⟩ (.int .i64 0)).setCell ⟨nb, 1, none⟩ (.slice none 0 0)).setCell ⟨nb, 2, none⟩ (.slice none 0 0) = W7 at *
 obtain ⟨x0, x1, x2, x3, -, -, -, -, xl⟩ := hX7.four
 have n0 := hN7.cell 0
 have n1 := hN7.cell 1
 have n2 := hN7.cell 2
 have nl := hN7.lt
 simp at n0 n1 n2
 have HW := hid (wrap_none ({ data := #[120, 102, 111, 114, 109] } : ByteArray) ({ data := #[65, 112, 112, 108, 121] } : ByteArray) i W7)
 unfold noNone at HW
 repeat' (first | (go_at_call 59; go_must ((with_reducible refine Calls.mono HW.out ?_); rintro _ w8 ⟨rfl, hb8⟩; have hZ8 := hZ7.step hb8; obtain ⟨rl, r0, r1, r2, f0, f1, f2⟩ := bl3 hZ8; dsimp only)) | go_step)
 refine bodyPost_ret (v := .tuple #[.slice A6 (n + 1) c6, .agg #[.int .i64 0, .slice none 0 0, .slice none 0 0]]) (by simp [results, Tryz.results139, go_sem, r0, r1, r2, rl, size_set]) rfl ⟨A6, c6, rfl, ?_, ?_⟩
 · have hne : ∀ a, A6 = some a → a.block ≠ w.heap.size + 1 + 1 := fun a ha => by have := (hown7.block a ha).1; have := hZN.lt; omega
   have h8 := hown7.step hb8
   have := (((h8.keep (S := fun b => b ≠ w.heap.size + 1 + 1) (Same.setCell (p := ⟨w.heap.size + 1 + 1, 0, none⟩) w8 (fun h => h rfl) (.int .i64 0)) hne).keep (S := fun b => b ≠ w.heap.size + 1 + 1) (Same.setCell (p := ⟨w.heap.size + 1 + 1, 1, none⟩) _ (fun h => h rfl) (.slice none 0 0)) hne).keep (S := fun b => b ≠ w.heap.size + 1 + 1) (Same.setCell (p := ⟨w.heap.size + 1 + 1, 2, none⟩) _ (fun h => h rfl) (.slice none 0 0)) hne)
   exact this.mono hbN.size
 · exact bset (bset (bset (bvia hb7 hb8) (by show w.heap.size ≤ w.heap.size + 1 + 1; omega)) (by show w.heap.size ≤ w.heap.size + 1 + 1; omega)) (by show w.heap.size ≤ w.heap.size + 1 + 1; omega)
theorem refApply_era (A : Option Addr) (n c i : Nat) (es : List El) (S : Nat → Prop) (e : El) (c' r : Int) (id_ : Nm) (w : World) (h : Row w S A n c es) (hn : n ≤ 1073741824) (hvo : validOp ⟨2, i, c', r⟩ n = true) (he : es[i]? = some e) (hf : fairH (e.hides + 1) = true) :
 Calls Tryz.prog 139 #[.slice A n c, .agg #[.int .i64 2, .int .i64 i, .int .i32 c', .int .i64 r], id_.val] w fun e' w' => ∃ A' d, e' = .returned (.tuple #[.slice A' n d, noNone]) ∧ Own w' w.heap.size A' n d (es.set i (e.hide 1)) ∧ Below w.heap.size w w' := by
 have hro := valid_right hvo
 obtain ⟨o, ho⟩ : ∃ o : Opn, o = ⟨2, i, c', r⟩ := ⟨_, rfl⟩
 have HR := hid (fun W => refRightOp_any o W)
 rw [ho, hro, ← ho] at HR
 have HV := hid (fun W => refValidOp_any o n W)
 rw [ho, hvo, ← ho] at HV
 have HI := hid (fun W (hb : Below w.heap.size w W) => refAdd_ok A n c i es S e 1 (by omega) W (h.step hb) hn he hf)
 clear hro hvo h he hf
 have hagg : Value.agg #[.int .i64 2, .int .i64 i, .int .i32 c', .int .i64 r] = o.agg := by rw [ho]; rfl
 rw [hagg]
 have ho0 : Hid (o.kind = 2) := hid (by rw [ho])
 have ho1 : Hid (o.at_ = i) := hid (by rw [ho])
 clear ho hagg
 unfold Opn.agg Nm.val at *
 go_enter Tryz.func139, Tryz.ntmps139
 repeat' (first | (with_reducible refine stop_region 1 ?_) | go_step)
 refine Stop.go ?_
 obtain ⟨hX, hY, hZ, hb⟩ := boxes3 w 37 70 62 #[.int .i64 o.kind, .int .i64 o.at_, .int .i32 o.char, .int .i64 o.rep] #[.int .i64 id_.epoch, .int .i64 id_.rep, .int .i64 id_.num] #[.int .i64 0, .slice none 0 0, .slice none 0 0]
 generalize ((w.alloc (.cells #[.int .i64 o.kind, .int .i64 o.at_, .int .i32 o.char, .int .i64 o.rep] 37)).alloc (.cells #[.int .i64 id_.epoch, .int .i64 id_.rep, .int .i64 id_.num] 70)).alloc (.cells #[.int .i64 0, .slice none 0 0, .slice none 0 0] 62) = W1 at *
 obtain ⟨x0, x1, x2, x3, -, -, -, -, xl⟩ := hX.four
 repeat' (first | (go_at_call 108; go_must ((with_reducible refine Calls.mono (HR.out _) ?_); rintro _ w5 ⟨rfl, hb5⟩; have hZ5 := hZ.step hb5; have hX5 := hX.step hb5; have hY5 := hY.step hb5; obtain ⟨x0, x1, x2, x3, -, -, -, -, xl⟩ := hX5.four; dsimp only)) | (go_at_call 137; go_must ((with_reducible refine Calls.mono (HV.out _) ?_); rintro _ w2 ⟨rfl, hb2⟩; have hZ2 := hZ5.step hb2; have hX2 := hX5.step hb2; have hY2 := hY5.step hb2; dsimp only)) | (with_reducible refine stop_region 7 ?_) | go_step)
 refine Stop.go ?_
 clear HR HV
 have eN : Below w2.heap.size w2 (w2.alloc (.cells #[.int .i64 0, .slice none 0 0, .slice none 0 0] 62)) := balloc (Below.refl _ _)
 have hN := Blk.new w2 62 #[.int .i64 0, .slice none 0 0, .slice none 0 0]
 have hXN := hX2.step eN
 have hYN := hY2.step eN
 have hZN := hZ2.step eN
 have hbN := bvia (bvia (bvia hb hb5) hb2) eN
 have hnz : w.heap.size + 1 + 1 < w2.heap.size := hZ2.lt
 clear x0 x1 x2 x3 xl hX hY hZ hX5 hY5 hZ5 hX2 hY2 hZ2 hb hb5 hb2 eN
 generalize w2.alloc (.cells #[.int .i64 0, .slice none 0 0, .slice none 0 0] 62) = W2 at *
 generalize w2.heap.size = nb at *
 have hnl := hN.lt
 obtain ⟨x0, x1, x2, x3, -, -, -, -, xl⟩ := hXN.four
 have y0 := hYN.cell 0
 have y1 := hYN.cell 1
 have y2 := hYN.cell 2
 simp at y0 y1 y2
 rw [ho0.out] at x0
 rw [ho1.out] at x1
 rw [ho0.out, ho1.out] at hXN
 clear ho0 ho1
 repeat' (first | (go_at_call 156; go_must ((with_reducible refine Calls.mono (HI.out _ hbN) ?_); unfold noNone; rintro _ w6 ⟨A6, c6, rfl, hown6, hb6⟩; have hN6 := hN.step hb6; have hX6 := hXN.step hb6; have hZ6 := hZN.step hb6; obtain ⟨nl, n0, n1, n2, f0, f1, f2⟩ := bl3 hN6; dsimp only)) | (with_reducible refine stop_region 13 ?_) | go_step)
 refine Stop.go ?_
 have hb7 : Below w.heap.size w (((w6.setCell ⟨nb, 0, none⟩ (.int .i64 0)).setCell ⟨nb, 1, none⟩ (.slice none 0 0)).setCell ⟨nb, 2, none⟩ (.slice none 0 0)) := bset (bset (bset (bvia hbN hb6) (by show w.heap.size ≤ nb; omega)) (by show w.heap.size ≤ nb; omega)) (by show w.heap.size ≤ nb; omega)
 have hN7 := ((hN6.set_ 0 (.int .i64 0)).set_ 1 (.slice none 0 0)).set_ 2 (.slice none 0 0)
 have hX7 := ((hX6.far (p := ⟨nb, 0, none⟩) (by show w.heap.size ≠ nb; omega) (.int .i64 0)).far (p := ⟨nb, 1, none⟩) (by show w.heap.size ≠ nb; omega) (.slice none 0 0)).far (p := ⟨nb, 2, none⟩) (by show w.heap.size ≠ nb; omega) (.slice none 0 0)
 have hZ7 := ((hZ6.far (p := ⟨nb, 0, none⟩) (by show w.heap.size + 1 + 1 ≠ nb; omega) (.int .i64 0)).far (p := ⟨nb, 1, none⟩) (by show w.heap.size + 1 + 1 ≠ nb; omega) (.slice none 0 0)).far (p := ⟨nb, 2, none⟩) (by show w.heap.size + 1 + 1 ≠ nb; omega) (.slice none 0 0)
 have hown7 := (((hown6.keep (S := fun b => b ≠ nb) (Same.setCell (p := ⟨nb, 0, none⟩) w6 (fun h => h rfl) (.int .i64 0)) (fun a ha e => by have := (hown6.block a ha).1; omega)).keep (S := fun b => b ≠ nb) (Same.setCell (p := ⟨nb, 1, none⟩) _ (fun h => h rfl) (.slice none 0 0)) (fun a ha e => by have := (hown6.block a ha).1; omega)).keep (S := fun b => b ≠ nb) (Same.setCell (p := ⟨nb, 2, none⟩) _ (fun h => h rfl) (.slice none 0 0)) (fun a ha e => by have := (hown6.block a ha).1; omega))
 clear n0 n1 n2 f0 f1 f2 nl x0 x1 x2 x3 y0 y1 y2 hN6 hX6 hZ6 hown6
 generalize ((w6.setCell ⟨nb, 0, none⟩ (.int .i64 0)).setCell ⟨nb, 1, none⟩ (.slice none 0 0)).setCell ⟨nb, 2, none⟩ (.slice none 0 0) = W7 at *
 obtain ⟨x0, x1, x2, x3, -, -, -, -, xl⟩ := hX7.four
 have n0 := hN7.cell 0
 have n1 := hN7.cell 1
 have n2 := hN7.cell 2
 have nl := hN7.lt
 simp at n0 n1 n2
 have HW := hid (wrap_none ({ data := #[120, 102, 111, 114, 109] } : ByteArray) ({ data := #[65, 112, 112, 108, 121] } : ByteArray) i W7)
 unfold noNone at HW
 repeat' (first | (go_at_call 59; go_must ((with_reducible refine Calls.mono HW.out ?_); rintro _ w8 ⟨rfl, hb8⟩; have hZ8 := hZ7.step hb8; obtain ⟨rl, r0, r1, r2, f0, f1, f2⟩ := bl3 hZ8; dsimp only)) | go_step)
 refine bodyPost_ret (v := .tuple #[.slice A6 n c6, .agg #[.int .i64 0, .slice none 0 0, .slice none 0 0]]) (by simp [results, Tryz.results139, go_sem, r0, r1, r2, rl, size_set]) rfl ⟨A6, c6, rfl, ?_, ?_⟩
 · have hne : ∀ a, A6 = some a → a.block ≠ w.heap.size + 1 + 1 := fun a ha => by have := (hown7.block a ha).1; have := hZN.lt; omega
   have h8 := hown7.step hb8
   have := (((h8.keep (S := fun b => b ≠ w.heap.size + 1 + 1) (Same.setCell (p := ⟨w.heap.size + 1 + 1, 0, none⟩) w8 (fun h => h rfl) (.int .i64 0)) hne).keep (S := fun b => b ≠ w.heap.size + 1 + 1) (Same.setCell (p := ⟨w.heap.size + 1 + 1, 1, none⟩) _ (fun h => h rfl) (.slice none 0 0)) hne).keep (S := fun b => b ≠ w.heap.size + 1 + 1) (Same.setCell (p := ⟨w.heap.size + 1 + 1, 2, none⟩) _ (fun h => h rfl) (.slice none 0 0)) hne)
   exact this.mono hbN.size
 · exact bset (bset (bset (bvia hb7 hb8) (by show w.heap.size ≤ w.heap.size + 1 + 1; omega)) (by show w.heap.size ≤ w.heap.size + 1 + 1; omega)) (by show w.heap.size ≤ w.heap.size + 1 + 1; omega)
theorem refApply_res (A : Option Addr) (n c i : Nat) (es : List El) (S : Nat → Prop) (e : El) (c' r : Int) (id_ : Nm) (w : World) (h : Row w S A n c es) (hn : n ≤ 1073741824) (hvo : validOp ⟨3, i, c', r⟩ n = true) (he : es[i]? = some e) (hf : fairH (e.hides + (-1)) = true) :
 Calls Tryz.prog 139 #[.slice A n c, .agg #[.int .i64 3, .int .i64 i, .int .i32 c', .int .i64 r], id_.val] w fun e' w' => ∃ A' d, e' = .returned (.tuple #[.slice A' n d, noNone]) ∧ Own w' w.heap.size A' n d (es.set i (e.hide (-1))) ∧ Below w.heap.size w w' := by
 have hro := valid_right hvo
 obtain ⟨o, ho⟩ : ∃ o : Opn, o = ⟨3, i, c', r⟩ := ⟨_, rfl⟩
 have HR := hid (fun W => refRightOp_any o W)
 rw [ho, hro, ← ho] at HR
 have HV := hid (fun W => refValidOp_any o n W)
 rw [ho, hvo, ← ho] at HV
 have HI := hid (fun W (hb : Below w.heap.size w W) => refAdd_ok A n c i es S e (-1) (by omega) W (h.step hb) hn he hf)
 clear hro hvo h he hf
 have hagg : Value.agg #[.int .i64 3, .int .i64 i, .int .i32 c', .int .i64 r] = o.agg := by rw [ho]; rfl
 rw [hagg]
 have ho0 : Hid (o.kind = 3) := hid (by rw [ho])
 have ho1 : Hid (o.at_ = i) := hid (by rw [ho])
 clear ho hagg
 unfold Opn.agg Nm.val at *
 go_enter Tryz.func139, Tryz.ntmps139
 repeat' (first | (with_reducible refine stop_region 1 ?_) | go_step)
 refine Stop.go ?_
 obtain ⟨hX, hY, hZ, hb⟩ := boxes3 w 37 70 62 #[.int .i64 o.kind, .int .i64 o.at_, .int .i32 o.char, .int .i64 o.rep] #[.int .i64 id_.epoch, .int .i64 id_.rep, .int .i64 id_.num] #[.int .i64 0, .slice none 0 0, .slice none 0 0]
 generalize ((w.alloc (.cells #[.int .i64 o.kind, .int .i64 o.at_, .int .i32 o.char, .int .i64 o.rep] 37)).alloc (.cells #[.int .i64 id_.epoch, .int .i64 id_.rep, .int .i64 id_.num] 70)).alloc (.cells #[.int .i64 0, .slice none 0 0, .slice none 0 0] 62) = W1 at *
 obtain ⟨x0, x1, x2, x3, -, -, -, -, xl⟩ := hX.four
 repeat' (first | (go_at_call 108; go_must ((with_reducible refine Calls.mono (HR.out _) ?_); rintro _ w5 ⟨rfl, hb5⟩; have hZ5 := hZ.step hb5; have hX5 := hX.step hb5; have hY5 := hY.step hb5; obtain ⟨x0, x1, x2, x3, -, -, -, -, xl⟩ := hX5.four; dsimp only)) | (go_at_call 137; go_must ((with_reducible refine Calls.mono (HV.out _) ?_); rintro _ w2 ⟨rfl, hb2⟩; have hZ2 := hZ5.step hb2; have hX2 := hX5.step hb2; have hY2 := hY5.step hb2; dsimp only)) | (with_reducible refine stop_region 7 ?_) | go_step)
 refine Stop.go ?_
 clear HR HV
 have eN : Below w2.heap.size w2 (w2.alloc (.cells #[.int .i64 0, .slice none 0 0, .slice none 0 0] 62)) := balloc (Below.refl _ _)
 have hN := Blk.new w2 62 #[.int .i64 0, .slice none 0 0, .slice none 0 0]
 have hXN := hX2.step eN
 have hYN := hY2.step eN
 have hZN := hZ2.step eN
 have hbN := bvia (bvia (bvia hb hb5) hb2) eN
 have hnz : w.heap.size + 1 + 1 < w2.heap.size := hZ2.lt
 clear x0 x1 x2 x3 xl hX hY hZ hX5 hY5 hZ5 hX2 hY2 hZ2 hb hb5 hb2 eN
 generalize w2.alloc (.cells #[.int .i64 0, .slice none 0 0, .slice none 0 0] 62) = W2 at *
 generalize w2.heap.size = nb at *
 have hnl := hN.lt
 obtain ⟨x0, x1, x2, x3, -, -, -, -, xl⟩ := hXN.four
 have y0 := hYN.cell 0
 have y1 := hYN.cell 1
 have y2 := hYN.cell 2
 simp at y0 y1 y2
 rw [ho0.out] at x0
 rw [ho1.out] at x1
 rw [ho0.out, ho1.out] at hXN
 clear ho0 ho1
 repeat' (first | (go_at_call 156; go_must ((with_reducible refine Calls.mono (HI.out _ hbN) ?_); unfold noNone; rintro _ w6 ⟨A6, c6, rfl, hown6, hb6⟩; have hN6 := hN.step hb6; have hX6 := hXN.step hb6; have hZ6 := hZN.step hb6; obtain ⟨nl, n0, n1, n2, f0, f1, f2⟩ := bl3 hN6; dsimp only)) | (with_reducible refine stop_region 13 ?_) | go_step)
 refine Stop.go ?_
 have hb7 : Below w.heap.size w (((w6.setCell ⟨nb, 0, none⟩ (.int .i64 0)).setCell ⟨nb, 1, none⟩ (.slice none 0 0)).setCell ⟨nb, 2, none⟩ (.slice none 0 0)) := bset (bset (bset (bvia hbN hb6) (by show w.heap.size ≤ nb; omega)) (by show w.heap.size ≤ nb; omega)) (by show w.heap.size ≤ nb; omega)
 have hN7 := ((hN6.set_ 0 (.int .i64 0)).set_ 1 (.slice none 0 0)).set_ 2 (.slice none 0 0)
 have hX7 := ((hX6.far (p := ⟨nb, 0, none⟩) (by show w.heap.size ≠ nb; omega) (.int .i64 0)).far (p := ⟨nb, 1, none⟩) (by show w.heap.size ≠ nb; omega) (.slice none 0 0)).far (p := ⟨nb, 2, none⟩) (by show w.heap.size ≠ nb; omega) (.slice none 0 0)
 have hZ7 := ((hZ6.far (p := ⟨nb, 0, none⟩) (by show w.heap.size + 1 + 1 ≠ nb; omega) (.int .i64 0)).far (p := ⟨nb, 1, none⟩) (by show w.heap.size + 1 + 1 ≠ nb; omega) (.slice none 0 0)).far (p := ⟨nb, 2, none⟩) (by show w.heap.size + 1 + 1 ≠ nb; omega) (.slice none 0 0)
 have hown7 := (((hown6.keep (S := fun b => b ≠ nb) (Same.setCell (p := ⟨nb, 0, none⟩) w6 (fun h => h rfl) (.int .i64 0)) (fun a ha e => by have := (hown6.block a ha).1; omega)).keep (S := fun b => b ≠ nb) (Same.setCell (p := ⟨nb, 1, none⟩) _ (fun h => h rfl) (.slice none 0 0)) (fun a ha e => by have := (hown6.block a ha).1; omega)).keep (S := fun b => b ≠ nb) (Same.setCell (p := ⟨nb, 2, none⟩) _ (fun h => h rfl) (.slice none 0 0)) (fun a ha e => by have := (hown6.block a ha).1; omega))
 clear n0 n1 n2 f0 f1 f2 nl x0 x1 x2 x3 y0 y1 y2 hN6 hX6 hZ6 hown6
 generalize ((w6.setCell ⟨nb, 0, none⟩ (.int .i64 0)).setCell ⟨nb, 1, none⟩ (.slice none 0 0)).setCell ⟨nb, 2, none⟩ (.slice none 0 0) = W7 at *
 obtain ⟨x0, x1, x2, x3, -, -, -, -, xl⟩ := hX7.four
 have n0 := hN7.cell 0
 have n1 := hN7.cell 1
 have n2 := hN7.cell 2
 have nl := hN7.lt
 simp at n0 n1 n2
 have HW := hid (wrap_none ({ data := #[120, 102, 111, 114, 109] } : ByteArray) ({ data := #[65, 112, 112, 108, 121] } : ByteArray) i W7)
 unfold noNone at HW
 repeat' (first | (go_at_call 59; go_must ((with_reducible refine Calls.mono HW.out ?_); rintro _ w8 ⟨rfl, hb8⟩; have hZ8 := hZ7.step hb8; obtain ⟨rl, r0, r1, r2, f0, f1, f2⟩ := bl3 hZ8; dsimp only)) | go_step)
 refine bodyPost_ret (v := .tuple #[.slice A6 n c6, .agg #[.int .i64 0, .slice none 0 0, .slice none 0 0]]) (by simp [results, Tryz.results139, go_sem, r0, r1, r2, rl, size_set]) rfl ⟨A6, c6, rfl, ?_, ?_⟩
 · have hne : ∀ a, A6 = some a → a.block ≠ w.heap.size + 1 + 1 := fun a ha => by have := (hown7.block a ha).1; have := hZN.lt; omega
   have h8 := hown7.step hb8
   have := (((h8.keep (S := fun b => b ≠ w.heap.size + 1 + 1) (Same.setCell (p := ⟨w.heap.size + 1 + 1, 0, none⟩) w8 (fun h => h rfl) (.int .i64 0)) hne).keep (S := fun b => b ≠ w.heap.size + 1 + 1) (Same.setCell (p := ⟨w.heap.size + 1 + 1, 1, none⟩) _ (fun h => h rfl) (.slice none 0 0)) hne).keep (S := fun b => b ≠ w.heap.size + 1 + 1) (Same.setCell (p := ⟨w.heap.size + 1 + 1, 2, none⟩) _ (fun h => h rfl) (.slice none 0 0)) hne)
   exact this.mono hbN.size
 · exact bset (bset (bset (bvia hb7 hb8) (by show w.heap.size ≤ w.heap.size + 1 + 1; omega)) (by show w.heap.size ≤ w.heap.size + 1 + 1; omega)) (by show w.heap.size ≤ w.heap.size + 1 + 1; omega)
end Go.Proofs.YteggpddlkkjmjaaGreatDoor
