/- Part of a proof: what functions of the program compute. Conditions: as each theorem says. -/
import Derived.Maps.RangeWalk
import Derived.Test.YteggpddlkkjmjaaGreatDoorQ18
set_option linter.unusedSimpArgs false
set_option linter.unusedVariables false
set_option maxHeartbeats 2000000
set_option maxRecDepth 50000
namespace Go.Proofs.YteggpddlkkjmjaaGreatDoor
open Go Go.RowKit
theorem Actn.vals_clk (x : Actn) {k : Nat} (h : k < 8) : x.vals[5 + k]? = some (.int .i64 (x.clk.get k)) := by
 rcases lt8 h with rfl | rfl | rfl | rfl | rfl | rfl | rfl | rfl <;> rfl
theorem ready_any (h : Clk) (x : Actn) (w : World) (hi : h.In) : Calls Tryz.prog 110 #[h.agg, x.agg] w fun e w' => e = .returned (.bool (readyC h x)) ∧ Below w.heap.size w w' := by
 obtain ⟨hX, hY, e0⟩ := twoBoxes w 44 46 h.vals x.vals
 have HI := hid (fun W => in_any x.op.rep W)
 have HC := hid (fun W => covers_any h x.clk W)
 obtain ⟨v, hv⟩ : ∃ v, v = readyC h x := ⟨_, rfl⟩
 rw [← hv]
 unfold readyC at hv
 have Qx := hid (fun W (hb : Below ((w.alloc (.cells h.vals 44)).alloc (.cells x.vals 46)).heap.size _ W) k (hk : k < 8) => ((hX.step hb).cell k).trans (h.vals_get hk))
 have Qc := hid (fun W (hb : Below ((w.alloc (.cells h.vals 44)).alloc (.cells x.vals 46)).heap.size _ W) k (hk : k < 8) => ((hY.step hb).cell (5 + k)).trans (x.vals_clk hk))
 have Qy := hid (fun W (hb : Below ((w.alloc (.cells h.vals 44)).alloc (.cells x.vals 46)).heap.size _ W) => hY.step hb)
 have Qh := hid (fun W (hb : Below ((w.alloc (.cells h.vals 44)).alloc (.cells x.vals 46)).heap.size _ W) => hX.step hb)
 have hhm := fun k (hk : k < 8) => (hi k hk : -9223372036854775808 ≤ h.get k ∧ h.get k ≤ 9223372036854775807)
 obtain ⟨hg, hhg⟩ : ∃ f : Nat → Int, f = h.get := ⟨_, rfl⟩
 obtain ⟨xg, hxg⟩ : ∃ f : Nat → Int, f = x.clk.get := ⟨_, rfl⟩
 rw [← hhg, ← hxg] at hv
 rw [← hhg] at Qx hhm
 rw [← hxg] at Qc
 have Hhm := hid hhm
 clear hX hY hhg hxg hi hhm
 obtain ⟨h0, h1, h2, h3, h4, h5, h6, h7⟩ := h
 obtain ⟨⟨kd, at_, ch, r⟩, num, ⟨k0, k1, k2, k3, k4, k5, k6, k7⟩⟩ := x
 simp only [Clk.agg, Clk.vals, Actn.agg, Actn.vals] at *
 have Hv := hid hv
 clear hv
 go_enter Tryz.func110, Tryz.ntmps110
 repeat' (first | (with_reducible refine stop_region 1 ?_) | go_step)
 refine Stop.go ?_
 generalize (w.alloc (.cells #[.int .i64 h0, .int .i64 h1, .int .i64 h2, .int .i64 h3, .int .i64 h4, .int .i64 h5, .int .i64 h6, .int .i64 h7] 44)).alloc (.cells #[.int .i64 kd, .int .i64 at_, .int .i32 ch, .int .i64 r, .int .i64 num, .int .i64 k0, .int .i64 k1, .int .i64 k2, .int .i64 k3, .int .i64 k4, .int .i64 k5, .int .i64 k6, .int .i64 k7] 46) = X at *
 have y3 : X.cell? ⟨w.heap.size + 1, 3, none⟩ = some (.int .i64 r) := (Qy.out X (Below.refl _ _)).cell 3
 have yl := (Qy.out X (Below.refl _ _)).lt
 have xl := (Qh.out X (Below.refl _ _)).lt
 by_cases hr : 0 ≤ r ∧ r < 8
 · obtain ⟨k, rfl⟩ := Int.eq_ofNat_of_zero_le hr.1
   have hk : k < 8 := by omega
   have hk' : (k : Int) < 8 := by omega
   have hk0 : ¬ (k : Int) < 0 := by omega
   have hk8 : ¬ (k : Int) ≥ 8 := by omega
   rw [decide_eq_true hr] at HI
   obtain ⟨hm0, hm⟩ := Hhm.out k hk
   have qx := Qx.out X (Below.refl _ _) k hk
   have Dd : Below X.heap.size X X.drew := (Below.refl _ _).drew
   have qxd := Qx.out X.drew Dd k hk
   have qcd := Qc.out X.drew Dd k hk
   have y4 : X.drew.cell? ⟨w.heap.size + 1, 4, none⟩ = some (.int .i64 num) := (Qy.out X.drew Dd).cell 4
   obtain ⟨z0, z1, z2, z3, z4, z5, z6, z7⟩ := cl8 (w := X.drew) (g := w.heap.size) (Qh.out X.drew Dd)
   have c0 : X.drew.cell? ⟨w.heap.size + 1, 5, none⟩ = some (.int .i64 k0) := (Qy.out X.drew Dd).cell 5
   have c1 : X.drew.cell? ⟨w.heap.size + 1, 6, none⟩ = some (.int .i64 k1) := (Qy.out X.drew Dd).cell 6
   have c2 : X.drew.cell? ⟨w.heap.size + 1, 7, none⟩ = some (.int .i64 k2) := (Qy.out X.drew Dd).cell 7
   have c3 : X.drew.cell? ⟨w.heap.size + 1, 8, none⟩ = some (.int .i64 k3) := (Qy.out X.drew Dd).cell 8
   have c4 : X.drew.cell? ⟨w.heap.size + 1, 9, none⟩ = some (.int .i64 k4) := (Qy.out X.drew Dd).cell 9
   have c5 : X.drew.cell? ⟨w.heap.size + 1, 10, none⟩ = some (.int .i64 k5) := (Qy.out X.drew Dd).cell 10
   have c6 : X.drew.cell? ⟨w.heap.size + 1, 11, none⟩ = some (.int .i64 k6) := (Qy.out X.drew Dd).cell 11
   have c7 : X.drew.cell? ⟨w.heap.size + 1, 12, none⟩ = some (.int .i64 k7) := (Qy.out X.drew Dd).cell 12
   have HD := hid Dd
   have hv : v = (decide (hg k ≠ 9223372036854775807 ∧ 1 ≤ num ∧ num = hg k + 1 ∧ xg k = hg k) && coversC ⟨h0, h1, h2, h3, h4, h5, h6, h7⟩ ⟨k0, k1, k2, k3, k4, k5, k6, k7⟩) := by
    rw [Hv.out]
    congr 1
    exact decide_eq_decide.2 ⟨fun h => h.2.2, fun h => ⟨hr.1, hr.2, h⟩⟩
   clear Hv Dd hr
   generalize hg k = hgk at *
   generalize xg k = xgk at *
   generalize coversC ⟨h0, h1, h2, h3, h4, h5, h6, h7⟩ ⟨k0, k1, k2, k3, k4, k5, k6, k7⟩ = cv at *
   have cut : ∀ (P : Prop), ¬ (hgk ≠ 9223372036854775807 ∧ 1 ≤ num ∧ num = hgk + 1 ∧ xgk = hgk) → v = false := fun _ h => by rw [hv, decide_eq_false h]; rfl
   have Cut := hid cut
   clear cut
   by_cases d0 : hgk = 9223372036854775807
   · obtain rfl := Cut.out True (fun h => h.1 d0)
     clear hv
     repeat' (first | (go_at_call 116; go_must ((with_reducible refine Calls.mono (HI.out _) ?_); rintro _ _ ⟨rfl, rfl⟩; dsimp only)) | go_guarded | go_step)
     go_ret
     exact ⟨rfl, e0⟩
   · have hb1 : hgk ≤ 9223372036854775806 := by omega
     by_cases d1 : num ≥ 1
     · by_cases d2 : num = hgk + 1
       · by_cases d3 : xgk = hgk
         · have hv2 : v = cv := by rw [hv, decide_eq_true ⟨d0, by omega, d2, d3⟩]; rfl
           subst hv2
           have d4 : (xgk == hgk) = true := by simpa using d3
           have d5 : (num == hgk + 1) = true := by simpa using d2
           have d6 : (hgk == 9223372036854775807) = false := by simpa using d0
           clear hv d2 d3 d0
           repeat' (first | (go_at_call 116; go_must ((with_reducible refine Calls.mono (HI.out _) ?_); rintro _ _ ⟨rfl, rfl⟩; dsimp only)) | ((with_reducible refine region_at 4 ?_); refine wp_region_ordT (fun _ => True) (rgo [0,4,8,12,16,20,24,28,32,36,40,44,48,52,56,60,64,68,72,76,80,84,88,92,96,100,105,108,112] .nil) (by kernel_rfl) (by kernel_rfl) (by kernel_rfl) rfl rfl ?_) | (go_at_call 141; go_must ((with_reducible refine Calls.mono (HC.out _) ?_); rintro _ w5 ⟨rfl, hb5⟩; dsimp only)) | (with_reducible refine Keep.below (by assumption) ?_) | ((with_reducible refine WpO.here ?_); first | (refine WpO.done ?_; refine NoP.normal ?_) | ((first | refine WpO.load (by rfl) (by rfl) (by go_simp; rfl) ?_ | refine WpO.pure (by rfl) (fun w_ => by go_simp; (try go_bits); rfl) ?_); go_frame) | refine WpO.wild ?_) | ((with_reducible refine wildO.here ?_); (refine wildO.go (by rfl) (fun _ _ => ?_))) | go_guarded | go_step)
           go_ret
           exact ⟨rfl, bvia e0 (bvia HD.out hb5)⟩
         · obtain rfl := Cut.out True (fun h => d3 h.2.2.2)
           have d4 : (xgk == hgk) = false := by simpa using d3
           have d5 : (num == hgk + 1) = true := by simpa using d2
           have d6 : (hgk == 9223372036854775807) = false := by simpa using d0
           clear hv d2 d3 d0
           repeat' (first | (go_at_call 116; go_must ((with_reducible refine Calls.mono (HI.out _) ?_); rintro _ _ ⟨rfl, rfl⟩; dsimp only)) | ((with_reducible refine region_at 4 ?_); refine wp_region_ordT (fun _ => True) (rgo [0,4,8,12,16,20,24,28,32,36,40,44,48,52,56,60,64,68,72,76,80,84,88,92,96,100,105,108,112] .nil) (by kernel_rfl) (by kernel_rfl) (by kernel_rfl) rfl rfl ?_) | ((with_reducible refine WpO.here ?_); first | (refine WpO.done ?_; refine NoP.normal ?_) | ((first | refine WpO.load (by rfl) (by rfl) (by go_simp; rfl) ?_ | refine WpO.pure (by rfl) (fun w_ => by go_simp; (try go_bits); rfl) ?_ | refine WpO.skip (by rfl) ?_); go_frame)) | go_guarded | go_step)
           go_ret
           exact ⟨rfl, bvia e0 HD.out⟩
       · obtain rfl := Cut.out True (fun h => d2 h.2.2.1)
         have d5 : (num == hgk + 1) = false := by simpa using d2
         have d6 : (hgk == 9223372036854775807) = false := by simpa using d0
         clear hv d2 d0
         repeat' (first | (go_at_call 116; go_must ((with_reducible refine Calls.mono (HI.out _) ?_); rintro _ _ ⟨rfl, rfl⟩; dsimp only)) | ((with_reducible refine region_at 4 ?_); refine wp_region_ordT (fun _ => True) (rgo [0,4,8,12,16,20,24,28,32,36,40,44,48,52,56,60,64,68,72,76,80,84,88,92,96,100,105,108,112] .nil) (by kernel_rfl) (by kernel_rfl) (by kernel_rfl) rfl rfl ?_) | ((with_reducible refine WpO.here ?_); first | (refine WpO.done ?_; refine NoP.normal ?_) | ((first | refine WpO.load (by rfl) (by rfl) (by go_simp; rfl) ?_ | refine WpO.pure (by rfl) (fun w_ => by go_simp; (try go_bits); rfl) ?_ | refine WpO.skip (by rfl) ?_); go_frame)) | go_guarded | go_step)
         go_ret
         exact ⟨rfl, bvia e0 HD.out⟩
     · obtain rfl := Cut.out True (fun h => d1 h.2.1)
       have d6 : (hgk == 9223372036854775807) = false := by simpa using d0
       clear hv d0
       repeat' (first | (go_at_call 116; go_must ((with_reducible refine Calls.mono (HI.out _) ?_); rintro _ _ ⟨rfl, rfl⟩; dsimp only)) | ((with_reducible refine region_at 4 ?_); refine wp_region_ordT (fun _ => True) (rgo [0,4,8,12,16,20,24,28,32,36,40,44,48,52,56,60,64,68,72,76,80,84,88,92,96,100,105,108,112] .nil) (by kernel_rfl) (by kernel_rfl) (by kernel_rfl) rfl rfl ?_) | ((with_reducible refine WpO.here ?_); first | (refine WpO.done ?_; refine NoP.normal ?_) | ((first | refine WpO.load (by rfl) (by rfl) (by go_simp; rfl) ?_ | refine WpO.pure (by rfl) (fun w_ => by go_simp; (try go_bits); rfl) ?_ | refine WpO.skip (by rfl) ?_); go_frame)) | go_guarded | go_step)
       go_ret
       exact ⟨rfl, bvia e0 HD.out⟩
 · rw [decide_eq_false hr] at HI
   have hv : v = false := by rw [Hv.out, decide_eq_false (fun h => hr ⟨h.1, h.2.1⟩)]; rfl
   subst hv
   have h1 : ¬ 0 ≤ r ∨ (0 ≤ r ∧ ¬ r < 8) := by omega
   clear hr Hv
   rcases h1 with h1 | ⟨h1, h2⟩
   all_goals
    repeat' (first | (go_at_call 116; go_must ((with_reducible refine Calls.mono (HI.out _) ?_); rintro _ _ ⟨rfl, rfl⟩; dsimp only)) | go_skip | go_step)
    go_ret
    exact ⟨rfl, e0⟩
theorem refReady_any (h : Clk) (x : Actn) (w : World) (hi : h.In) : Calls Tryz.prog 88 #[h.agg, x.agg] w fun e w' => e = .returned (.bool (readyC h x)) ∧ Below w.heap.size w w' := by
 obtain ⟨hX, hY, e0⟩ := twoBoxes w 44 46 h.vals x.vals
 have HI := hid (fun W => in_any x.op.rep W)
 have HC := hid (fun W => refCovers_any h x.clk W)
 obtain ⟨v, hv⟩ : ∃ v, v = readyC h x := ⟨_, rfl⟩
 rw [← hv]
 unfold readyC at hv
 have Qx := hid (fun W (hb : Below ((w.alloc (.cells h.vals 44)).alloc (.cells x.vals 46)).heap.size _ W) k (hk : k < 8) => ((hX.step hb).cell k).trans (h.vals_get hk))
 have Qc := hid (fun W (hb : Below ((w.alloc (.cells h.vals 44)).alloc (.cells x.vals 46)).heap.size _ W) k (hk : k < 8) => ((hY.step hb).cell (5 + k)).trans (x.vals_clk hk))
 have Qy := hid (fun W (hb : Below ((w.alloc (.cells h.vals 44)).alloc (.cells x.vals 46)).heap.size _ W) => hY.step hb)
 have Qh := hid (fun W (hb : Below ((w.alloc (.cells h.vals 44)).alloc (.cells x.vals 46)).heap.size _ W) => hX.step hb)
 have hhm := fun k (hk : k < 8) => (hi k hk : -9223372036854775808 ≤ h.get k ∧ h.get k ≤ 9223372036854775807)
 obtain ⟨hg, hhg⟩ : ∃ f : Nat → Int, f = h.get := ⟨_, rfl⟩
 obtain ⟨xg, hxg⟩ : ∃ f : Nat → Int, f = x.clk.get := ⟨_, rfl⟩
 rw [← hhg, ← hxg] at hv
 rw [← hhg] at Qx hhm
 rw [← hxg] at Qc
 have Hhm := hid hhm
 clear hX hY hhg hxg hi hhm
 obtain ⟨h0, h1, h2, h3, h4, h5, h6, h7⟩ := h
 obtain ⟨⟨kd, at_, ch, r⟩, num, ⟨k0, k1, k2, k3, k4, k5, k6, k7⟩⟩ := x
 simp only [Clk.agg, Clk.vals, Actn.agg, Actn.vals] at *
 have Hv := hid hv
 clear hv
 go_enter Tryz.func88, Tryz.ntmps88
 repeat' (first | (with_reducible refine stop_region 1 ?_) | go_step)
 refine Stop.go ?_
 generalize (w.alloc (.cells #[.int .i64 h0, .int .i64 h1, .int .i64 h2, .int .i64 h3, .int .i64 h4, .int .i64 h5, .int .i64 h6, .int .i64 h7] 44)).alloc (.cells #[.int .i64 kd, .int .i64 at_, .int .i32 ch, .int .i64 r, .int .i64 num, .int .i64 k0, .int .i64 k1, .int .i64 k2, .int .i64 k3, .int .i64 k4, .int .i64 k5, .int .i64 k6, .int .i64 k7] 46) = X at *
 have y3 : X.cell? ⟨w.heap.size + 1, 3, none⟩ = some (.int .i64 r) := (Qy.out X (Below.refl _ _)).cell 3
 have yl := (Qy.out X (Below.refl _ _)).lt
 have xl := (Qh.out X (Below.refl _ _)).lt
 by_cases hr : 0 ≤ r ∧ r < 8
 · obtain ⟨k, rfl⟩ := Int.eq_ofNat_of_zero_le hr.1
   have hk : k < 8 := by omega
   have hk' : (k : Int) < 8 := by omega
   have hk0 : ¬ (k : Int) < 0 := by omega
   have hk8 : ¬ (k : Int) ≥ 8 := by omega
   rw [decide_eq_true hr] at HI
   obtain ⟨hm0, hm⟩ := Hhm.out k hk
   have qx := Qx.out X (Below.refl _ _) k hk
   have Dd : Below X.heap.size X X.drew := (Below.refl _ _).drew
   have qxd := Qx.out X.drew Dd k hk
   have qcd := Qc.out X.drew Dd k hk
   have y4 : X.drew.cell? ⟨w.heap.size + 1, 4, none⟩ = some (.int .i64 num) := (Qy.out X.drew Dd).cell 4
   obtain ⟨z0, z1, z2, z3, z4, z5, z6, z7⟩ := cl8 (w := X.drew) (g := w.heap.size) (Qh.out X.drew Dd)
   have c0 : X.drew.cell? ⟨w.heap.size + 1, 5, none⟩ = some (.int .i64 k0) := (Qy.out X.drew Dd).cell 5
   have c1 : X.drew.cell? ⟨w.heap.size + 1, 6, none⟩ = some (.int .i64 k1) := (Qy.out X.drew Dd).cell 6
   have c2 : X.drew.cell? ⟨w.heap.size + 1, 7, none⟩ = some (.int .i64 k2) := (Qy.out X.drew Dd).cell 7
   have c3 : X.drew.cell? ⟨w.heap.size + 1, 8, none⟩ = some (.int .i64 k3) := (Qy.out X.drew Dd).cell 8
   have c4 : X.drew.cell? ⟨w.heap.size + 1, 9, none⟩ = some (.int .i64 k4) := (Qy.out X.drew Dd).cell 9
   have c5 : X.drew.cell? ⟨w.heap.size + 1, 10, none⟩ = some (.int .i64 k5) := (Qy.out X.drew Dd).cell 10
   have c6 : X.drew.cell? ⟨w.heap.size + 1, 11, none⟩ = some (.int .i64 k6) := (Qy.out X.drew Dd).cell 11
   have c7 : X.drew.cell? ⟨w.heap.size + 1, 12, none⟩ = some (.int .i64 k7) := (Qy.out X.drew Dd).cell 12
   have HD := hid Dd
   have hv : v = (decide (hg k ≠ 9223372036854775807 ∧ 1 ≤ num ∧ num = hg k + 1 ∧ xg k = hg k) && coversC ⟨h0, h1, h2, h3, h4, h5, h6, h7⟩ ⟨k0, k1, k2, k3, k4, k5, k6, k7⟩) := by
    rw [Hv.out]
    congr 1
    exact decide_eq_decide.2 ⟨fun h => h.2.2, fun h => ⟨hr.1, hr.2, h⟩⟩
   clear Hv Dd hr
   generalize hg k = hgk at *
   generalize xg k = xgk at *
   generalize coversC ⟨h0, h1, h2, h3, h4, h5, h6, h7⟩ ⟨k0, k1, k2, k3, k4, k5, k6, k7⟩ = cv at *
   have cut : ∀ (P : Prop), ¬ (hgk ≠ 9223372036854775807 ∧ 1 ≤ num ∧ num = hgk + 1 ∧ xgk = hgk) → v = false := fun _ h => by rw [hv, decide_eq_false h]; rfl
   have Cut := hid cut
   clear cut
   by_cases d0 : hgk = 9223372036854775807
   · obtain rfl := Cut.out True (fun h => h.1 d0)
     clear hv
     repeat' (first | go_guarded | go_step)
     go_ret
     exact ⟨rfl, e0⟩
   · have hb1 : hgk ≤ 9223372036854775806 := by omega
     by_cases d1 : num ≥ 1
     · by_cases d2 : num = hgk + 1
       · by_cases d3 : xgk = hgk
         · have hv2 : v = cv := by rw [hv, decide_eq_true ⟨d0, by omega, d2, d3⟩]; rfl
           subst hv2
           have d4 : (xgk == hgk) = true := by simpa using d3
           have d5 : (num == hgk + 1) = true := by simpa using d2
           have d6 : (hgk == 9223372036854775807) = false := by simpa using d0
           clear hv d2 d3 d0
           repeat' (first | ((with_reducible refine region_at 4 ?_); refine wp_region_ordT (fun _ => True) (rgo [0,4,8,12,16,20,24,28,32,36,40,44,48,52,56,60,64,68,72,76,80,84,88,92,96,100,105,108,112] .nil) (by kernel_rfl) (by kernel_rfl) (by kernel_rfl) rfl rfl ?_) | (go_at_call 123; go_must ((with_reducible refine Calls.mono (HC.out _) ?_); rintro _ w5 ⟨rfl, hb5⟩; dsimp only)) | (with_reducible refine Keep.below (by assumption) ?_) | ((with_reducible refine WpO.here ?_); first | (refine WpO.done ?_; refine NoP.normal ?_) | ((first | refine WpO.load (by rfl) (by rfl) (by go_simp; rfl) ?_ | refine WpO.pure (by rfl) (fun w_ => by go_simp; (try go_bits); rfl) ?_); go_frame) | refine WpO.wild ?_) | ((with_reducible refine wildO.here ?_); (refine wildO.go (by rfl) (fun _ _ => ?_))) | go_guarded | go_step)
           go_ret
           exact ⟨rfl, bvia e0 (bvia HD.out hb5)⟩
         · obtain rfl := Cut.out True (fun h => d3 h.2.2.2)
           have d4 : (xgk == hgk) = false := by simpa using d3
           have d5 : (num == hgk + 1) = true := by simpa using d2
           have d6 : (hgk == 9223372036854775807) = false := by simpa using d0
           clear hv d2 d3 d0
           repeat' (first | ((with_reducible refine region_at 4 ?_); refine wp_region_ordT (fun _ => True) (rgo [0,4,8,12,16,20,24,28,32,36,40,44,48,52,56,60,64,68,72,76,80,84,88,92,96,100,105,108,112] .nil) (by kernel_rfl) (by kernel_rfl) (by kernel_rfl) rfl rfl ?_) | ((with_reducible refine WpO.here ?_); first | (refine WpO.done ?_; refine NoP.normal ?_) | ((first | refine WpO.load (by rfl) (by rfl) (by go_simp; rfl) ?_ | refine WpO.pure (by rfl) (fun w_ => by go_simp; (try go_bits); rfl) ?_ | refine WpO.skip (by rfl) ?_); go_frame)) | go_guarded | go_step)
           go_ret
           exact ⟨rfl, bvia e0 HD.out⟩
       · obtain rfl := Cut.out True (fun h => d2 h.2.2.1)
         have d5 : (num == hgk + 1) = false := by simpa using d2
         have d6 : (hgk == 9223372036854775807) = false := by simpa using d0
         clear hv d2 d0
         repeat' (first | ((with_reducible refine region_at 4 ?_); refine wp_region_ordT (fun _ => True) (rgo [0,4,8,12,16,20,24,28,32,36,40,44,48,52,56,60,64,68,72,76,80,84,88,92,96,100,105,108,112] .nil) (by kernel_rfl) (by kernel_rfl) (by kernel_rfl) rfl rfl ?_) | ((with_reducible refine WpO.here ?_); first | (refine WpO.done ?_; refine NoP.normal ?_) | ((first | refine WpO.load (by rfl) (by rfl) (by go_simp; rfl) ?_ | refine WpO.pure (by rfl) (fun w_ => by go_simp; (try go_bits); rfl) ?_ | refine WpO.skip (by rfl) ?_); go_frame)) | go_guarded | go_step)
         go_ret
         exact ⟨rfl, bvia e0 HD.out⟩
     · obtain rfl := Cut.out True (fun h => d1 h.2.1)
       have d6 : (hgk == 9223372036854775807) = false := by simpa using d0
       clear hv d0
       repeat' (first | ((with_reducible refine region_at 4 ?_); refine wp_region_ordT (fun _ => True) (rgo [0,4,8,12,16,20,24,28,32,36,40,44,48,52,56,60,64,68,72,76,80,84,88,92,96,100,105,108,112] .nil) (by kernel_rfl) (by kernel_rfl) (by kernel_rfl) rfl rfl ?_) | ((with_reducible refine WpO.here ?_); first | (refine WpO.done ?_; refine NoP.normal ?_) | ((first | refine WpO.load (by rfl) (by rfl) (by go_simp; rfl) ?_ | refine WpO.pure (by rfl) (fun w_ => by go_simp; (try go_bits); rfl) ?_ | refine WpO.skip (by rfl) ?_); go_frame)) | go_guarded | go_step)
       go_ret
       exact ⟨rfl, bvia e0 HD.out⟩
 · rw [decide_eq_false hr] at HI
   have hv : v = false := by rw [Hv.out, decide_eq_false (fun h => hr ⟨h.1, h.2.1⟩)]; rfl
   subst hv
   have h1 : ¬ 0 ≤ r ∨ (0 ≤ r ∧ ¬ r < 8) := by omega
   clear hr Hv
   rcases h1 with h1 | ⟨h1, h2⟩
   all_goals
    repeat' (first | go_skip | go_guarded | go_step)
    go_ret
    exact ⟨rfl, e0⟩
end Go.Proofs.YteggpddlkkjmjaaGreatDoor
