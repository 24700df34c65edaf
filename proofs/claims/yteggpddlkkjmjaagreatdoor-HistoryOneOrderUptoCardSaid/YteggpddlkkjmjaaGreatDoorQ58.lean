/- Part of a proof: what functions of the program compute. Conditions: as each theorem says. -/
import Derived.Maps.RangeWalk
import Derived.Test.YteggpddlkkjmjaaGreatDoorQ20
import Derived.Test.YteggpddlkkjmjaaGreatDoorQ4
import Derived.Test.YteggpddlkkjmjaaGreatDoorQ54
set_option linter.unusedSimpArgs false
set_option linter.unusedVariables false
set_option maxHeartbeats 4000000
set_option maxRecDepth 100000
namespace Go.Proofs.YteggpddlkkjmjaaGreatDoor
open Go Go.RowKit
def lacksOf (c : Clk) (acts : List Actn) : Option Actn := acts.find? fun x => ! hasC c x.op.rep x.num
def lackAct (c : Clk) (acts : List Actn) : Actn := (lacksOf c acts).getD noActn
def lackOk (c : Clk) (acts : List Actn) : Bool := match lacksOf c acts with
 | some x => readyC c x
 | none => false
theorem lacks_at {c : Clk} {acts : List Actn} {k : Nat} {x : Actn} (hx : acts[k]? = some x) (hh : hasC c x.op.rep x.num = false) (ha : ∀ j y, j < k → acts[j]? = some y → hasC c y.op.rep y.num = true) : lacksOf c acts = some x := by
 unfold lacksOf
 have hk := (List.getElem?_eq_some_iff.1 hx).1
 have h1 : acts = acts.take k ++ x :: acts.drop (k + 1) := by
  have h2 := (List.getElem?_eq_some_iff.1 hx).2
  rw [← h2, ← List.drop_eq_getElem_cons hk, List.take_append_drop]
 rw [h1, List.find?_append, List.find?_eq_none.2, Option.none_or, List.find?_cons, hh]
 · rfl
 · intro y hy
   obtain ⟨j, hj⟩ := List.getElem?_of_mem hy
   rw [List.getElem?_take] at hj
   split at hj
   · next hlt => rw [ha j y hlt hj]; simp
   · cases hj
theorem lacks_none {c : Clk} {acts : List Actn} (ha : ∀ j y, j < acts.length → acts[j]? = some y → hasC c y.op.rep y.num = true) : lacksOf c acts = none := by
 unfold lacksOf
 refine List.find?_eq_none.2 fun y hy => ?_
 obtain ⟨j, hj⟩ := List.getElem?_of_mem hy
 rw [ha j y (List.getElem?_eq_some_iff.1 hj).1 hj]
 simp
theorem lacks_any (w : World) (rb ob : Nat) (S S' : Nat → Prop) (s t : Lg) (hr : RLogAt w S rb s) (ho : RLogAt w S' ob t) (ha : t.acts.length ≤ 1048576) (hci : s.clk.In) :
 Calls Tryz.prog 50 #[.pointer (some ⟨rb, 0, none⟩), .pointer (some ⟨ob, 0, none⟩)] w fun e w' => e = .returned (.tuple #[(lackAct s.clk t.acts).agg, .bool (lackOk s.clk t.acts)]) ∧ Below w.heap.size w w' := by
 obtain ⟨E, ce, A, c, B, d, L, cl, SR, hr, -⟩ := hr
 obtain ⟨E', ce', A', c', B', d', L', cl', SR', ho, -⟩ := ho
 have eZ : Below w.heap.size w (w.alloc (.cells #[.int .i64 0, .int .i64 0, .int .i32 0, .int .i64 0, .int .i64 0, .int .i64 0, .int .i64 0, .int .i64 0, .int .i64 0, .int .i64 0, .int .i64 0, .int .i64 0, .int .i64 0] 46)) := balloc (Below.refl _ _)
 have hZ := Blk.new w 46 #[.int .i64 0, .int .i64 0, .int .i32 0, .int .i64 0, .int .i64 0, .int .i64 0, .int .i64 0, .int .i64 0, .int .i64 0, .int .i64 0, .int .i64 0, .int .i64 0, .int .i64 0]
 have HZ := hid hZ
 have Hr := hid (hr.g.step eZ)
 have Ho := hid (ho.g.step eZ)
 have Hrow := hid ((ho.a.step eZ).row (S := fun _ => True) fun _ _ _ => trivial)
 have Hh := hid (fun (x : Actn) W => refHas_any s.clk x.op.rep x.num W)
 have HRd := hid (fun (x : Actn) W => refReady_any s.clk x W hci)
 have hrl := hr.g.lt
 clear hr ho hZ
 simp only [Clk.agg, Actn.agg] at *
 unfold Clk.vals Actn.vals at *
 go_enter Tryz.func50, Tryz.ntmps50
 repeat' (first | (with_reducible refine stop_region 1 ?_) | go_step)
 refine Stop.go ?_
 generalize w.alloc (.cells #[.int .i64 0, .int .i64 0, .int .i32 0, .int .i64 0, .int .i64 0, .int .i64 0, .int .i64 0, .int .i64 0, .int .i64 0, .int .i64 0, .int .i64 0, .int .i64 0, .int .i64 0] 46) = X at *
 repeat' (first | go_step)
 go_loopw [6] (fun i wr => ∃ k : Nat, i = .int .i64 k ∧ k ≤ t.acts.length ∧ (∀ j y, j < k → t.acts[j]? = some y → hasC s.clk y.op.rep y.num = true) ∧ Below X.heap.size X wr) (fun i _ => t.acts.length - (intOf i).toNat)
 case atStart => exact ⟨0, rfl, Nat.zero_le _, fun j y h => by omega, Below.refl _ _⟩
 case round =>
  obtain ⟨k, rfl, hk, hal, hbr⟩ := hrel
  have g2 : wr.cell? ⟨ob, 2, none⟩ = some (.slice A' t.acts.length c') := (Ho.out.step hbr).cell 2
  have gl := (Ho.out.step hbr).lt
  have Hal := hid hal
  clear hal
  by_cases hlt : k < t.acts.length
  · obtain ⟨b, off, x, rfl, -, hbl, hx, hcell⟩ := (Hrow.out.step hbr).at_ hlt
    obtain ⟨c0, c1, c2, c3, c4, c5, c6, c7, c8, c9, c10, c11, c12⟩ := rc13 (w := wr) (b := b) (o := off + k * 13) x hcell
    have e1 : Below wr.heap.size wr (wr.alloc (.cells #[.int .i64 x.op.kind, .int .i64 x.op.at_, .int .i32 x.op.char, .int .i64 x.op.rep, .int .i64 x.num, .int .i64 x.clk.c0, .int .i64 x.clk.c1, .int .i64 x.clk.c2, .int .i64 x.clk.c3, .int .i64 x.clk.c4, .int .i64 x.clk.c5, .int .i64 x.clk.c6, .int .i64 x.clk.c7] 46)) := balloc (Below.refl _ _)
    have hxb := Blk.new wr 46 #[.int .i64 x.op.kind, .int .i64 x.op.at_, .int .i32 x.op.char, .int .i64 x.op.rep, .int .i64 x.num, .int .i64 x.clk.c0, .int .i64 x.clk.c1, .int .i64 x.clk.c2, .int .i64 x.clk.c3, .int .i64 x.clk.c4, .int .i64 x.clk.c5, .int .i64 x.clk.c6, .int .i64 x.clk.c7]
    have Hhx := hid (Hh.out x)
    have HRx := hid (HRd.out x)
    have Hx := hid hx
    have hbX := bvia hbr e1
    clear hcell hx
    repeat' (first | (with_reducible refine stop_region 5 ?_) | go_step)
    refine Stop.go ?_
    clear c0 c1 c2 c3 c4 c5 c6 c7 c8 c9 c10 c11 c12 g2 gl
    generalize wr.alloc (.cells #[.int .i64 x.op.kind, .int .i64 x.op.at_, .int .i32 x.op.char, .int .i64 x.op.rep, .int .i64 x.num, .int .i64 x.clk.c0, .int .i64 x.clk.c1, .int .i64 x.clk.c2, .int .i64 x.clk.c3, .int .i64 x.clk.c4, .int .i64 x.clk.c5, .int .i64 x.clk.c6, .int .i64 x.clk.c7] 46) = Y at *
    have hxb8 := hbr.size
    generalize wr.heap.size = xb at *
    have hy := hxb.drew
    obtain ⟨x0, x1, x2, x3, x4, x5, x6, x7, x8, x9, x10, x11, x12⟩ := cl13 (w := Y.drew) (g := xb) hy; have xl := (hy).lt
    have hrk := (Hr.out.step hbX).drew
    have q0 : Y.drew.cell? ⟨rb, 4, none⟩ = some (.int .i64 s.clk.c0) := (hrk).cell 4; have q1 : Y.drew.cell? ⟨rb, 5, none⟩ = some (.int .i64 s.clk.c1) := (hrk).cell 5; have q2 : Y.drew.cell? ⟨rb, 6, none⟩ = some (.int .i64 s.clk.c2) := (hrk).cell 6; have q3 : Y.drew.cell? ⟨rb, 7, none⟩ = some (.int .i64 s.clk.c3) := (hrk).cell 7; have q4 : Y.drew.cell? ⟨rb, 8, none⟩ = some (.int .i64 s.clk.c4) := (hrk).cell 8; have q5 : Y.drew.cell? ⟨rb, 9, none⟩ = some (.int .i64 s.clk.c5) := (hrk).cell 9; have q6 : Y.drew.cell? ⟨rb, 10, none⟩ = some (.int .i64 s.clk.c6) := (hrk).cell 10; have q7 : Y.drew.cell? ⟨rb, 11, none⟩ = some (.int .i64 s.clk.c7) := (hrk).cell 11; have ql := (hrk).lt
    have HxB := hid hxb
    clear hy hrk hxb
    rcases hh : hasC s.clk x.op.rep x.num with _ | _
    · rw [hh] at Hhx
      repeat' (first | ((with_reducible refine region_at 5 ?_); refine wp_region_ordT (fun _ => True) (rgo [0,4,8,12,16,20,24,28,32,37,40] .nil) (by kernel_rfl) (by kernel_rfl) (by kernel_rfl) rfl rfl ?_) | (go_at_call 52; go_must ((with_reducible refine Calls.mono (Hhx.out _) ?_); rintro _ w3 ⟨rfl, hb3⟩; have hk3 := KeepT.of_below (T := fun _ => True) hb3; dsimp only)) | (with_reducible refine stop_region 6 ?_) | (with_reducible refine Keep.below (by assumption) ?_) | ((with_reducible refine WpO.here ?_); first | (refine WpO.done ?_; refine NoP.normal ?_) | ((first | refine WpO.load (by rfl) (by rfl) (by go_simp; rfl) ?_ | refine WpO.pure (by rfl) (fun w_ => by go_simp; (try go_bits); rfl) ?_); go_frame) | refine WpO.wild ?_) | ((with_reducible refine wildO.here ?_); (refine wildO.go (by rfl) (fun _ _ => ?_))) | go_step)
      refine Stop.go ?_
      have hb3' := undrew hb3
      clear x0 x1 x2 x3 x4 x5 x6 x7 x8 x9 x10 x11 x12 xl
      clear q0 q1 q2 q3 q4 q5 q6 q7 ql hk3
      have hd3 := bdrew (bvia hbX hb3')
      have hxl := HxB.out.lt
      have hXx : X.heap.size ≤ xb := hxb8
      have hy := (HxB.out.step hb3').drew
      obtain ⟨x0, x1, x2, x3, x4, x5, x6, x7, x8, x9, x10, x11, x12⟩ := cl13 (w := w3.drew) (g := xb) hy; have xl := (hy).lt
      have hrk := (Hr.out.step (bvia hbX hb3')).drew
      have q0 : w3.drew.cell? ⟨rb, 4, none⟩ = some (.int .i64 s.clk.c0) := (hrk).cell 4; have q1 : w3.drew.cell? ⟨rb, 5, none⟩ = some (.int .i64 s.clk.c1) := (hrk).cell 5; have q2 : w3.drew.cell? ⟨rb, 6, none⟩ = some (.int .i64 s.clk.c2) := (hrk).cell 6; have q3 : w3.drew.cell? ⟨rb, 7, none⟩ = some (.int .i64 s.clk.c3) := (hrk).cell 7; have q4 : w3.drew.cell? ⟨rb, 8, none⟩ = some (.int .i64 s.clk.c4) := (hrk).cell 8; have q5 : w3.drew.cell? ⟨rb, 9, none⟩ = some (.int .i64 s.clk.c5) := (hrk).cell 9; have q6 : w3.drew.cell? ⟨rb, 10, none⟩ = some (.int .i64 s.clk.c6) := (hrk).cell 10; have q7 : w3.drew.cell? ⟨rb, 11, none⟩ = some (.int .i64 s.clk.c7) := (hrk).cell 11; have ql := (hrk).lt
      have qh1 : w3.drew.heap[xb]? = some (.cells _ 46 (0, 0)) := hy
      have qh2 : w3.drew.heap[rb]? = some (.cells _ 89 (0, 0)) := hrk
      have hzl := HZ.out.lt
      have t1 : xb ≠ w.heap.size := by omega
      have t2 : rb ≠ w.heap.size := Nat.ne_of_lt hrl
      have HZ3 := hid (HZ.out.step (bvia hbX hb3'))
      have Hbw := hid (bvia hbX hb3')
      clear hy hrk
      repeat' (first | ((with_reducible refine region_at 6 ?_); refine wp_region_ordT (fun b => b ≠ w.heap.size) (rgo [0,4,8,12,16,20,25,29,32] .nil) (by kernel_rfl) (by kernel_rfl) (by kernel_rfl) rfl rfl ?_) | (go_at_call 88; go_must ((with_reducible refine Calls.mono (HRx.out _) ?_); rintro _ w5 ⟨rfl, hb5⟩; have hk5 : KeepT (fun b => b ≠ w.heap.size) w3.drew w5 := KeepT.of_below hb5; have hz := HZ3.out.step (undrew hb5); obtain ⟨zl, z0, z1, z2, z3, z4, z5, z6, z7, z8, z9, z10, z11, z12, f0, f1, f2, f3, f4, f5, f6, f7, f8, f9, f10, f11, f12⟩ := bl13 hz; clear hz; dsimp only)) | (with_reducible refine Keep.below (by assumption) ?_) | ((with_reducible refine WpO.here ?_); first | ((first | refine WpO.loadT (by rfl) (by rfl) (by go_simp; rfl) (by rintro _ _ ⟨⟩; exact ⟨_, _, _, _, _, _, by rfl, by assumption, by assumption⟩) ?_ | refine WpO.pure (by rfl) (fun w_ => by go_simp; (try go_bits); rfl) ?_); go_frame) | refine WpO.wild ?_) | ((with_reducible refine wildO.here ?_); (refine wildO.go (by rfl) (fun _ _ => ?_))) | go_step)
      with_reducible refine Keep.kept (KeepT.sets13 w5 w.heap.size x) ?_
      rw [sets13]
      repeat' (first | ((with_reducible refine WpO.here ?_); first | (refine WpO.done ?_; refine NoP.normal ?_) | (refine WpO.pure (by rfl) (fun w_ => by go_simp; (try go_bits); rfl) ?_; go_frame)) | go_step)
      have hz4 := blk13 (HZ3.out.step (undrew hb5)) rfl x
      obtain ⟨v0, v1, v2, v3, v4, v5, v6, v7, v8, v9, v10, v11, v12⟩ := cl13 hz4
      have hlk := lacks_at Hx.out hh Hal.out
      have e9 : lackAct s.clk t.acts = x := by unfold lackAct; rw [hlk]; rfl
      have e10 : lackOk s.clk t.acts = readyC s.clk x := by unfold lackOk; rw [hlk]
      refine bodyPost_ret (w := setsAt w.heap.size (act13 x) w5) (v := .tuple #[.agg #[.int .i64 x.op.kind, .int .i64 x.op.at_, .int .i32 x.op.char, .int .i64 x.op.rep, .int .i64 x.num, .int .i64 x.clk.c0, .int .i64 x.clk.c1, .int .i64 x.clk.c2, .int .i64 x.clk.c3, .int .i64 x.clk.c4, .int .i64 x.clk.c5, .int .i64 x.clk.c6, .int .i64 x.clk.c7], .bool (readyC s.clk x)]) (by simp [results, Tryz.results50, go_sem, v0, v1, v2, v3, v4, v5, v6, v7, v8, v9, v10, v11, v12]) rfl ⟨by rw [e9, e10], ?_⟩
      exact Below.sets _ (bvia (bvia eZ Hbw.out) (undrew hb5)) (Nat.le_refl _)
    · rw [hh] at Hhx
      repeat' (first | ((with_reducible refine region_at 5 ?_); refine wp_region_ordT (fun _ => True) (rgo [0,4,8,12,16,20,24,28,32,37,40] .nil) (by kernel_rfl) (by kernel_rfl) (by kernel_rfl) rfl rfl ?_) | (go_at_call 52; go_must ((with_reducible refine Calls.mono (Hhx.out _) ?_); rintro _ w3 ⟨rfl, hb3⟩; have hk3 := KeepT.of_below (T := fun _ => True) hb3; dsimp only)) | (with_reducible refine Keep.below (by assumption) ?_) | ((with_reducible refine WpO.here ?_); first | (refine WpO.done ?_; refine NoP.normal ?_) | ((first | refine WpO.load (by rfl) (by rfl) (by go_simp; rfl) ?_ | refine WpO.pure (by rfl) (fun w_ => by go_simp; (try go_bits); rfl) ?_); go_frame) | refine WpO.wild ?_) | ((with_reducible refine wildO.here ?_); (refine wildO.go (by rfl) (fun _ _ => ?_))) | go_step)
      go_roundw
      case rel =>
       refine ⟨k + 1, by go_num, by omega, fun j y hj hy => ?_, bvia hbX (undrew hb3)⟩
       by_cases hjk : j = k
       · subst hjk
         rw [Hx.out] at hy
         cases hy
         exact hh
       · exact Hal.out j y (by omega) hy
      case measure => simp [intOf]; omega
  · obtain rfl : k = t.acts.length := by omega
    have hz := HZ.out.step hbr
    obtain ⟨zl, z0, z1, z2, z3, z4, z5, z6, z7, z8, z9, z10, z11, z12, f0, f1, f2, f3, f4, f5, f6, f7, f8, f9, f10, f11, f12⟩ := bl13 hz
    clear hz
    repeat' (first | go_step)
    have hz4 := blk13 (HZ.out.step hbr) rfl noActn
    have v0 := hz4.cell 0
    have v1 := hz4.cell 1
    have v2 := hz4.cell 2
    have v3 := hz4.cell 3
    have v4 := hz4.cell 4
    have v5 := hz4.cell 5
    have v6 := hz4.cell 6
    have v7 := hz4.cell 7
    have v8 := hz4.cell 8
    have v9 := hz4.cell 9
    have v10 := hz4.cell 10
    have v11 := hz4.cell 11
    have v12 := hz4.cell 12
    simp [act13, noActn, noOpn, Clk.zero] at v0 v1 v2 v3 v4 v5 v6 v7 v8 v9 v10 v11 v12
    have hlk := lacks_none Hal.out
    have e9 : lackAct s.clk t.acts = noActn := by unfold lackAct; rw [hlk]; rfl
    have e10 : lackOk s.clk t.acts = false := by unfold lackOk; rw [hlk]
    refine bodyPost_ret (w := setsAt w.heap.size (act13 noActn) wr) (v := .tuple #[.agg #[.int .i64 0, .int .i64 0, .int .i32 0, .int .i64 0, .int .i64 0, .int .i64 0, .int .i64 0, .int .i64 0, .int .i64 0, .int .i64 0, .int .i64 0, .int .i64 0, .int .i64 0], .bool false]) (by simp [noActn, noOpn, Clk.zero, act13, results, Tryz.results50, go_sem, v0, v1, v2, v3, v4, v5, v6, v7, v8, v9, v10, v11, v12]) rfl ⟨by rw [e9, e10]; rfl, ?_⟩
    exact Below.sets _ (bvia eZ hbr) (Nat.le_refl _)
variable {a : Nat → Addr}
theorem site_fit (w : World) (base sb K : Nat) (S : Nat → Prop) (s : Lg) (o : Opn) (r : Int) (h : SiteAt w base S sb s K) (hl : s.l.length ≤ 1048576) (hr8 : 0 ≤ r ∧ r < 8) :
 Calls Tryz.prog 49 #[.pointer (some ⟨sb, 0, none⟩), o.agg, .int .i64 r] w fun e w' => e = .returned (.tuple #[(fitOf o s.l.length r).1.agg, .bool (fitOf o s.l.length r).2]) ∧ Below w.heap.size w w' := by
 obtain ⟨gb, rb, S1, S2, hsb, hg, hr, h4, h5, h6, h7⟩ := h
 obtain ⟨E, ce, A, c, B, d, L, cl, SR, hr, -⟩ := hr
 have b1 : Below w.heap.size w ((w.alloc (.cells #[.int .i64 o.kind, .int .i64 o.at_, .int .i32 o.char, .int .i64 o.rep] 37)).alloc (.cells #[.int .i64 0, .int .i64 0, .int .i32 0, .int .i64 0] 37)) := balloc (balloc (Below.refl _ _))
 have s1 : w.cell? ⟨sb, 1, none⟩ = some (.pointer (some ⟨rb, 0, none⟩)) := hsb.cell 1
 have sl := hsb.lt
 have r12 : w.cell? ⟨rb, 12, none⟩ = some (.slice L s.l.length cl) := hr.g.cell 12
 have rl := hr.g.lt
 clear hsb hg hr h4 h5 h6 h7
 obtain ⟨n, hn⟩ : ∃ n, n = s.l.length := ⟨_, rfl⟩
 rw [← hn] at r12 hl ⊢
 clear hn
 have HW1 := hid (fun W => within_any o.kind 3 (by decide) (by decide) W)
 have HW2 := hid (fun W => within_any o.at_ ((n : Int) + 1) (by omega) (by omega) W)
 have HR := hid (fun W => ref5Right_any o.char W)
 unfold Opn.agg
 have h3 : 0 ≤ o.kind % 3 ∧ o.kind % 3 < 3 := by omega
 by_cases hk : 1 + o.kind % 3 = 1
 · have e1 : fitOf o n r = (⟨1, o.at_ % ((n : Int) + 1), if rightC o.char then o.char else 99, r⟩, true) := by unfold fitOf; rw [if_pos hk]
   rw [e1]
   cases hc : rightC o.char
   · rw [hc] at HR
     simp only [Bool.false_eq_true, if_false]
     clear e1 hc
     go_enter Tryz.func49, Tryz.ntmps49
     repeat' (first | (go_at_call 19; go_must (first | ((with_reducible refine Calls.mono (HW1.out _) ?_); rintro _ _ ⟨rfl, rfl⟩; dsimp only) | ((with_reducible refine Calls.mono (HW2.out _) ?_); rintro _ _ ⟨rfl, rfl⟩; dsimp only))) | (go_at_call 74; go_must ((with_reducible refine Calls.mono (HR.out _) ?_); rintro _ _ ⟨rfl, rfl⟩; dsimp only)) | go_step)
     refine bodyPost_ret (v := .tuple #[.agg #[.int .i64 1, .int .i64 (o.at_ % ((n : Int) + 1)), .int .i32 99, .int .i64 r], .bool true]) ?_ rfl ⟨rfl, ?_⟩
     · simp [results, Tryz.results49, go_sem]
     · (repeat' (first | (with_reducible exact Below.refl _ _) | (with_reducible refine balloc ?_)))
   · rw [hc] at HR
     simp only [if_true]
     clear e1 hc
     go_enter Tryz.func49, Tryz.ntmps49
     repeat' (first | (go_at_call 19; go_must (first | ((with_reducible refine Calls.mono (HW1.out _) ?_); rintro _ _ ⟨rfl, rfl⟩; dsimp only) | ((with_reducible refine Calls.mono (HW2.out _) ?_); rintro _ _ ⟨rfl, rfl⟩; dsimp only))) | (go_at_call 74; go_must ((with_reducible refine Calls.mono (HR.out _) ?_); rintro _ _ ⟨rfl, rfl⟩; dsimp only)) | go_step)
     refine bodyPost_ret (v := .tuple #[.agg #[.int .i64 1, .int .i64 (o.at_ % ((n : Int) + 1)), .int .i32 o.char, .int .i64 r], .bool true]) ?_ rfl ⟨rfl, ?_⟩
     · simp [results, Tryz.results49, go_sem]
     · (repeat' (first | (with_reducible exact Below.refl _ _) | (with_reducible refine balloc ?_)))
 · by_cases hn0 : n = 0
   · have e1 : fitOf o n r = (⟨1 + o.kind % 3, o.at_, 0, r⟩, false) := by unfold fitOf; rw [if_neg hk, if_pos hn0]
     rw [e1]
     subst hn0
     clear e1
     dsimp only
     go_enter Tryz.func49, Tryz.ntmps49
     repeat' (first | (go_at_call 19; go_must (first | ((with_reducible refine Calls.mono (HW1.out _) ?_); rintro _ _ ⟨rfl, rfl⟩; dsimp only))) | go_step)
     refine bodyPost_ret (v := .tuple #[.agg #[.int .i64 (1 + o.kind % 3), .int .i64 o.at_, .int .i32 0, .int .i64 r], .bool false]) ?_ rfl ⟨rfl, ?_⟩
     · simp [results, Tryz.results49, go_sem]
     · (repeat' (first | (with_reducible exact Below.refl _ _) | (with_reducible refine balloc ?_)))
   · have e1 : fitOf o n r = (⟨1 + o.kind % 3, o.at_ % n, 0, r⟩, true) := by unfold fitOf; rw [if_neg hk, if_neg hn0]
     rw [e1]
     have HW2 := hid (fun W => within_any o.at_ (n : Int) (by omega) (by omega) W)
     have hn1 : ¬ ((n : Int) = 0) := by omega
     clear e1 hn0
     dsimp only
     go_enter Tryz.func49, Tryz.ntmps49
     repeat' (first | (go_at_call 19; go_must (first | ((with_reducible refine Calls.mono (HW1.out _) ?_); rintro _ _ ⟨rfl, rfl⟩; dsimp only) | ((with_reducible refine Calls.mono (HW2.out _) ?_); rintro _ _ ⟨rfl, rfl⟩; dsimp only))) | go_step)
     refine bodyPost_ret (v := .tuple #[.agg #[.int .i64 (1 + o.kind % 3), .int .i64 (o.at_ % n), .int .i32 0, .int .i64 r], .bool true]) ?_ rfl ⟨rfl, ?_⟩
     · simp [results, Tryz.results49, go_sem]
     · (repeat' (first | (with_reducible exact Below.refl _ _) | (with_reducible refine balloc ?_)))
end Go.Proofs.YteggpddlkkjmjaaGreatDoor
