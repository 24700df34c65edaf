/- A merge where one of the two rows has one anchor alone: the walks of symMergeCmpFunc. Conditions: the row is the call's own. A merge where the second of the two rows has one anchor alone: the walk of symMergeCmpFunc. Conditions: the row is the call's own. -/
import Derived.Test.YtnpbbidiloahdaaDoorP17
namespace Go.Proofs.YtnpbbidiloahdaaDoor
set_option linter.unusedSimpArgs false
set_option linter.unusedVariables false
open Go Go.RowKit
theorem get_at {α : Type} {A B : List α} {x : α} {k : Nat} (h : k = A.length) : (A ++ x :: B)[k]? = some x := by subst h; exact get_mid A B x
theorem shift_right {P R Q : List Pl} {x y : Pl} {a s q : Nat} (ha : a = P.length) (hq : q = a + s) (hy : R[s]? = some y) :
    (P ++ ((R.take s ++ x :: R.drop s) ++ Q))[q]? = some x ∧ (P ++ ((R.take s ++ x :: R.drop s) ++ Q))[q + 1]? = some y ∧ ((P ++ ((R.take s ++ x :: R.drop s) ++ Q)).set q y).set (q + 1) x = P ++ ((R.take (s + 1) ++ x :: R.drop (s + 1)) ++ Q) := by
  have hs := (List.getElem?_eq_some_iff.1 hy).1
  have l1 : (P ++ R.take s).length = q := by simp; omega
  have l2 : (P ++ (R.take s ++ [x])).length = q + 1 := by simp; omega
  have l3 : (P ++ (R.take s ++ [y])).length = q + 1 := by simp; omega
  have e1 : P ++ ((R.take s ++ x :: R.drop s) ++ Q) = (P ++ R.take s) ++ x :: (y :: (R.drop (s + 1) ++ Q)) := by rw [drop_at hy]; simp
  have e2 : P ++ ((R.take s ++ x :: R.drop s) ++ Q) = (P ++ (R.take s ++ [x])) ++ y :: (R.drop (s + 1) ++ Q) := by rw [drop_at hy]; simp
  refine ⟨by rw [e1, ← l1]; exact get_mid _ _ _, by rw [e2, ← l2]; exact get_mid _ _ _, ?_⟩
  have e3 : (P ++ R.take s) ++ y :: (y :: (R.drop (s + 1) ++ Q)) = (P ++ (R.take s ++ [y])) ++ y :: (R.drop (s + 1) ++ Q) := by simp
  rw [e1, ← l1, set_mid, e3, l1, ← l3, set_mid, take_at hy]
  simp
set_option maxRecDepth 50000 in
set_option maxHeartbeats 8000000 in
theorem sym_left (w : World) (base g n c a m b : Nat) (P R Q : List Pl) (x : Pl) (h : PR w base g n c (P ++ (x :: (R ++ Q)))) (hb : base ≤ w.heap.size) (hn : n ≤ 1048576) (ha : a = P.length) (hm : m = a + 1) (hbR : b = m + R.length) (hR : R.Pairwise fun x y => x.p ≤ y.p) :
    Calls Tryd.prog 60 #[.slice (some ⟨g, 0, none⟩) n c, .int .i64 a, .int .i64 m, .int .i64 b, .func (.func 18) #[] #[]] w fun e w' => e = .returned (.tuple #[]) ∧ (∃ X, StSort Pl.p (x :: R) X ∧ PR w' base g n c (P ++ (X ++ Q))) ∧ Out (fun k => k = g) w w' := by
  have hl := h.1
  simp only [List.length_append, List.length_cons] at hl
  have H0 := hid h
  have HA := hid (And.intro ha (And.intro hm (And.intro hbR hl)))
  have HC0 := hid (fun x y W => scmp_any x y W)
  have hma : (m : Int) - (a : Int) = 1 := by omega
  have haB : a ≤ 1048576 := by omega
  have hmB : m ≤ 1048576 := by omega
  have hbB : b ≤ 1048576 := by omega
  clear h ha hm hbR hl
  go_enter Tryd.func60, Tryd.ntmps60
  repeat' (first | go_values | go_skip | go_guarded | go_step | go_upon | go_back)
  skip
  go_loopw [10, 11] (fun i j wr => ∃ (u v U V : Nat), i = .int .i64 u ∧ j = .int .i64 v ∧ u = m + U ∧ v = m + V ∧ Lo Pl.p R x.p U V ∧ PR wr base g n c (P ++ (x :: (R ++ Q))) ∧ Out (fun k => k = g) w wr) (fun i j _ => (intOf j).toNat - (intOf i).toNat)
  case atStart =>
    obtain ⟨ha, hm, hbR, hl⟩ := HA.out
    exact ⟨m, b, 0, R.length, rfl, rfl, by omega, by omega, Lo.start R x.p, H0.out, Out.refl _ _⟩
  case round =>
    clear H0 hma
    obtain ⟨u, v, U, V, rfl, rfl, hu, hv, hLo, hown, hO⟩ := hrel
    have huv := hLo.le
    have hvl := hLo.len
    by_cases hlt : u < v
    · obtain ⟨ha, hm, hbR, hl⟩ := HA.out
      obtain ⟨H, hH⟩ : ∃ H, H = (u + v) / 2 - m := ⟨_, rfl⟩
      obtain ⟨h, hh⟩ : ∃ h, h = m + H := ⟨_, rfl⟩
      obtain ⟨q, hq⟩ : ∃ q, q = u + v := ⟨_, rfl⟩
      have hq2 : h = q / 2 := by omega
      have hqB : q ≤ 2097152 := by omega
      have huvI : (u : Int) + (v : Int) = (q : Int) := by omega
      have hltI : (u : Int) < v := by omega
      obtain ⟨y, hy⟩ : ∃ y, R[H]? = some y := ⟨_, List.getElem?_eq_getElem (by omega)⟩
      have hq2I : (q : Int) / 2 = (h : Int) := by omega
      have hx0 : (P ++ (x :: (R ++ Q)))[a]? = some x := get_at ha
      have hy0 : (P ++ (x :: (R ++ Q)))[h]? = some y := by
        have h1 : h = (P ++ [x]).length + H := by simp; omega
        rw [show P ++ (x :: (R ++ Q)) = (P ++ [x]) ++ (R ++ Q) from by simp, h1, List.getElem?_append_right (by omega), Nat.add_sub_cancel_left, List.getElem?_append_left (List.getElem?_eq_some_iff.1 hy).1]
        exact hy
      have hown' := PR.drew hown
      have yh := hown'.at5 hy0
      have xa := hown'.at5 hx0
      obtain ⟨hhn, hbg, hgl⟩ := hown'.lt hy0
      have han := (hown'.lt hx0).1
      have hhI : (h : Int) < n := by omega
      have haI : (a : Int) < n := by omega
      have HC := hid (fun W => HC0.out y x W)
      unfold Pl.agg at HC
      have hcm := cmpI_lt (a := y.p) (b := x.p)
      generalize cmpI y.p x.p = k at *
      have y0 := yh.c0; have y1 := yh.c1; have y2 := yh.c2; have y3 := yh.c3; have y4 := yh.c4; have e0 := yh.f 0; have e1 := yh.f 1; have e2 := yh.f 2; have e3 := yh.f 3; have e4 := yh.f 4; rw [Nat.add_zero] at e0
      have z0 := xa.c0; have z1 := xa.c1; have z2 := xa.c2; have z3 := xa.c3; have z4 := xa.c4; have f0 := xa.f 0; have f1 := xa.f 1; have f2 := xa.f 2; have f3 := xa.f 3; have f4 := xa.f 4; rw [Nat.add_zero] at f0
      have Hw := hid hown
      have Hf := hid (And.intro hu (And.intro hv (And.intro hLo (And.intro hH (And.intro hh hy)))))
      clear hu hv hLo hH hh hq hq2 hy huv hvl hown hown' hx0 hy0 yh xa ha hm hbR hl hhn han
      by_cases hk : k < 0
      · have hl' := hid (hcm.1 hk)
        clear hcm
        repeat' (first | ((with_reducible refine region_at 5 ?_); refine wp_region_order [(0, true, false), (1, true, false), (2, true, false), (3, true, false), (4, true, false), (5, true, false), (6, true, false), (7, true, false), (8, true, false), (9, false, false), (10, true, false)] (by kernel_rfl) (by kernel_rfl) (by kernel_rfl) rfl rfl ?_) | (go_at_call 18; go_must ((with_reducible refine Calls.mono (HC.out _) ?_); rintro _ w2 ⟨rfl, hb2⟩; dsimp only)) | (with_reducible refine Keep.last ?_) | (with_reducible refine Keep.below (by assumption) ?_) | (with_reducible refine Keep.kept (by assumption) ?_) | (with_reducible refine Keep.alloc ?_) | (with_reducible refine Keep.same ?_) | ((with_reducible refine WpH.here ?_); first | (refine WpH.nil ?_; refine NoP.normal ?_) | (refine WpH.load (by rfl) (by rfl) (by go_simp; rfl) ?_; simp only [Act.put, List.setIfInBounds_toArray, List.set_cons_zero, List.set_cons_succ]) | (refine WpH.loadT (by rfl) (by rfl) (by go_simp; rfl) (by rintro _ _ ⟨⟩; exact ⟨_, _, _, _, _, _, by rfl, by assumption, by assumption⟩) ?_; simp only [Act.put, List.setIfInBounds_toArray, List.set_cons_zero, List.set_cons_succ]) | (refine WpH.pure (by rfl) (fun w_ => by go_simp; (try go_bits); rfl) ?_; simp only [Act.put, List.setIfInBounds_toArray, List.set_cons_zero, List.set_cons_succ]) | (refine WpH.wild1 (by rfl) (fun _ _ => ?_)) | (refine WpH.skip (by rfl) ?_; simp only [Act.put, List.setIfInBounds_toArray, List.set_cons_zero, List.set_cons_succ])) | go_values | go_skip | go_guarded | go_step | go_upon | go_back)
        skip
        go_roundw
        case rel =>
          obtain ⟨hu, hv, hLo, hH, hh, hy⟩ := Hf.out
          exact ⟨h + 1, v, H + 1, V, by go_num, rfl, by omega, hv, hLo.right hR hy (by omega) hl'.out, PR.step (PR.drew Hw.out) hb2, hO.drewS.trans (Out.of_below (S := fun k => k = g) hb2) fun _ _ h => h⟩
        case measure =>
          have := Hf.out.1
          have := Hf.out.2.1
          have := Hf.out.2.2.2.1
          have := Hf.out.2.2.2.2.1
          simp [intOf]; omega
      · have hl' := hid (show x.p ≤ y.p by have := mt hcm.2 hk; omega)
        clear hcm
        repeat' (first | ((with_reducible refine region_at 5 ?_); refine wp_region_order [(0, true, false), (1, true, false), (2, true, false), (3, true, false), (4, true, false), (5, true, false), (6, true, false), (7, true, false), (8, true, false), (9, false, false), (10, true, false)] (by kernel_rfl) (by kernel_rfl) (by kernel_rfl) rfl rfl ?_) | (go_at_call 18; go_must ((with_reducible refine Calls.mono (HC.out _) ?_); rintro _ w2 ⟨rfl, hb2⟩; dsimp only)) | (with_reducible refine Keep.last ?_) | (with_reducible refine Keep.below (by assumption) ?_) | (with_reducible refine Keep.kept (by assumption) ?_) | (with_reducible refine Keep.alloc ?_) | (with_reducible refine Keep.same ?_) | ((with_reducible refine WpH.here ?_); first | (refine WpH.nil ?_; refine NoP.normal ?_) | (refine WpH.load (by rfl) (by rfl) (by go_simp; rfl) ?_; simp only [Act.put, List.setIfInBounds_toArray, List.set_cons_zero, List.set_cons_succ]) | (refine WpH.loadT (by rfl) (by rfl) (by go_simp; rfl) (by rintro _ _ ⟨⟩; exact ⟨_, _, _, _, _, _, by rfl, by assumption, by assumption⟩) ?_; simp only [Act.put, List.setIfInBounds_toArray, List.set_cons_zero, List.set_cons_succ]) | (refine WpH.pure (by rfl) (fun w_ => by go_simp; (try go_bits); rfl) ?_; simp only [Act.put, List.setIfInBounds_toArray, List.set_cons_zero, List.set_cons_succ]) | (refine WpH.wild1 (by rfl) (fun _ _ => ?_)) | (refine WpH.skip (by rfl) ?_; simp only [Act.put, List.setIfInBounds_toArray, List.set_cons_zero, List.set_cons_succ])) | go_values | go_skip | go_guarded | go_step | go_upon | go_back)
        skip
        go_roundw
        case rel =>
          obtain ⟨hu, hv, hLo, hH, hh, hy⟩ := Hf.out
          exact ⟨u, h, U, H, rfl, by go_num, hu, hh, hLo.left hR hy (by omega) hl'.out, PR.step (PR.drew Hw.out) hb2, hO.drewS.trans (Out.of_below (S := fun k => k = g) hb2) fun _ _ h => h⟩
        case measure =>
          have := Hf.out.1
          have := Hf.out.2.1
          have := Hf.out.2.2.2.1
          have := Hf.out.2.2.2.2.1
          simp [intOf]; omega
    · obtain rfl : u = v := by omega
      obtain rfl : U = V := by omega
      have huB : u ≤ 1048576 := by have := HA.out; omega
      obtain ⟨t, ht⟩ : ∃ t, t = u - 1 := ⟨_, rfl⟩
      have htI : (u : Int) - 1 = (t : Int) := by have := HA.out; omega
      have HU := hid (And.intro hu (And.intro ht hLo))
      have Hw := hid hown
      clear hu hv ht hLo hown hvl huv
      repeat' (first | (with_reducible refine Keep.last ?_) | (with_reducible refine Keep.below (by assumption) ?_) | (with_reducible refine Keep.kept (by assumption) ?_) | (with_reducible refine Keep.alloc ?_) | (with_reducible refine Keep.same ?_) | ((with_reducible refine WpH.here ?_); first | (refine WpH.nil ?_; refine NoP.normal ?_) | (refine WpH.load (by rfl) (by rfl) (by go_simp; rfl) ?_; simp only [Act.put, List.setIfInBounds_toArray, List.set_cons_zero, List.set_cons_succ]) | (refine WpH.loadT (by rfl) (by rfl) (by go_simp; rfl) (by rintro _ _ ⟨⟩; exact ⟨_, _, _, _, _, _, by rfl, by assumption, by assumption⟩) ?_; simp only [Act.put, List.setIfInBounds_toArray, List.set_cons_zero, List.set_cons_succ]) | (refine WpH.pure (by rfl) (fun w_ => by go_simp; (try go_bits); rfl) ?_; simp only [Act.put, List.setIfInBounds_toArray, List.set_cons_zero, List.set_cons_succ]) | (refine WpH.wild1 (by rfl) (fun _ _ => ?_)) | (refine WpH.skip (by rfl) ?_; simp only [Act.put, List.setIfInBounds_toArray, List.set_cons_zero, List.set_cons_succ])) | go_values | go_skip | go_guarded | go_step | go_upon | go_back)
      skip
      go_loopw [13] (fun k wr => ∃ (q s : Nat), k = .int .i64 q ∧ q = a + s ∧ s ≤ U ∧ PR wr base g n c (P ++ ((R.take s ++ x :: R.drop s) ++ Q)) ∧ Out (fun k => k = g) w wr) (fun k _ => u - (intOf k).toNat)
      case atStart => exact ⟨a, 0, rfl, rfl, Nat.zero_le _, by simpa using Hw.out, hO⟩
      case round =>
        clear Hw hO
        obtain ⟨q, s, rfl, hq, hs, hown, hO⟩ := hrel
        obtain ⟨ha, hm, hbR, hl⟩ := HA.out
        obtain ⟨hu, ht, hLo⟩ := HU.out
        by_cases hlt2 : q < t
        · have hqt : (q : Int) < (t : Int) := by omega
          obtain ⟨y, hy⟩ : ∃ y, R[s]? = some y := ⟨_, List.getElem?_eq_getElem (by have := hLo.len; omega)⟩
          obtain ⟨ex, ey, es⟩ := shift_right (P := P) (Q := Q) (x := x) ha hq hy
          obtain ⟨r, hr⟩ : ∃ r, r = q + 1 := ⟨_, rfl⟩
          rw [← hr] at ey es
          have hrI : (q : Int) + 1 = (r : Int) := by omega
          have hown' := PR.drew hown
          have yr := hown'.at5 ex
          have zp := hown'.at5 ey
          have yr' := hown.at5 ex
          have zp' := hown.at5 ey
          obtain ⟨hqn, hbg, hgl⟩ := hown.lt ex
          have hrn := (hown.lt ey).1
          have hqI : (q : Int) < n := by omega
          have hrnI : (r : Int) < n := by omega
          have hpq : ¬ q = r := by omega
          have hpq2 : ¬ r = q := by omega
          have hpq3 : ¬ q * 5 = r * 5 := by omega
          have hpq4 : ¬ r * 5 = q * 5 := by omega
          have y0 := yr.c0; have y1 := yr.c1; have y2 := yr.c2; have y3 := yr.c3; have y4 := yr.c4; have e0 := yr.f 0; have e1 := yr.f 1; have e2 := yr.f 2; have e3 := yr.f 3; have e4 := yr.f 4; rw [Nat.add_zero] at e0
          have z0 := zp.c0; have z1 := zp.c1; have z2 := zp.c2; have z3 := zp.c3; have z4 := zp.c4; have f0 := zp.f 0; have f1 := zp.f 1; have f2 := zp.f 2; have f3 := zp.f 3; have f4 := zp.f 4; rw [Nat.add_zero] at f0
          have u0 := yr'.c0; have u1 := yr'.c1; have u2 := yr'.c2; have u3 := yr'.c3; have u4 := yr'.c4; have r0 := yr'.f 0; have r1 := yr'.f 1; have r2 := yr'.f 2; have r3 := yr'.f 3; have r4 := yr'.f 4; rw [Nat.add_zero] at r0
          have v0 := zp'.c0; have v1 := zp'.c1; have v2 := zp'.c2; have v3 := zp'.c3; have v4 := zp'.c4; have s0 := zp'.f 0; have s1 := zp'.f 1; have s2 := zp'.f 2; have s3 := zp'.f 3; have s4 := zp'.f 4; rw [Nat.add_zero] at s0
          have Hes := hid es
          have Hw := hid hown
          have Hn := hid (And.intro hqn hrn)
          have Hq := hid (And.intro hq hr)
          clear yr zp yr' zp' ex ey es hown hown' hqn hrn hq hr hy ha hm hbR hl hu ht hLo
          repeat' (first | ((with_reducible refine region_at 11 ?_); refine wp_region_order [(0, true, false), (1, true, false), (2, true, false), (3, true, false), (4, true, false), (5, true, false), (6, true, false), (7, true, false), (8, true, false), (9, true, false), (10, true, false), (11, true, false), (12, true, false), (13, true, false), (14, true, false), (15, false, true), (16, true, false), (17, false, true)] (by kernel_rfl) (by kernel_rfl) (by kernel_rfl) rfl rfl ?_) | (with_reducible refine Keep.last ?_) | (with_reducible refine Keep.below (by assumption) ?_) | (with_reducible refine Keep.kept (by assumption) ?_) | (with_reducible refine Keep.alloc ?_) | (with_reducible refine Keep.same ?_) | ((with_reducible refine WpH.here ?_); first | (refine WpH.nil ?_; refine NoP.normal ?_) | (refine WpH.load (by rfl) (by rfl) (by go_simp; rfl) ?_; simp only [Act.put, List.setIfInBounds_toArray, List.set_cons_zero, List.set_cons_succ]) | (refine WpH.loadT (by rfl) (by rfl) (by go_simp; rfl) (by rintro _ _ ⟨⟩; exact ⟨_, _, _, _, _, _, by rfl, by assumption, by assumption⟩) ?_; simp only [Act.put, List.setIfInBounds_toArray, List.set_cons_zero, List.set_cons_succ]) | (refine WpH.pure (by rfl) (fun w_ => by go_simp; (try go_bits); rfl) ?_; simp only [Act.put, List.setIfInBounds_toArray, List.set_cons_zero, List.set_cons_succ]) | (refine WpH.wild1 (by rfl) (fun _ _ => ?_)) | (refine WpH.skip (by rfl) ?_; simp only [Act.put, List.setIfInBounds_toArray, List.set_cons_zero, List.set_cons_succ])) | go_values | go_skip | go_guarded | go_step | go_upon | go_back)
          skip
          go_roundw
          case rel =>
            obtain ⟨hq, hr⟩ := Hq.out
            obtain ⟨hu, ht, hLo⟩ := HU.out
            obtain ⟨ha, hm, hbR, hl⟩ := HA.out
            exact ⟨r, s + 1, by go_num, by omega, by omega, by rw [← Hes.out]; exact PR.drew ((Hw.out.set5 y Hn.out.1).set5 x Hn.out.2), ((hO.set5 q y).set5 r x).drewS⟩
          case measure =>
            have := HU.out.2.1
            have := Hq.out.2
            simp [intOf]; omega
        · have hqt : ¬ (q : Int) < (t : Int) := by omega
          obtain rfl : s = U := by omega
          have Hw := hid hown
          have Hs := hid (hLo.sort hR)
          clear hown ha hm hbR hl hu ht hLo hq
          repeat' (first | (with_reducible refine Keep.last ?_) | (with_reducible refine Keep.below (by assumption) ?_) | (with_reducible refine Keep.kept (by assumption) ?_) | (with_reducible refine Keep.alloc ?_) | (with_reducible refine Keep.same ?_) | ((with_reducible refine WpH.here ?_); first | (refine WpH.nil ?_; refine NoP.normal ?_) | (refine WpH.load (by rfl) (by rfl) (by go_simp; rfl) ?_; simp only [Act.put, List.setIfInBounds_toArray, List.set_cons_zero, List.set_cons_succ]) | (refine WpH.loadT (by rfl) (by rfl) (by go_simp; rfl) (by rintro _ _ ⟨⟩; exact ⟨_, _, _, _, _, _, by rfl, by assumption, by assumption⟩) ?_; simp only [Act.put, List.setIfInBounds_toArray, List.set_cons_zero, List.set_cons_succ]) | (refine WpH.pure (by rfl) (fun w_ => by go_simp; (try go_bits); rfl) ?_; simp only [Act.put, List.setIfInBounds_toArray, List.set_cons_zero, List.set_cons_succ]) | (refine WpH.wild1 (by rfl) (fun _ _ => ?_)) | (refine WpH.skip (by rfl) ?_; simp only [Act.put, List.setIfInBounds_toArray, List.set_cons_zero, List.set_cons_succ])) | go_values | go_skip | go_guarded | go_step | go_upon | go_back)
          skip
          ((try simp only [Exit.inBlock, Exit.then]); refine bodyPost_ret (results_none rfl _ _ _) rfl ?_)
          exact ⟨rfl, ⟨_, Hs.out, Hw.out⟩, hO⟩
end Go.Proofs.YtnpbbidiloahdaaDoor
namespace Go.Proofs.YtnpbbidiloahdaaDoor
set_option linter.unusedSimpArgs false
set_option linter.unusedVariables false
open Go Go.RowKit
theorem shift_left {P L Q : List Pl} {y z : Pl} {a s q : Nat} (ha : a = P.length) (hq : q = a + s) (hz : L[s]? = some z) :
    (P ++ ((L.take (s + 1) ++ y :: L.drop (s + 1)) ++ Q))[q + 1]? = some y ∧ (P ++ ((L.take (s + 1) ++ y :: L.drop (s + 1)) ++ Q))[q]? = some z ∧ ((P ++ ((L.take (s + 1) ++ y :: L.drop (s + 1)) ++ Q)).set (q + 1) z).set q y = P ++ ((L.take s ++ y :: L.drop s) ++ Q) := by
  have hs := (List.getElem?_eq_some_iff.1 hz).1
  have l1 : (P ++ L.take s).length = q := by simp; omega
  have l2 : (P ++ (L.take s ++ [z])).length = q + 1 := by simp; omega
  have e1 : P ++ ((L.take (s + 1) ++ y :: L.drop (s + 1)) ++ Q) = (P ++ L.take s) ++ z :: (y :: (L.drop (s + 1) ++ Q)) := by rw [take_at hz]; simp
  have e2 : P ++ ((L.take (s + 1) ++ y :: L.drop (s + 1)) ++ Q) = (P ++ (L.take s ++ [z])) ++ y :: (L.drop (s + 1) ++ Q) := by rw [take_at hz]; simp
  refine ⟨by rw [e2, ← l2]; exact get_mid _ _ _, by rw [e1, ← l1]; exact get_mid _ _ _, ?_⟩
  have e3 : (P ++ (L.take s ++ [z])) ++ z :: (L.drop (s + 1) ++ Q) = (P ++ L.take s) ++ z :: (z :: (L.drop (s + 1) ++ Q)) := by simp
  rw [e2, ← l2, set_mid, e3, ← l1, set_mid, drop_at hz]
  simp
set_option maxRecDepth 50000 in
set_option maxHeartbeats 8000000 in
theorem sym_right (w : World) (base g n c a m b : Nat) (P L Q : List Pl) (y : Pl) (h : PR w base g n c (P ++ (L ++ (y :: Q)))) (hb : base ≤ w.heap.size) (hn : n ≤ 1048576) (ha : a = P.length) (hm : m = a + L.length) (hbR : b = m + 1) (hL1 : L.length ≠ 1) (hL : L.Pairwise fun x y => x.p ≤ y.p) :
    Calls Tryd.prog 60 #[.slice (some ⟨g, 0, none⟩) n c, .int .i64 a, .int .i64 m, .int .i64 b, .func (.func 18) #[] #[]] w fun e w' => e = .returned (.tuple #[]) ∧ (∃ X, StSort Pl.p (L ++ [y]) X ∧ PR w' base g n c (P ++ (X ++ Q))) ∧ Out (fun k => k = g) w w' := by
  have hl := h.1
  simp only [List.length_append, List.length_cons] at hl
  have H0 := hid h
  have HA := hid (And.intro ha (And.intro hm (And.intro hbR hl)))
  have HC0 := hid (fun x y W => scmp_any x y W)
  have hma : ¬ (m : Int) - (a : Int) = 1 := by omega
  have hbm : (b : Int) - (m : Int) = 1 := by omega
  have haB : a ≤ 1048576 := by omega
  have hmB : m ≤ 1048576 := by omega
  have hbB : b ≤ 1048576 := by omega
  clear h ha hm hbR hl hL1
  go_enter Tryd.func60, Tryd.ntmps60
  repeat' (first | go_values | go_skip | go_guarded | go_step | go_upon | go_back)
  skip
  go_loopw [14, 15] (fun i j wr => ∃ (u v U V : Nat), i = .int .i64 u ∧ j = .int .i64 v ∧ u = a + U ∧ v = a + V ∧ Hi Pl.p L y.p U V ∧ PR wr base g n c (P ++ (L ++ (y :: Q))) ∧ Out (fun k => k = g) w wr) (fun i j _ => (intOf j).toNat - (intOf i).toNat)
  case atStart =>
    obtain ⟨ha, hm, hbR, hl⟩ := HA.out
    exact ⟨a, m, 0, L.length, rfl, rfl, by omega, by omega, Hi.start L y.p, H0.out, Out.refl _ _⟩
  case round =>
    clear H0 hma hbm
    obtain ⟨u, v, U, V, rfl, rfl, hu, hv, hLo, hown, hO⟩ := hrel
    have huv := hLo.le
    have hvl := hLo.len
    by_cases hlt : u < v
    · obtain ⟨ha, hm, hbR, hl⟩ := HA.out
      obtain ⟨H, hH⟩ : ∃ H, H = (u + v) / 2 - a := ⟨_, rfl⟩
      obtain ⟨h, hh⟩ : ∃ h, h = a + H := ⟨_, rfl⟩
      obtain ⟨q, hq⟩ : ∃ q, q = u + v := ⟨_, rfl⟩
      have hq2 : h = q / 2 := by omega
      have hqB : q ≤ 2097152 := by omega
      have huvI : (u : Int) + (v : Int) = (q : Int) := by omega
      have hltI : (u : Int) < v := by omega
      obtain ⟨z, hz⟩ : ∃ z, L[H]? = some z := ⟨_, List.getElem?_eq_getElem (by omega)⟩
      have hq2I : (q : Int) / 2 = (h : Int) := by omega
      have hy0 : (P ++ (L ++ (y :: Q)))[m]? = some y := by
        rw [show P ++ (L ++ (y :: Q)) = (P ++ L) ++ (y :: Q) from by simp]
        exact get_at (by simp; omega)
      have hz0 : (P ++ (L ++ (y :: Q)))[h]? = some z := by
        rw [hh, ha, List.getElem?_append_right (by omega), Nat.add_sub_cancel_left, List.getElem?_append_left (List.getElem?_eq_some_iff.1 hz).1]
        exact hz
      have hown' := PR.drew hown
      have ym := hown'.at5 hy0
      have zh := hown'.at5 hz0
      obtain ⟨hhn, hbg, hgl⟩ := hown'.lt hz0
      have hmn := (hown'.lt hy0).1
      have hhI : (h : Int) < n := by omega
      have hmI : (m : Int) < n := by omega
      have HC := hid (fun W => HC0.out y z W)
      unfold Pl.agg at HC
      have hcm := cmpI_lt (a := y.p) (b := z.p)
      generalize cmpI y.p z.p = k at *
      have y0 := ym.c0; have y1 := ym.c1; have y2 := ym.c2; have y3 := ym.c3; have y4 := ym.c4; have e0 := ym.f 0; have e1 := ym.f 1; have e2 := ym.f 2; have e3 := ym.f 3; have e4 := ym.f 4; rw [Nat.add_zero] at e0
      have z0 := zh.c0; have z1 := zh.c1; have z2 := zh.c2; have z3 := zh.c3; have z4 := zh.c4; have f0 := zh.f 0; have f1 := zh.f 1; have f2 := zh.f 2; have f3 := zh.f 3; have f4 := zh.f 4; rw [Nat.add_zero] at f0
      have Hw := hid hown
      have Hf := hid (And.intro hu (And.intro hv (And.intro hLo (And.intro hH (And.intro hh hz)))))
      clear hu hv hLo hH hh hq hq2 hz huv hvl hown hown' hz0 hy0 ym zh ha hm hbR hl hhn hmn
      by_cases hk : k < 0
      · have hl' := hid (hcm.1 hk)
        clear hcm
        repeat' (first | ((with_reducible refine region_at 17 ?_); refine wp_region_order [(0, true, false), (1, true, false), (2, true, false), (3, true, false), (4, true, false), (5, true, false), (6, true, false), (7, true, false), (8, true, false), (9, false, false), (10, true, false), (11, true, false)] (by kernel_rfl) (by kernel_rfl) (by kernel_rfl) rfl rfl ?_) | (go_at_call 18; go_must ((with_reducible refine Calls.mono (HC.out _) ?_); rintro _ w2 ⟨rfl, hb2⟩; dsimp only)) | (with_reducible refine Keep.last ?_) | (with_reducible refine Keep.below (by assumption) ?_) | (with_reducible refine Keep.kept (by assumption) ?_) | (with_reducible refine Keep.alloc ?_) | (with_reducible refine Keep.same ?_) | ((with_reducible refine WpH.here ?_); first | (refine WpH.nil ?_; refine NoP.normal ?_) | (refine WpH.load (by rfl) (by rfl) (by go_simp; rfl) ?_; simp only [Act.put, List.setIfInBounds_toArray, List.set_cons_zero, List.set_cons_succ]) | (refine WpH.loadT (by rfl) (by rfl) (by go_simp; rfl) (by rintro _ _ ⟨⟩; exact ⟨_, _, _, _, _, _, by rfl, by assumption, by assumption⟩) ?_; simp only [Act.put, List.setIfInBounds_toArray, List.set_cons_zero, List.set_cons_succ]) | (refine WpH.pure (by rfl) (fun w_ => by go_simp; (try go_bits); rfl) ?_; simp only [Act.put, List.setIfInBounds_toArray, List.set_cons_zero, List.set_cons_succ]) | (refine WpH.wild1 (by rfl) (fun _ _ => ?_)) | (refine WpH.skip (by rfl) ?_; simp only [Act.put, List.setIfInBounds_toArray, List.set_cons_zero, List.set_cons_succ])) | go_values | go_skip | go_guarded | go_step | go_upon | go_back)
        skip
        go_roundw
        case rel =>
          obtain ⟨hu, hv, hLo, hH, hh, hz⟩ := Hf.out
          exact ⟨u, h, U, H, rfl, by go_num, hu, hh, hLo.left hL hz (by omega) hl'.out, PR.step (PR.drew Hw.out) hb2, hO.drewS.trans (Out.of_below (S := fun k => k = g) hb2) fun _ _ h => h⟩
        case measure =>
          have := Hf.out.1
          have := Hf.out.2.1
          have := Hf.out.2.2.2.1
          have := Hf.out.2.2.2.2.1
          simp [intOf]; omega
      · have hl' := hid (show z.p ≤ y.p by have := mt hcm.2 hk; omega)
        clear hcm
        repeat' (first | ((with_reducible refine region_at 17 ?_); refine wp_region_order [(0, true, false), (1, true, false), (2, true, false), (3, true, false), (4, true, false), (5, true, false), (6, true, false), (7, true, false), (8, true, false), (9, false, false), (10, true, false), (11, true, false)] (by kernel_rfl) (by kernel_rfl) (by kernel_rfl) rfl rfl ?_) | (go_at_call 18; go_must ((with_reducible refine Calls.mono (HC.out _) ?_); rintro _ w2 ⟨rfl, hb2⟩; dsimp only)) | (with_reducible refine Keep.last ?_) | (with_reducible refine Keep.below (by assumption) ?_) | (with_reducible refine Keep.kept (by assumption) ?_) | (with_reducible refine Keep.alloc ?_) | (with_reducible refine Keep.same ?_) | ((with_reducible refine WpH.here ?_); first | (refine WpH.nil ?_; refine NoP.normal ?_) | (refine WpH.load (by rfl) (by rfl) (by go_simp; rfl) ?_; simp only [Act.put, List.setIfInBounds_toArray, List.set_cons_zero, List.set_cons_succ]) | (refine WpH.loadT (by rfl) (by rfl) (by go_simp; rfl) (by rintro _ _ ⟨⟩; exact ⟨_, _, _, _, _, _, by rfl, by assumption, by assumption⟩) ?_; simp only [Act.put, List.setIfInBounds_toArray, List.set_cons_zero, List.set_cons_succ]) | (refine WpH.pure (by rfl) (fun w_ => by go_simp; (try go_bits); rfl) ?_; simp only [Act.put, List.setIfInBounds_toArray, List.set_cons_zero, List.set_cons_succ]) | (refine WpH.wild1 (by rfl) (fun _ _ => ?_)) | (refine WpH.skip (by rfl) ?_; simp only [Act.put, List.setIfInBounds_toArray, List.set_cons_zero, List.set_cons_succ])) | go_values | go_skip | go_guarded | go_step | go_upon | go_back)
        skip
        go_roundw
        case rel =>
          obtain ⟨hu, hv, hLo, hH, hh, hz⟩ := Hf.out
          exact ⟨h + 1, v, H + 1, V, by go_num, rfl, by omega, hv, hLo.right hL hz (by omega) hl'.out, PR.step (PR.drew Hw.out) hb2, hO.drewS.trans (Out.of_below (S := fun k => k = g) hb2) fun _ _ h => h⟩
        case measure =>
          have := Hf.out.1
          have := Hf.out.2.1
          have := Hf.out.2.2.2.1
          have := Hf.out.2.2.2.2.1
          simp [intOf]; omega
    · obtain rfl : u = v := by omega
      obtain rfl : U = V := by omega
      have huB : u ≤ 1048576 := by have := HA.out; omega
      have HU := hid (And.intro hu hLo)
      have Hw := hid hown
      clear hu hv hLo hown hvl huv
      repeat' (first | (with_reducible refine Keep.last ?_) | (with_reducible refine Keep.below (by assumption) ?_) | (with_reducible refine Keep.kept (by assumption) ?_) | (with_reducible refine Keep.alloc ?_) | (with_reducible refine Keep.same ?_) | ((with_reducible refine WpH.here ?_); first | (refine WpH.nil ?_; refine NoP.normal ?_) | (refine WpH.load (by rfl) (by rfl) (by go_simp; rfl) ?_; simp only [Act.put, List.setIfInBounds_toArray, List.set_cons_zero, List.set_cons_succ]) | (refine WpH.loadT (by rfl) (by rfl) (by go_simp; rfl) (by rintro _ _ ⟨⟩; exact ⟨_, _, _, _, _, _, by rfl, by assumption, by assumption⟩) ?_; simp only [Act.put, List.setIfInBounds_toArray, List.set_cons_zero, List.set_cons_succ]) | (refine WpH.pure (by rfl) (fun w_ => by go_simp; (try go_bits); rfl) ?_; simp only [Act.put, List.setIfInBounds_toArray, List.set_cons_zero, List.set_cons_succ]) | (refine WpH.wild1 (by rfl) (fun _ _ => ?_)) | (refine WpH.skip (by rfl) ?_; simp only [Act.put, List.setIfInBounds_toArray, List.set_cons_zero, List.set_cons_succ])) | go_values | go_skip | go_guarded | go_step | go_upon | go_back)
      skip
      go_loopw [17] (fun k wr => ∃ (q s : Nat), k = .int .i64 q ∧ q = a + s ∧ U ≤ s ∧ s ≤ L.length ∧ PR wr base g n c (P ++ ((L.take s ++ y :: L.drop s) ++ Q)) ∧ Out (fun k => k = g) w wr) (fun k _ => (intOf k).toNat)
      case atStart =>
        have h1 := HU.out.2.len
        exact ⟨m, L.length, rfl, HA.out.2.1, h1, Nat.le_refl _, by simpa using Hw.out, hO⟩
      case round =>
        clear Hw hO
        obtain ⟨q, s, rfl, hq, hs, hs2, hown, hO⟩ := hrel
        obtain ⟨ha, hm, hbR, hl⟩ := HA.out
        obtain ⟨hu, hLo⟩ := HU.out
        have hqB : q ≤ 1048576 := by omega
        by_cases hlt2 : u < q
        · have hqt : (q : Int) > (u : Int) := by omega
          obtain ⟨s, rfl⟩ : ∃ s', s = s' + 1 := ⟨s - 1, by omega⟩
          obtain ⟨r, hr⟩ : ∃ r, r = a + s := ⟨_, rfl⟩
          obtain ⟨z, hz⟩ : ∃ z, L[s]? = some z := ⟨_, List.getElem?_eq_getElem (by omega)⟩
          obtain ⟨ey, ez, es⟩ := shift_left (P := P) (Q := Q) (y := y) ha hr hz
          rw [show r + 1 = q from by omega] at ey es
          have hrI : (q : Int) - 1 = (r : Int) := by omega
          have hown' := PR.drew hown
          have yr := hown'.at5 ey
          have zp := hown'.at5 ez
          have yr' := hown.at5 ey
          have zp' := hown.at5 ez
          obtain ⟨hqn, hbg, hgl⟩ := hown.lt ey
          have hrn := (hown.lt ez).1
          have hqI : (q : Int) < n := by omega
          have hrnI : (r : Int) < n := by omega
          have hpq : ¬ q = r := by omega
          have hpq2 : ¬ r = q := by omega
          have hpq3 : ¬ q * 5 = r * 5 := by omega
          have hpq4 : ¬ r * 5 = q * 5 := by omega
          have y0 := yr.c0; have y1 := yr.c1; have y2 := yr.c2; have y3 := yr.c3; have y4 := yr.c4; have e0 := yr.f 0; have e1 := yr.f 1; have e2 := yr.f 2; have e3 := yr.f 3; have e4 := yr.f 4; rw [Nat.add_zero] at e0
          have z0 := zp.c0; have z1 := zp.c1; have z2 := zp.c2; have z3 := zp.c3; have z4 := zp.c4; have f0 := zp.f 0; have f1 := zp.f 1; have f2 := zp.f 2; have f3 := zp.f 3; have f4 := zp.f 4; rw [Nat.add_zero] at f0
          have u0 := yr'.c0; have u1 := yr'.c1; have u2 := yr'.c2; have u3 := yr'.c3; have u4 := yr'.c4; have r0 := yr'.f 0; have r1 := yr'.f 1; have r2 := yr'.f 2; have r3 := yr'.f 3; have r4 := yr'.f 4; rw [Nat.add_zero] at r0
          have v0 := zp'.c0; have v1 := zp'.c1; have v2 := zp'.c2; have v3 := zp'.c3; have v4 := zp'.c4; have s0 := zp'.f 0; have s1 := zp'.f 1; have s2 := zp'.f 2; have s3 := zp'.f 3; have s4 := zp'.f 4; rw [Nat.add_zero] at s0
          have Hes := hid es
          have Hw := hid hown
          have Hn := hid (And.intro hqn hrn)
          have Hq := hid (And.intro hq (And.intro hr (And.intro hs hs2)))
          clear yr zp yr' zp' ey ez es hown hown' hqn hrn hq hr hz ha hm hbR hl hu hLo hs hs2
          repeat' (first | ((with_reducible refine region_at 23 ?_); refine wp_region_order [(0, true, false), (1, true, false), (2, true, false), (3, true, false), (4, true, false), (5, true, false), (6, true, false), (7, true, false), (8, true, false), (9, true, false), (10, true, false), (11, true, false), (12, true, false), (13, true, false), (14, true, false), (15, false, true), (16, true, false), (17, false, true)] (by kernel_rfl) (by kernel_rfl) (by kernel_rfl) rfl rfl ?_) | (with_reducible refine Keep.last ?_) | (with_reducible refine Keep.below (by assumption) ?_) | (with_reducible refine Keep.kept (by assumption) ?_) | (with_reducible refine Keep.alloc ?_) | (with_reducible refine Keep.same ?_) | ((with_reducible refine WpH.here ?_); first | (refine WpH.nil ?_; refine NoP.normal ?_) | (refine WpH.load (by rfl) (by rfl) (by go_simp; rfl) ?_; simp only [Act.put, List.setIfInBounds_toArray, List.set_cons_zero, List.set_cons_succ]) | (refine WpH.loadT (by rfl) (by rfl) (by go_simp; rfl) (by rintro _ _ ⟨⟩; exact ⟨_, _, _, _, _, _, by rfl, by assumption, by assumption⟩) ?_; simp only [Act.put, List.setIfInBounds_toArray, List.set_cons_zero, List.set_cons_succ]) | (refine WpH.pure (by rfl) (fun w_ => by go_simp; (try go_bits); rfl) ?_; simp only [Act.put, List.setIfInBounds_toArray, List.set_cons_zero, List.set_cons_succ]) | (refine WpH.wild1 (by rfl) (fun _ _ => ?_)) | (refine WpH.skip (by rfl) ?_; simp only [Act.put, List.setIfInBounds_toArray, List.set_cons_zero, List.set_cons_succ])) | go_values | go_skip | go_guarded | go_step | go_upon | go_back)
          skip
          go_roundw
          case rel =>
            obtain ⟨hq, hr, hs, hs2⟩ := Hq.out
            obtain ⟨hu, hLo⟩ := HU.out
            exact ⟨r, s, by go_num, by omega, by omega, by omega, by rw [← Hes.out]; exact PR.drew ((Hw.out.set5 z Hn.out.1).set5 y Hn.out.2), ((hO.set5 q z).set5 r y).drewS⟩
          case measure =>
            have := Hq.out.2.1
            have := Hq.out.1
            simp [intOf]; omega
        · have hqt : ¬ (q : Int) > (u : Int) := by omega
          obtain rfl : s = U := by omega
          have Hw := hid hown
          have Hs := hid (hLo.sort hL)
          clear hown ha hm hbR hl hu hLo hq
          repeat' (first | (with_reducible refine Keep.last ?_) | (with_reducible refine Keep.below (by assumption) ?_) | (with_reducible refine Keep.kept (by assumption) ?_) | (with_reducible refine Keep.alloc ?_) | (with_reducible refine Keep.same ?_) | ((with_reducible refine WpH.here ?_); first | (refine WpH.nil ?_; refine NoP.normal ?_) | (refine WpH.load (by rfl) (by rfl) (by go_simp; rfl) ?_; simp only [Act.put, List.setIfInBounds_toArray, List.set_cons_zero, List.set_cons_succ]) | (refine WpH.loadT (by rfl) (by rfl) (by go_simp; rfl) (by rintro _ _ ⟨⟩; exact ⟨_, _, _, _, _, _, by rfl, by assumption, by assumption⟩) ?_; simp only [Act.put, List.setIfInBounds_toArray, List.set_cons_zero, List.set_cons_succ]) | (refine WpH.pure (by rfl) (fun w_ => by go_simp; (try go_bits); rfl) ?_; simp only [Act.put, List.setIfInBounds_toArray, List.set_cons_zero, List.set_cons_succ]) | (refine WpH.wild1 (by rfl) (fun _ _ => ?_)) | (refine WpH.skip (by rfl) ?_; simp only [Act.put, List.setIfInBounds_toArray, List.set_cons_zero, List.set_cons_succ])) | go_values | go_skip | go_guarded | go_step | go_upon | go_back)
          skip
          ((try simp only [Exit.inBlock, Exit.then]); refine bodyPost_ret (results_none rfl _ _ _) rfl ?_)
          exact ⟨rfl, ⟨_, Hs.out, Hw.out⟩, hO⟩
end Go.Proofs.YtnpbbidiloahdaaDoor
