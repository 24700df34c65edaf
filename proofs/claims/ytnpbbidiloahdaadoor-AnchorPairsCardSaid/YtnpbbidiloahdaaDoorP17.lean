/- The order of placed anchors and the insertion sort: walks of isNaN, Compare, the closure of Sort and insertionSortCmpFunc. Conditions: the row is the call's own. A merge by halves in plain words: the search for the cut, and what stands on its two sides. No condition. No program in sight. -/
import Derived.Test.YtnpbbidiloahdaaDoorP16
namespace Go.Proofs.YtnpbbidiloahdaaDoor
set_option linter.unusedSimpArgs false
set_option linter.unusedVariables false
open Go Go.RowKit
theorem PR.step {w w' : World} {base g n c : Nat} {es : List Pl} (h : PR w base g n c es) (hb : Below w.heap.size w w') : PR w' base g n c es := GOwn.step h hb
def cmpI (a b : Int) : Int := if a < b then -1 else if b < a then 1 else 0
theorem cmpI_lt {a b : Int} : cmpI a b < 0 ↔ a < b := by
  unfold cmpI
  split
  · simp [*]
  · split <;> simp [*]
theorem isNaN_any (x : Int) (w : World) : Calls Tryd.prog 34 #[.int .i64 x] w fun e w' => e = .returned (.bool false) ∧ w' = w := by
  go_enter Tryd.func34, Tryd.ntmps34
  repeat' (first | go_values | go_skip | go_guarded | go_step | go_upon | go_back)
  skip
  go_ret
  exact ⟨rfl, rfl⟩
theorem compare_any (x y : Int) (w : World) : Calls Tryd.prog 19 #[.int .i64 x, .int .i64 y] w fun e w' => e = .returned (.int .i64 (cmpI x y)) ∧ w' = w := by
  have HN := hid (fun x w => isNaN_any x w)
  obtain ⟨r, hr⟩ : ∃ r, r = cmpI x y := ⟨_, rfl⟩
  rw [← hr]
  unfold cmpI at hr
  have Hr := hid hr
  clear hr
  go_enter Tryd.func19, Tryd.ntmps19
  rcases Int.lt_trichotomy x y with h | h | h
  · have h1 : ¬ y < x := by omega
    have hq : r = -1 := Hr.out.trans (if_pos h)
    have Hq := hid hq
    clear hq Hr
    repeat' (first | (go_at_call 34; go_must ((with_reducible refine Calls.mono (HN.out _ _) ?_); rintro _ w2 ⟨rfl, rfl⟩; dsimp only)) | go_values | go_skip | go_guarded | go_step | go_upon | go_back)
    skip
    go_ret
    exact ⟨by rw [Hq.out]; rfl, rfl⟩
  · subst h
    have hq : r = 0 := Hr.out.trans ((if_neg (Int.lt_irrefl _)).trans (if_neg (Int.lt_irrefl _)))
    have Hq := hid hq
    clear hq Hr
    repeat' (first | (go_at_call 34; go_must ((with_reducible refine Calls.mono (HN.out _ _) ?_); rintro _ w2 ⟨rfl, rfl⟩; dsimp only)) | go_values | go_skip | go_guarded | go_step | go_upon | go_back)
    skip
    go_ret
    exact ⟨by rw [Hq.out]; rfl, rfl⟩
  · have h1 : ¬ x < y := by omega
    have hq : r = 1 := Hr.out.trans ((if_neg h1).trans (if_pos h))
    have Hq := hid hq
    clear hq Hr
    repeat' (first | (go_at_call 34; go_must ((with_reducible refine Calls.mono (HN.out _ _) ?_); rintro _ w2 ⟨rfl, rfl⟩; dsimp only)) | go_values | go_skip | go_guarded | go_step | go_upon | go_back)
    skip
    go_ret
    exact ⟨by rw [Hq.out]; rfl, rfl⟩
set_option maxRecDepth 50000 in
theorem scmp_any (x y : Pl) (w : World) : Calls Tryd.prog 18 #[x.agg, y.agg] w fun e w' => e = .returned (.int .i64 (cmpI x.p y.p)) ∧ Below w.heap.size w w' := by
  have HC := hid (fun x y w => compare_any x y w)
  have e1 : Below w.heap.size w (w.alloc (.cells #[.bool x.a.front, .int .i64 x.a.id.epoch, .int .i64 x.a.id.rep, .int .i64 x.a.id.num, .int .i64 x.p] 60)) := balloc (Below.refl _ _)
  have e2 : Below w.heap.size w ((w.alloc (.cells #[.bool x.a.front, .int .i64 x.a.id.epoch, .int .i64 x.a.id.rep, .int .i64 x.a.id.num, .int .i64 x.p] 60)).alloc (.cells #[.bool y.a.front, .int .i64 y.a.id.epoch, .int .i64 y.a.id.rep, .int .i64 y.a.id.num, .int .i64 y.p] 60)) := balloc e1
  unfold Pl.agg
  go_enter Tryd.func18, Tryd.ntmps18
  repeat' (first | (go_at_call 19; go_must ((with_reducible refine Calls.mono (HC.out _ _ _) ?_); rintro _ w2 ⟨rfl, rfl⟩; dsimp only)) | go_values | go_skip | go_guarded | go_step | go_upon | go_back)
  skip
  go_ret
  exact ⟨rfl, e2⟩
theorem insS {L X X1 X2 : List Pl} {y : Pl} {t : Nat} (hL : L[t]? = some y) (hs : StSort Pl.p (L.take t) X) (hX : X = X1 ++ X2) (h2 : ∀ z ∈ X2, y.p < z.p) (h1 : ∀ z ∈ X1, z.p ≤ y.p) : StSort Pl.p (L.take (t + 1)) (X1 ++ y :: X2) := by
  subst hX
  rw [take_at hL]
  exact hs.ahead (StSort.up hs.ord h1 h2)
set_option maxRecDepth 50000 in
set_option maxHeartbeats 8000000 in
theorem insertion_any (w : World) (base g n c a b : Nat) (P L Q : List Pl) (h : PR w base g n c (P ++ (L ++ Q))) (hb : base ≤ w.heap.size) (hn : n ≤ 1048576) (ha : a = P.length) (hbL : b = a + L.length) :
    Calls Tryd.prog 59 #[.slice (some ⟨g, 0, none⟩) n c, .int .i64 a, .int .i64 b, .func (.func 18) #[] #[]] w fun e w' => e = .returned (.tuple #[]) ∧ (∃ X, StSort Pl.p L X ∧ PR w' base g n c (P ++ (X ++ Q))) ∧ Out (fun k => k = g) w w' := by
  have hl := h.1
  simp only [List.length_append] at hl
  have H0 := hid h
  have HA := hid (And.intro ha (And.intro hbL hl))
  have HC0 := hid (fun x y W => scmp_any x y W)
  have haB : a ≤ 1048576 := by omega
  have hbB : b ≤ 1048576 := by omega
  clear h ha hbL hl
  go_enter Tryd.func59, Tryd.ntmps59
  repeat' (first | go_values | go_skip | go_guarded | go_step | go_upon | go_back)
  go_loopw [8] (fun i wr => ∃ (q t : Nat) (X : List Pl), i = .int .i64 q ∧ q = a + t ∧ 1 ≤ t ∧ (t = 1 ∨ t ≤ L.length) ∧ StSort Pl.p (L.take t) X ∧ PR wr base g n c (P ++ (X ++ (L.drop t ++ Q))) ∧ Out (fun k => k = g) w wr) (fun i _ => b - (intOf i).toNat)
  case atStart =>
    refine ⟨a + 1, 1, L.take 1, by go_num, rfl, Nat.le_refl _, .inl rfl, ?_, ?_, Out.refl _ _⟩
    · rcases L with _ | ⟨x, L⟩
      · exact StSort.refl .nil
      · exact StSort.refl (by simp)
    · rw [← List.append_assoc (L.take 1), List.take_append_drop]
      exact H0.out
  case round =>
    clear H0
    obtain ⟨q, t, X, rfl, hq, ht1, htL, hsX, hown, hO⟩ := hrel
    by_cases hlt : q < b
    · obtain ⟨ha, hbL, hl⟩ := HA.out
      have htl : t < L.length := by omega
      have hXl := hsX.length
      rw [List.length_take] at hXl
      obtain ⟨y, hy⟩ : ∃ y, L[t]? = some y := ⟨_, List.getElem?_eq_getElem htl⟩
      have hqb : (q : Int) < b := by omega
      have hqB : q ≤ 1048576 := by omega
      have HT := hid (And.intro hq (And.intro htl (And.intro hXl (And.intro hsX hy))))
      rw [drop_at hy] at hown
      have Hown := hid hown
      clear hq ht1 htL hsX hown ha hbL hl htl hXl hy
      repeat' (first | go_values | go_skip | go_guarded | go_step | go_upon | go_back)
      go_loopw [9] (fun j wr => ∃ (r s : Nat) (X1 X2 : List Pl), j = .int .i64 r ∧ r = a + s ∧ s = X1.length ∧ X = X1 ++ X2 ∧ (∀ z ∈ X2, y.p < z.p) ∧ PR wr base g n c ((P ++ X1) ++ (y :: (X2 ++ (L.drop (t + 1) ++ Q)))) ∧ Out (fun k => k = g) w wr) (fun j _ => (intOf j).toNat)
      case atStart =>
        obtain ⟨hq, htl, hXl, hsX, hy⟩ := HT.out
        exact ⟨q, t, X, [], rfl, hq, by omega, by simp, by simp, by simpa using Hown.out, hO⟩
      case round =>
        clear Hown hO
        obtain ⟨r, s, X1, X2, rfl, hr, hs, hX, h2, hown, hO⟩ := hrel
        obtain ⟨hq, htl, hXl, hsX, hy⟩ := HT.out
        obtain ⟨ha, hbL, hl⟩ := HA.out
        have hrB : r ≤ 1048576 := by
          have := congrArg List.length hX
          rw [List.length_append] at this
          omega
        have hqI : (q : Int) + 1 = ((q + 1 : Nat) : Int) := rfl
        rcases Nat.eq_zero_or_pos s with h0 | h0
        · have hra : ¬ (r : Int) > a := by omega
          have hX1 : X1 = [] := List.eq_nil_of_length_eq_zero (by omega)
          subst hX1
          have Hw := hid hown
          have Hi := hid (insS hy hsX hX h2 (by simp))
          have Hq := hid hq
          have Htl := hid htl
          clear hown hq htl hXl hsX hy ha hbL hl hr hs hX h2 h0 hqI
          repeat' (first | ((with_reducible refine region_at 4 ?_); refine wp_region_ordT (fun _ => True) (.one 0 true false (.one 1 true false (.one 2 true false (.one 3 true false (.one 4 true false (.one 5 true false (.one 6 true false (.one 7 true false (.one 8 true false (.one 9 true false (.one 10 true false (.one 11 true false (.one 12 true false (.one 13 true false (.one 14 false false (.one 15 true false (.one 16 true false .nil))))))))))))))))) (by kernel_rfl) (by kernel_rfl) (by kernel_rfl) rfl rfl ?_) | (with_reducible refine Keep.last ?_) | (with_reducible refine Keep.below (by assumption) ?_) | (with_reducible refine Keep.kept (by assumption) ?_) | (with_reducible refine Keep.alloc ?_) | (with_reducible refine Keep.same ?_) | ((with_reducible refine WpH.here ?_); first | (refine WpH.nil ?_; refine NoP.normal ?_) | (refine WpH.load (by rfl) (by rfl) (by go_simp; rfl) ?_; simp only [Act.put, List.setIfInBounds_toArray, List.set_cons_zero, List.set_cons_succ]) | (refine WpH.loadT (by rfl) (by rfl) (by go_simp; rfl) (by rintro _ _ ⟨⟩; exact ⟨_, _, _, _, _, _, by rfl, by assumption, by assumption⟩) ?_; simp only [Act.put, List.setIfInBounds_toArray, List.set_cons_zero, List.set_cons_succ]) | (refine WpH.pure (by rfl) (fun w_ => by go_simp; (try go_bits); rfl) ?_; simp only [Act.put, List.setIfInBounds_toArray, List.set_cons_zero, List.set_cons_succ]) | (refine WpH.wild1 (by rfl) (fun _ _ => ?_)) | (refine WpH.skip (by rfl) ?_; simp only [Act.put, List.setIfInBounds_toArray, List.set_cons_zero, List.set_cons_succ])) | ((with_reducible refine WpO.here ?_); first | (refine WpO.done ?_; first | refine NoP.normal ?_ | refine NoO.normal ?_) | (refine WpO.load (by rfl) (by rfl) (by go_simp; rfl) ?_; simp only [Act.put, List.setIfInBounds_toArray, List.set_cons_zero, List.set_cons_succ]) | (refine WpO.loadT (by rfl) (by rfl) (by go_simp; rfl) (by rintro _ _ ⟨⟩; exact ⟨_, _, _, _, _, _, by rfl, by assumption, by assumption⟩) ?_; simp only [Act.put, List.setIfInBounds_toArray, List.set_cons_zero, List.set_cons_succ]) | (refine WpO.pure (by rfl) (fun w_ => by go_simp; (try go_bits); rfl) ?_; simp only [Act.put, List.setIfInBounds_toArray, List.set_cons_zero, List.set_cons_succ]) | (refine WpO.skip (by rfl) ?_; simp only [Act.put, List.setIfInBounds_toArray, List.set_cons_zero, List.set_cons_succ]) | refine WpO.wild ?_ | refine WpO.two ?_ ?_ | refine WpO.three ?_ ?_ ?_) | ((with_reducible refine wildO.here ?_); first | (refine wildO.go (by rfl) (fun _ _ => ?_)) | (refine wildO.skip (by rfl) ?_; simp only [Act.put, List.setIfInBounds_toArray, List.set_cons_zero, List.set_cons_succ])) | go_values | go_skip | go_guarded | go_step | go_upon | go_back)
          skip
          go_roundw
          case rel => exact ⟨q + 1, t + 1, _, by go_num, by have := Hq.out; omega, by omega, .inr Htl.out, Hi.out, by simpa using PR.drew Hw.out, hO.drewS⟩
          case measure => simp [intOf]; omega
        · have hra : (r : Int) > a := by omega
          obtain ⟨X1', z, rfl⟩ : ∃ X1' z, X1 = X1' ++ [z] := ⟨X1.dropLast, X1.getLast (by intro e; subst e; simp at hs; omega), (List.dropLast_concat_getLast _).symm⟩
          obtain ⟨p, hp⟩ : ∃ p, p = r - 1 := ⟨_, rfl⟩
          have hpI : (r : Int) - 1 = (p : Int) := by omega
          rw [List.length_append, List.length_singleton] at hs
          have eq1 : ((P ++ (X1' ++ [z])) ++ (y :: (X2 ++ (L.drop (t + 1) ++ Q))))[r]? = some y := by
            have := get_mid (P ++ (X1' ++ [z])) (X2 ++ (L.drop (t + 1) ++ Q)) y
            rwa [show (P ++ (X1' ++ [z])).length = r from by simp; omega] at this
          have ep1 : ((P ++ (X1' ++ [z])) ++ (y :: (X2 ++ (L.drop (t + 1) ++ Q))))[p]? = some z := by
            have := get_mid (P ++ X1') (y :: (X2 ++ (L.drop (t + 1) ++ Q))) z
            rw [show (P ++ X1').length = p from by simp; omega] at this
            simpa using this
          have es : (((P ++ (X1' ++ [z])) ++ (y :: (X2 ++ (L.drop (t + 1) ++ Q)))).set r z).set p y = (P ++ X1') ++ (y :: ((z :: X2) ++ (L.drop (t + 1) ++ Q))) := by
            have e1 := set_mid (P ++ (X1' ++ [z])) (X2 ++ (L.drop (t + 1) ++ Q)) y z
            rw [show (P ++ (X1' ++ [z])).length = r from by simp; omega] at e1
            have e2 := set_mid (P ++ X1') (z :: (X2 ++ (L.drop (t + 1) ++ Q))) z y
            rw [show (P ++ X1').length = p from by simp; omega] at e2
            rw [e1, show (P ++ (X1' ++ [z])) ++ z :: (X2 ++ (L.drop (t + 1) ++ Q)) = (P ++ X1') ++ z :: (z :: (X2 ++ (L.drop (t + 1) ++ Q))) from by simp, e2]
            rfl
          have hown' := PR.drew hown
          have yr := hown'.at5 eq1
          have zp := hown'.at5 ep1
          obtain ⟨hrn, hbg, hgl⟩ := hown'.lt eq1
          have hpn := (hown'.lt ep1).1
          have hrI : (r : Int) < n := by omega
          have hpnI : (p : Int) < n := by omega
          have HC := hid (fun W => HC0.out y z W)
          unfold Pl.agg at HC
          have hcm := cmpI_lt (a := y.p) (b := z.p)
          generalize cmpI y.p z.p = v at *
          have y0 := yr.c0; have y1 := yr.c1; have y2 := yr.c2; have y3 := yr.c3; have y4 := yr.c4; have e0 := yr.f 0; have e1 := yr.f 1; have e2 := yr.f 2; have e3 := yr.f 3; have e4 := yr.f 4; rw [Nat.add_zero] at e0
          have z0 := zp.c0; have z1 := zp.c1; have z2 := zp.c2; have z3 := zp.c3; have z4 := zp.c4; have f0 := zp.f 0; have f1 := zp.f 1; have f2 := zp.f 2; have f3 := zp.f 3; have f4 := zp.f 4; rw [Nat.add_zero] at f0
          have Hw := hid hown
          have Hg := hid (And.intro eq1 (And.intro ep1 (And.intro es (And.intro hrn hpn))))
          have Hh := hid (And.intro hr (And.intro hs (And.intro hX (And.intro h2 hp))))
          have Hq := hid (And.intro hq (And.intro htl (And.intro hXl (And.intro hsX hy))))
          clear yr zp hown hown' eq1 ep1 es hr hs hX h2 hp hq htl hXl hsX hy ha hbL hl h0 hrn hpn hqI
          by_cases hv : v < 0
          · have hlt' := hcm.1 hv
            have Hv := hid hlt'
            clear hlt' hcm
            repeat' (first | ((with_reducible refine region_at 4 ?_); refine wp_region_ordT (fun _ => True) (.one 0 true false (.one 1 true false (.one 2 true false (.one 3 true false (.one 4 true false (.one 5 true false (.one 6 true false (.one 7 true false (.one 8 true false (.one 9 true false (.one 10 true false (.one 11 true false (.one 12 true false (.one 13 true false (.one 14 false false (.one 15 true false (.one 16 true false .nil))))))))))))))))) (by kernel_rfl) (by kernel_rfl) (by kernel_rfl) rfl rfl ?_) | (go_at_call 18; go_must ((with_reducible refine Calls.mono (HC.out _) ?_); rintro _ w2 ⟨rfl, hb2⟩; dsimp only)) | (with_reducible refine stop_region 6 ?_) | (with_reducible refine Keep.last ?_) | (with_reducible refine Keep.below (by assumption) ?_) | (with_reducible refine Keep.kept (by assumption) ?_) | (with_reducible refine Keep.alloc ?_) | (with_reducible refine Keep.same ?_) | ((with_reducible refine WpH.here ?_); first | (refine WpH.nil ?_; refine NoP.normal ?_) | (refine WpH.load (by rfl) (by rfl) (by go_simp; rfl) ?_; simp only [Act.put, List.setIfInBounds_toArray, List.set_cons_zero, List.set_cons_succ]) | (refine WpH.loadT (by rfl) (by rfl) (by go_simp; rfl) (by rintro _ _ ⟨⟩; exact ⟨_, _, _, _, _, _, by rfl, by assumption, by assumption⟩) ?_; simp only [Act.put, List.setIfInBounds_toArray, List.set_cons_zero, List.set_cons_succ]) | (refine WpH.pure (by rfl) (fun w_ => by go_simp; (try go_bits); rfl) ?_; simp only [Act.put, List.setIfInBounds_toArray, List.set_cons_zero, List.set_cons_succ]) | (refine WpH.wild1 (by rfl) (fun _ _ => ?_)) | (refine WpH.skip (by rfl) ?_; simp only [Act.put, List.setIfInBounds_toArray, List.set_cons_zero, List.set_cons_succ])) | ((with_reducible refine WpO.here ?_); first | (refine WpO.done ?_; first | refine NoP.normal ?_ | refine NoO.normal ?_) | (refine WpO.load (by rfl) (by rfl) (by go_simp; rfl) ?_; simp only [Act.put, List.setIfInBounds_toArray, List.set_cons_zero, List.set_cons_succ]) | (refine WpO.loadT (by rfl) (by rfl) (by go_simp; rfl) (by rintro _ _ ⟨⟩; exact ⟨_, _, _, _, _, _, by rfl, by assumption, by assumption⟩) ?_; simp only [Act.put, List.setIfInBounds_toArray, List.set_cons_zero, List.set_cons_succ]) | (refine WpO.pure (by rfl) (fun w_ => by go_simp; (try go_bits); rfl) ?_; simp only [Act.put, List.setIfInBounds_toArray, List.set_cons_zero, List.set_cons_succ]) | (refine WpO.skip (by rfl) ?_; simp only [Act.put, List.setIfInBounds_toArray, List.set_cons_zero, List.set_cons_succ]) | refine WpO.wild ?_ | refine WpO.two ?_ ?_ | refine WpO.three ?_ ?_ ?_) | ((with_reducible refine wildO.here ?_); first | (refine wildO.go (by rfl) (fun _ _ => ?_)) | (refine wildO.skip (by rfl) ?_; simp only [Act.put, List.setIfInBounds_toArray, List.set_cons_zero, List.set_cons_succ])) | go_values | go_skip | go_guarded | go_step | go_upon | go_back)
            refine Stop.go ?_
            have hown2 := PR.step (PR.drew Hw.out) hb2
            have hO2 : Out (fun k => k = g) w w2 := hO.drewS.trans (Out.of_below (S := fun k => k = g) hb2) fun _ _ h => h
            clear y0 y1 y2 y3 y4 e0 e1 e2 e3 e4 z0 z1 z2 z3 z4 f0 f1 f2 f3 f4
            obtain ⟨eq1, ep1, es, hrn, hpn⟩ := Hg.out
            have hown2' := PR.drew hown2
            have yr := hown2'.at5 eq1
            have zp := hown2'.at5 ep1
            have yr' := hown2.at5 eq1
            have zp' := hown2.at5 ep1
            have hgl2 := (hown2.lt eq1).2.2
            have hpq : ¬ p = r := by have := Hh.out.2.2.2.2; have := Hh.out.1; have := Hh.out.2.1; omega
            have hpq2 : ¬ r = p := fun e => hpq e.symm
            have hpq3 : ¬ p * 5 = r * 5 := by omega
            have hpq4 : ¬ r * 5 = p * 5 := by omega
            have y0 := yr.c0; have y1 := yr.c1; have y2 := yr.c2; have y3 := yr.c3; have y4 := yr.c4; have e0 := yr.f 0; have e1 := yr.f 1; have e2 := yr.f 2; have e3 := yr.f 3; have e4 := yr.f 4; rw [Nat.add_zero] at e0
            have z0 := zp.c0; have z1 := zp.c1; have z2 := zp.c2; have z3 := zp.c3; have z4 := zp.c4; have f0 := zp.f 0; have f1 := zp.f 1; have f2 := zp.f 2; have f3 := zp.f 3; have f4 := zp.f 4; rw [Nat.add_zero] at f0
            have u0 := yr'.c0; have u1 := yr'.c1; have u2 := yr'.c2; have u3 := yr'.c3; have u4 := yr'.c4; have r0 := yr'.f 0; have r1 := yr'.f 1; have r2 := yr'.f 2; have r3 := yr'.f 3; have r4 := yr'.f 4; rw [Nat.add_zero] at r0
            have v0 := zp'.c0; have v1 := zp'.c1; have v2 := zp'.c2; have v3 := zp'.c3; have v4 := zp'.c4; have s0 := zp'.f 0; have s1 := zp'.f 1; have s2 := zp'.f 2; have s3 := zp'.f 3; have s4 := zp'.f 4; rw [Nat.add_zero] at s0
            have Hes := hid es
            have Hw2 := hid hown2
            have Hp := hid (And.intro hrn hpn)
            clear yr zp yr' zp' eq1 ep1 es hown2 hown2' hrn hpn hb2 HC hv
            repeat' (first | ((with_reducible refine region_at 6 ?_); refine wp_region_order [(0, true, false), (1, true, false), (2, true, false), (3, true, false), (4, true, false), (5, true, false), (6, true, false), (7, true, false), (8, true, false), (9, true, false), (10, true, false), (11, true, false), (12, true, false), (13, true, false), (14, true, false), (15, false, true), (16, true, false), (17, false, true)] (by kernel_rfl) (by kernel_rfl) (by kernel_rfl) rfl rfl ?_) | (with_reducible refine Keep.last ?_) | (with_reducible refine Keep.below (by assumption) ?_) | (with_reducible refine Keep.kept (by assumption) ?_) | (with_reducible refine Keep.alloc ?_) | (with_reducible refine Keep.same ?_) | ((with_reducible refine WpH.here ?_); first | (refine WpH.nil ?_; refine NoP.normal ?_) | (refine WpH.load (by rfl) (by rfl) (by go_simp; rfl) ?_; simp only [Act.put, List.setIfInBounds_toArray, List.set_cons_zero, List.set_cons_succ]) | (refine WpH.loadT (by rfl) (by rfl) (by go_simp; rfl) (by rintro _ _ ⟨⟩; exact ⟨_, _, _, _, _, _, by rfl, by assumption, by assumption⟩) ?_; simp only [Act.put, List.setIfInBounds_toArray, List.set_cons_zero, List.set_cons_succ]) | (refine WpH.pure (by rfl) (fun w_ => by go_simp; (try go_bits); rfl) ?_; simp only [Act.put, List.setIfInBounds_toArray, List.set_cons_zero, List.set_cons_succ]) | (refine WpH.wild1 (by rfl) (fun _ _ => ?_)) | (refine WpH.skip (by rfl) ?_; simp only [Act.put, List.setIfInBounds_toArray, List.set_cons_zero, List.set_cons_succ])) | ((with_reducible refine WpO.here ?_); first | (refine WpO.done ?_; first | refine NoP.normal ?_ | refine NoO.normal ?_) | (refine WpO.load (by rfl) (by rfl) (by go_simp; rfl) ?_; simp only [Act.put, List.setIfInBounds_toArray, List.set_cons_zero, List.set_cons_succ]) | (refine WpO.loadT (by rfl) (by rfl) (by go_simp; rfl) (by rintro _ _ ⟨⟩; exact ⟨_, _, _, _, _, _, by rfl, by assumption, by assumption⟩) ?_; simp only [Act.put, List.setIfInBounds_toArray, List.set_cons_zero, List.set_cons_succ]) | (refine WpO.pure (by rfl) (fun w_ => by go_simp; (try go_bits); rfl) ?_; simp only [Act.put, List.setIfInBounds_toArray, List.set_cons_zero, List.set_cons_succ]) | (refine WpO.skip (by rfl) ?_; simp only [Act.put, List.setIfInBounds_toArray, List.set_cons_zero, List.set_cons_succ]) | refine WpO.wild ?_ | refine WpO.two ?_ ?_ | refine WpO.three ?_ ?_ ?_) | ((with_reducible refine wildO.here ?_); first | (refine wildO.go (by rfl) (fun _ _ => ?_)) | (refine wildO.skip (by rfl) ?_; simp only [Act.put, List.setIfInBounds_toArray, List.set_cons_zero, List.set_cons_succ])) | go_values | go_skip | go_guarded | go_step | go_upon | go_back)
            skip
            go_roundw
            case rel =>
              obtain ⟨hr, hs, hX, h2, hp⟩ := Hh.out
              obtain ⟨hrn, hpn⟩ := Hp.out
              refine ⟨p, X1'.length, X1', z :: X2, by go_num, by omega, rfl, by rw [hX]; simp, ?_, by rw [← Hes.out]; exact PR.drew ((Hw2.out.set5 z hrn).set5 y hpn), ((hO2.set5 r z).set5 p y).drewS⟩
              intro x hx
              rcases List.mem_cons.1 hx with rfl | hx
              · exact Hv.out
              · exact h2 x hx
            case measure =>
              have := Hh.out.1
              have := Hh.out.2.1
              have := Hh.out.2.2.2.2
              simp [intOf]; omega
          · have hge : z.p ≤ y.p := by
              have := mt hcm.2 hv
              omega
            have Hv := hid hge
            clear hge hcm
            repeat' (first | ((with_reducible refine region_at 4 ?_); refine wp_region_ordT (fun _ => True) (.one 0 true false (.one 1 true false (.one 2 true false (.one 3 true false (.one 4 true false (.one 5 true false (.one 6 true false (.one 7 true false (.one 8 true false (.one 9 true false (.one 10 true false (.one 11 true false (.one 12 true false (.one 13 true false (.one 14 false false (.one 15 true false (.one 16 true false .nil))))))))))))))))) (by kernel_rfl) (by kernel_rfl) (by kernel_rfl) rfl rfl ?_) | (go_at_call 18; go_must ((with_reducible refine Calls.mono (HC.out _) ?_); rintro _ w2 ⟨rfl, hb2⟩; dsimp only)) | (with_reducible refine Keep.last ?_) | (with_reducible refine Keep.below (by assumption) ?_) | (with_reducible refine Keep.kept (by assumption) ?_) | (with_reducible refine Keep.alloc ?_) | (with_reducible refine Keep.same ?_) | ((with_reducible refine WpH.here ?_); first | (refine WpH.nil ?_; refine NoP.normal ?_) | (refine WpH.load (by rfl) (by rfl) (by go_simp; rfl) ?_; simp only [Act.put, List.setIfInBounds_toArray, List.set_cons_zero, List.set_cons_succ]) | (refine WpH.loadT (by rfl) (by rfl) (by go_simp; rfl) (by rintro _ _ ⟨⟩; exact ⟨_, _, _, _, _, _, by rfl, by assumption, by assumption⟩) ?_; simp only [Act.put, List.setIfInBounds_toArray, List.set_cons_zero, List.set_cons_succ]) | (refine WpH.pure (by rfl) (fun w_ => by go_simp; (try go_bits); rfl) ?_; simp only [Act.put, List.setIfInBounds_toArray, List.set_cons_zero, List.set_cons_succ]) | (refine WpH.wild1 (by rfl) (fun _ _ => ?_)) | (refine WpH.skip (by rfl) ?_; simp only [Act.put, List.setIfInBounds_toArray, List.set_cons_zero, List.set_cons_succ])) | ((with_reducible refine WpO.here ?_); first | (refine WpO.done ?_; first | refine NoP.normal ?_ | refine NoO.normal ?_) | (refine WpO.load (by rfl) (by rfl) (by go_simp; rfl) ?_; simp only [Act.put, List.setIfInBounds_toArray, List.set_cons_zero, List.set_cons_succ]) | (refine WpO.loadT (by rfl) (by rfl) (by go_simp; rfl) (by rintro _ _ ⟨⟩; exact ⟨_, _, _, _, _, _, by rfl, by assumption, by assumption⟩) ?_; simp only [Act.put, List.setIfInBounds_toArray, List.set_cons_zero, List.set_cons_succ]) | (refine WpO.pure (by rfl) (fun w_ => by go_simp; (try go_bits); rfl) ?_; simp only [Act.put, List.setIfInBounds_toArray, List.set_cons_zero, List.set_cons_succ]) | (refine WpO.skip (by rfl) ?_; simp only [Act.put, List.setIfInBounds_toArray, List.set_cons_zero, List.set_cons_succ]) | refine WpO.wild ?_ | refine WpO.two ?_ ?_ | refine WpO.three ?_ ?_ ?_) | ((with_reducible refine wildO.here ?_); first | (refine wildO.go (by rfl) (fun _ _ => ?_)) | (refine wildO.skip (by rfl) ?_; simp only [Act.put, List.setIfInBounds_toArray, List.set_cons_zero, List.set_cons_succ])) | go_values | go_skip | go_guarded | go_step | go_upon | go_back)
            have hown2 := PR.step (PR.drew Hw.out) hb2
            have hO2 : Out (fun k => k = g) w w2 := hO.drewS.trans (Out.of_below (S := fun k => k = g) hb2) fun _ _ h => h
            skip
            go_roundw
            case rel =>
              obtain ⟨hr, hs, hX, h2, hp⟩ := Hh.out
              obtain ⟨hq, htl, hXl, hsX, hy⟩ := Hq.out
              have hs1 : ∀ x ∈ X1' ++ [z], x.p ≤ y.p := by
                intro x hx
                have ho := hsX.ord
                rw [hX] at ho
                have ho := (List.pairwise_append.1 ho).1
                rcases List.mem_append.1 hx with hx | hx
                · exact Int.le_trans ((List.pairwise_append.1 ho).2.2 x hx z (by simp)) Hv.out
                · rw [List.mem_singleton.1 hx]
                  exact Hv.out
              exact ⟨q + 1, t + 1, _, by go_num, by omega, by omega, .inr htl, insS hy hsX hX h2 hs1, by simpa using hown2, hO2⟩
            case measure => simp [intOf]; omega
    · obtain ⟨ha, hbL, hl⟩ := HA.out
      have hlt' : ¬ (q : Int) < b := by omega
      have Ht := hid (show L.length ≤ t by omega)
      have Hs := hid (And.intro hsX hown)
      clear hsX hown ha hbL hl hq ht1 htL
      repeat' (first | (with_reducible refine Keep.last ?_) | (with_reducible refine Keep.below (by assumption) ?_) | (with_reducible refine Keep.kept (by assumption) ?_) | (with_reducible refine Keep.alloc ?_) | (with_reducible refine Keep.same ?_) | ((with_reducible refine WpH.here ?_); first | (refine WpH.nil ?_; refine NoP.normal ?_) | (refine WpH.load (by rfl) (by rfl) (by go_simp; rfl) ?_; simp only [Act.put, List.setIfInBounds_toArray, List.set_cons_zero, List.set_cons_succ]) | (refine WpH.loadT (by rfl) (by rfl) (by go_simp; rfl) (by rintro _ _ ⟨⟩; exact ⟨_, _, _, _, _, _, by rfl, by assumption, by assumption⟩) ?_; simp only [Act.put, List.setIfInBounds_toArray, List.set_cons_zero, List.set_cons_succ]) | (refine WpH.pure (by rfl) (fun w_ => by go_simp; (try go_bits); rfl) ?_; simp only [Act.put, List.setIfInBounds_toArray, List.set_cons_zero, List.set_cons_succ]) | (refine WpH.wild1 (by rfl) (fun _ _ => ?_)) | (refine WpH.skip (by rfl) ?_; simp only [Act.put, List.setIfInBounds_toArray, List.set_cons_zero, List.set_cons_succ])) | ((with_reducible refine WpO.here ?_); first | (refine WpO.done ?_; first | refine NoP.normal ?_ | refine NoO.normal ?_) | (refine WpO.load (by rfl) (by rfl) (by go_simp; rfl) ?_; simp only [Act.put, List.setIfInBounds_toArray, List.set_cons_zero, List.set_cons_succ]) | (refine WpO.loadT (by rfl) (by rfl) (by go_simp; rfl) (by rintro _ _ ⟨⟩; exact ⟨_, _, _, _, _, _, by rfl, by assumption, by assumption⟩) ?_; simp only [Act.put, List.setIfInBounds_toArray, List.set_cons_zero, List.set_cons_succ]) | (refine WpO.pure (by rfl) (fun w_ => by go_simp; (try go_bits); rfl) ?_; simp only [Act.put, List.setIfInBounds_toArray, List.set_cons_zero, List.set_cons_succ]) | (refine WpO.skip (by rfl) ?_; simp only [Act.put, List.setIfInBounds_toArray, List.set_cons_zero, List.set_cons_succ]) | refine WpO.wild ?_ | refine WpO.two ?_ ?_ | refine WpO.three ?_ ?_ ?_) | ((with_reducible refine wildO.here ?_); first | (refine wildO.go (by rfl) (fun _ _ => ?_)) | (refine wildO.skip (by rfl) ?_; simp only [Act.put, List.setIfInBounds_toArray, List.set_cons_zero, List.set_cons_succ])) | go_values | go_skip | go_guarded | go_step | go_upon | go_back)
      skip
      go_end0
      obtain ⟨hsX, hown⟩ := Hs.out
      rw [List.take_of_length_le Ht.out] at hsX
      rw [List.drop_of_length_le Ht.out] at hown
      exact ⟨rfl, ⟨X, hsX, by simpa using hown⟩, hO⟩
end Go.Proofs.YtnpbbidiloahdaaDoor
namespace Go.Proofs.YtnpbbidiloahdaaDoor
set_option linter.unusedSimpArgs false
set_option linter.unusedVariables false
open Go Go.RowKit
section
variable {α : Type} {key : α → Int}
theorem ord_take {R : List α} {h : Nat} {y z : α} (hR : R.Pairwise fun x y => key x ≤ key y) (hy : R[h]? = some y) (hz : z ∈ R.take (h + 1)) : key z ≤ key y := by
  obtain ⟨i, hi, rfl⟩ := List.mem_iff_getElem.1 hz
  rw [List.length_take] at hi
  obtain ⟨hh, rfl⟩ := List.getElem?_eq_some_iff.1 hy
  rw [List.getElem_take]
  rcases Nat.lt_or_ge i h with hlt | hge
  · exact List.pairwise_iff_getElem.1 hR i h (by omega) hh hlt
  · obtain rfl : i = h := by omega
    exact Int.le_refl _
theorem ord_drop {R : List α} {h : Nat} {y z : α} (hR : R.Pairwise fun x y => key x ≤ key y) (hy : R[h]? = some y) (hz : z ∈ R.drop h) : key y ≤ key z := by
  obtain ⟨i, hi, rfl⟩ := List.mem_iff_getElem.1 hz
  rw [List.length_drop] at hi
  obtain ⟨hh, rfl⟩ := List.getElem?_eq_some_iff.1 hy
  rw [List.getElem_drop]
  rcases Nat.eq_zero_or_pos i with h0 | h0
  · subst h0
    exact Int.le_refl _
  · exact List.pairwise_iff_getElem.1 hR h (h + i) hh (by omega) (by omega)
/-- where one belongs in a row in order: all of the first u are less, all from the v-th on aren't -/
structure Lo (key : α → Int) (R : List α) (x : Int) (U V : Nat) : Prop where
  le : U ≤ V
  len : V ≤ R.length
  lt : ∀ z ∈ R.take U, key z < x
  ge : ∀ z ∈ R.drop V, x ≤ key z
theorem Lo.start (R : List α) (x : Int) : Lo key R x 0 R.length := ⟨Nat.zero_le _, Nat.le_refl _, by simp, by simp⟩
theorem Lo.right {R : List α} {x : Int} {U V h : Nat} {y : α} (H : Lo key R x U V) (hR : R.Pairwise fun x y => key x ≤ key y) (hy : R[h]? = some y) (hV : h < V) (hl : key y < x) : Lo key R x (h + 1) V :=
  ⟨hV, H.len, fun z hz => Int.lt_of_le_of_lt (ord_take hR hy hz) hl, H.ge⟩
theorem Lo.left {R : List α} {x : Int} {U V h : Nat} {y : α} (H : Lo key R x U V) (hR : R.Pairwise fun x y => key x ≤ key y) (hy : R[h]? = some y) (hU : U ≤ h) (hl : x ≤ key y) : Lo key R x U h :=
  ⟨hU, Nat.le_of_lt (List.getElem?_eq_some_iff.1 hy).1, H.lt, fun z hz => Int.le_trans hl (ord_drop hR hy hz)⟩
theorem Lo.sort {R : List α} {x : α} {U : Nat} (H : Lo key R (key x) U U) (hR : R.Pairwise fun x y => key x ≤ key y) : StSort key (x :: R) (R.take U ++ x :: R.drop U) := by
  have := StSort.down (key := key) (x := x) (R1 := R.take U) (R2 := R.drop U) (by rwa [List.take_append_drop]) H.lt H.ge
  rwa [List.take_append_drop] at this
/-- the same from the other side: all of the first u are no more, all from the v-th on are more -/
structure Hi (key : α → Int) (L : List α) (x : Int) (U V : Nat) : Prop where
  le : U ≤ V
  len : V ≤ L.length
  lt : ∀ z ∈ L.take U, key z ≤ x
  ge : ∀ z ∈ L.drop V, x < key z
theorem Hi.start (L : List α) (x : Int) : Hi key L x 0 L.length := ⟨Nat.zero_le _, Nat.le_refl _, by simp, by simp⟩
theorem Hi.right {R : List α} {x : Int} {U V h : Nat} {y : α} (H : Hi key R x U V) (hR : R.Pairwise fun x y => key x ≤ key y) (hy : R[h]? = some y) (hV : h < V) (hl : key y ≤ x) : Hi key R x (h + 1) V :=
  ⟨hV, H.len, fun z hz => Int.le_trans (ord_take hR hy hz) hl, H.ge⟩
theorem Hi.left {R : List α} {x : Int} {U V h : Nat} {y : α} (H : Hi key R x U V) (hR : R.Pairwise fun x y => key x ≤ key y) (hy : R[h]? = some y) (hU : U ≤ h) (hl : x < key y) : Hi key R x U h :=
  ⟨hU, Nat.le_of_lt (List.getElem?_eq_some_iff.1 hy).1, H.lt, fun z hz => Int.lt_of_lt_of_le hl (ord_drop hR hy hz)⟩
theorem Hi.sort {R : List α} {x : α} {U : Nat} (H : Hi key R (key x) U U) (hR : R.Pairwise fun x y => key x ≤ key y) : StSort key (R ++ [x]) (R.take U ++ x :: R.drop U) := by
  have := StSort.up (key := key) (y := x) (L1 := R.take U) (L2 := R.drop U) (by rwa [List.take_append_drop]) H.lt H.ge
  rwa [List.take_append_drop] at this
/-- the cut through two rows in order: the first s of the one with the first K - s of the other -/
structure Cut2 (key : α → Int) (L R : List α) (K s t : Nat) : Prop where
  le : s ≤ t
  tk : t ≤ K
  tl : t ≤ L.length
  rs : K ≤ s + R.length
  lo : ∀ x ∈ L.take s, ∀ y ∈ R.drop (K - s), key x ≤ key y
  hi : ∀ y ∈ R.take (K - t), ∀ x ∈ L.drop t, key y < key x
theorem Cut2.start {L R : List α} {K : Nat} (hK : K ≤ L.length + R.length) : Cut2 key L R K (K - R.length) (min K L.length) := by
  refine ⟨by omega, by omega, by omega, by omega, fun x hx y hy => ?_, fun y hy x hx => ?_⟩
  · exfalso
    rcases Nat.lt_or_ge R.length K with h | h
    · rw [show K - (K - R.length) = R.length from by omega, List.drop_length] at hy
      cases hy
    · rw [show K - R.length = 0 from by omega, List.take_zero] at hx
      cases hx
  · exfalso
    rcases Nat.lt_or_ge L.length K with h | h
    · rw [Nat.min_eq_right (by omega), List.drop_length] at hx
      cases hx
    · rw [Nat.min_eq_left (by omega), Nat.sub_self, List.take_zero] at hy
      cases hy
theorem Cut2.right {L R : List α} {K s t c : Nat} {x y : α} (H : Cut2 key L R K s t) (hL : L.Pairwise fun x y => key x ≤ key y) (hR : R.Pairwise fun x y => key x ≤ key y) (h1 : s ≤ c) (h2 : c < t) (hx : L[c]? = some x) (hy : R[K - 1 - c]? = some y) (h : key x ≤ key y) : Cut2 key L R K (c + 1) t := by
  have := H.rs
  refine ⟨h2, H.tk, H.tl, by omega, fun x' hx' y' hy' => ?_, H.hi⟩
  have e : K - (c + 1) = K - 1 - c := by omega
  rw [e] at hy'
  exact Int.le_trans (ord_take hL hx hx') (Int.le_trans h (ord_drop hR hy hy'))
theorem Cut2.left {L R : List α} {K s t c : Nat} {x y : α} (H : Cut2 key L R K s t) (hL : L.Pairwise fun x y => key x ≤ key y) (hR : R.Pairwise fun x y => key x ≤ key y) (h1 : s ≤ c) (h2 : c < t) (hx : L[c]? = some x) (hy : R[K - 1 - c]? = some y) (h : key y < key x) : Cut2 key L R K s c := by
  have := H.tk
  have := H.tl
  refine ⟨h1, by omega, by omega, H.rs, H.lo, fun y' hy' x' hx' => ?_⟩
  have e : K - c = (K - 1 - c) + 1 := by omega
  rw [e] at hy'
  exact Int.lt_of_le_of_lt (ord_take hR hy hy') (Int.lt_of_lt_of_le h (ord_drop hL hx hx'))
/-- both sides sorted, the whole is -/
theorem Cut2.sort {L R X1 X2 : List α} {K s : Nat} (H : Cut2 key L R K s s) (hL : L.Pairwise fun x y => key x ≤ key y) (hR : R.Pairwise fun x y => key x ≤ key y) (h1 : StSort key (L.take s ++ R.take (K - s)) X1) (h2 : StSort key (L.drop s ++ R.drop (K - s)) X2) : StSort key (L ++ R) (X1 ++ X2) := by
  have pl := hL
  have pr := hR
  rw [← List.take_append_drop s L] at pl
  rw [← List.take_append_drop (K - s) R] at pr
  have := StSort.halves (key := key) h1 h2 (List.pairwise_append.1 pl).2.2 (List.pairwise_append.1 pr).2.2 H.lo H.hi
  rwa [List.take_append_drop, List.take_append_drop] at this
end
end Go.Proofs.YtnpbbidiloahdaaDoor
