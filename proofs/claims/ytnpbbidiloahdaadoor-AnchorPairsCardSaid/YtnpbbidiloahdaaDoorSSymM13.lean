/- A merge by halves of two rows in order: the walk of symMergeCmpFunc. Conditions: the row is the call's own. -/
import Derived.Test.YtnpbbidiloahdaaDoorP18
namespace Go.Proofs.YtnpbbidiloahdaaDoor
set_option linter.unusedSimpArgs false
set_option linter.unusedVariables false
open Go Go.RowKit
def SymOk (N : Nat) : Prop := ∀ (w : World) (base g n c a m b : Nat) (P L R Q : List Pl), PR w base g n c (P ++ (L ++ (R ++ Q))) → base ≤ w.heap.size → n ≤ 1048576 → a = P.length → m = a + L.length → b = m + R.length → 0 < L.length → 0 < R.length → (L.Pairwise fun x y => x.p ≤ y.p) → (R.Pairwise fun x y => x.p ≤ y.p) → b ≤ a + N →
    Calls Tryd.prog 60 #[.slice (some ⟨g, 0, none⟩) n c, .int .i64 a, .int .i64 m, .int .i64 b, .func (.func 18) #[] #[]] w fun e w' => e = .returned (.tuple #[]) ∧ (∃ X, StSort Pl.p (L ++ R) X ∧ PR w' base g n c (P ++ (X ++ Q))) ∧ Out (fun k => k = g) w w'
theorem pw_take {L : List Pl} {s : Nat} (h : L.Pairwise fun x y => x.p ≤ y.p) : (L.take s).Pairwise fun x y => x.p ≤ y.p := h.sublist (List.take_sublist _ _)
theorem pw_drop {L : List Pl} {s : Nat} (h : L.Pairwise fun x y => x.p ≤ y.p) : (L.drop s).Pairwise fun x y => x.p ≤ y.p := h.sublist (List.drop_sublist _ _)
/-- the two rows cut in two -/
structure Four (P L R Q L1 L2 R1 R2 : List Pl) (a u m e b md : Nat) : Prop where
  eq : P ++ (L ++ (R ++ Q)) = (P ++ L1) ++ (L2 ++ (R1 ++ (R2 ++ Q)))
  ha : a = P.length
  hu : u = a + L1.length
  hm : m = u + L2.length
  he : e = m + R1.length
  hb : b = e + R2.length
  hd : md = u + R1.length
  p1 : L1.Pairwise fun x y => x.p ≤ y.p
  p2 : L2.Pairwise fun x y => x.p ≤ y.p
  q1 : R1.Pairwise fun x y => x.p ≤ y.p
  q2 : R2.Pairwise fun x y => x.p ≤ y.p
  srt : ∀ X1 X2, StSort Pl.p (L1 ++ R1) X1 → StSort Pl.p (L2 ++ R2) X2 → StSort Pl.p (L ++ R) (X1 ++ X2)
theorem four_of {P L R Q : List Pl} {a u m e b md K s : Nat} (ha : a = P.length) (hm : m = a + L.length) (hb : b = m + R.length) (hK : md = a + K) (hu : u = a + s) (he : e = m + (K - s)) (H : Cut2 Pl.p L R K s s) (hL : L.Pairwise fun x y => x.p ≤ y.p) (hR : R.Pairwise fun x y => x.p ≤ y.p) : ∃ L1 L2 R1 R2, Four P L R Q L1 L2 R1 R2 a u m e b md := by
  have h1 := H.tk
  have h2 := H.tl
  have h3 := H.rs
  refine ⟨L.take s, L.drop s, R.take (K - s), R.drop (K - s), ?_, ha, by simp; omega, by simp; omega, by simp; omega, by simp; omega, by simp; omega, pw_take hL, pw_drop hL, pw_take hR, pw_drop hR, fun X1 X2 x1 x2 => H.sort hL hR x1 x2⟩
  rw [← List.append_assoc (R.take _), List.take_append_drop, List.append_assoc P, ← List.append_assoc (L.take _), List.take_append_drop]
theorem one_refl {A B : List Pl} (hA : A.Pairwise fun x y => x.p ≤ y.p) (hB : B.Pairwise fun x y => x.p ≤ y.p) (h : A.length = 0 ∨ B.length = 0) : StSort Pl.p (A ++ B) (A ++ B) := by
  rcases h with h | h
  · rw [List.eq_nil_of_length_eq_zero h, List.nil_append]
    exact StSort.refl hB
  · rw [List.eq_nil_of_length_eq_zero h, List.append_nil]
    exact StSort.refl hA
theorem swap_none {A B C D : List Pl} (h : B.length = 0 ∨ C.length = 0) : A ++ (B ++ (C ++ D)) = A ++ (C ++ (B ++ D)) := by
  rcases h with h | h
  · rw [List.eq_nil_of_length_eq_zero h]
    simp
  · rw [List.eq_nil_of_length_eq_zero h]
    simp
set_option maxRecDepth 50000 in
set_option maxHeartbeats 16000000 in
theorem sym_more (N : Nat) (IH0 : SymOk N) (w : World) (base g n c a m b : Nat) (P L R Q : List Pl) (h : PR w base g n c (P ++ (L ++ (R ++ Q)))) (hb : base ≤ w.heap.size) (hn : n ≤ 1048576) (ha : a = P.length) (hm : m = a + L.length) (hbR : b = m + R.length) (hL2 : 2 ≤ L.length) (hR2 : 2 ≤ R.length) (hL0 : L.Pairwise fun x y => x.p ≤ y.p) (hR0 : R.Pairwise fun x y => x.p ≤ y.p) (hN : b ≤ a + (N + 1)) (sd : a + (L.length + R.length) / 2 < m) :
    Calls Tryd.prog 60 #[.slice (some ⟨g, 0, none⟩) n c, .int .i64 a, .int .i64 m, .int .i64 b, .func (.func 18) #[] #[]] w fun e w' => e = .returned (.tuple #[]) ∧ (∃ X, StSort Pl.p (L ++ R) X ∧ PR w' base g n c (P ++ (X ++ Q))) ∧ Out (fun k => k = g) w w' := by
  have hl := h.1
  simp only [List.length_append] at hl
  have H0 := hid h
  have IH := hid IH0
  have hL := hid hL0
  have hR := hid hR0
  obtain ⟨K, hK⟩ : ∃ K, K = (L.length + R.length) / 2 := ⟨_, rfl⟩
  obtain ⟨md, hmd⟩ : ∃ md, md = a + K := ⟨_, rfl⟩
  have HA := hid (And.intro ha (And.intro hm (And.intro hbR (And.intro hl (And.intro hL2 (And.intro hR2 (And.intro hK hmd)))))))
  have HC0 := hid (fun x y W => scmp_any x y W)
  have hma : ¬ (m : Int) - (a : Int) = 1 := by omega
  have hbm1 : ¬ (b : Int) - (m : Int) = 1 := by omega
  have haB : a ≤ 1048576 := by omega
  have hmB : m ≤ 1048576 := by omega
  have hbB : b ≤ 1048576 := by omega
  have hmdB : md ≤ 1048576 := by omega
  obtain ⟨q0, hq0⟩ : ∃ q0, q0 = a + b := ⟨_, rfl⟩
  have hq0I : (a : Int) + (b : Int) = (q0 : Int) := by omega
  have hq0B : q0 ≤ 2097152 := by omega
  have hq1I : (q0 : Int) / 2 = (md : Int) := by omega
  obtain ⟨nn, hnn⟩ : ∃ nn, nn = md + m := ⟨_, rfl⟩
  have hnnI : (md : Int) + (m : Int) = (nn : Int) := by omega
  have hnnB : nn ≤ 2097152 := by omega
  obtain ⟨p, hp⟩ : ∃ p, p = nn - 1 := ⟨_, rfl⟩
  have hpI : (nn : Int) - 1 = (p : Int) := by omega
  have hpB : p ≤ 2097152 := by omega
  obtain ⟨u0, hu0⟩ : ∃ u0, u0 = a + (K - R.length) := ⟨_, rfl⟩
  have hgt : (m : Int) > md := by omega
  have hu0I : (nn : Int) - (b : Int) = (u0 : Int) := by omega
  have Hm : Hid (u0 = a + (K - R.length) ∧ md = a + min K L.length) := hid (by omega)
  clear hu0
  clear h ha hm hbR hl IH0 hL0 hR0 hK hmd hL2 hR2 hq0 hnn hp
  go_enter Tryd.func60, Tryd.ntmps60
  repeat' (first | go_values | go_skip | go_guarded | go_step | go_upon | go_back)
  skip
  go_loopw [20, 21] (fun i j wr => ∃ (u v s t : Nat), i = .int .i64 u ∧ j = .int .i64 v ∧ u = a + s ∧ v = a + t ∧ Cut2 Pl.p L R K s t ∧ PR wr base g n c (P ++ (L ++ (R ++ Q))) ∧ Out (fun k => k = g) w wr) (fun i j _ => (intOf j).toNat - (intOf i).toNat)
  case atStart =>
    obtain ⟨ha, hm, hbR, hl, hL2, hR2, hK, hmd⟩ := HA.out
    have hst := Cut2.start (key := Pl.p) (L := L) (R := R) (K := K) (by omega)
    exact ⟨_, _, K - R.length, min K L.length, rfl, rfl, Hm.out.1, Hm.out.2, hst, H0.out, Out.refl _ _⟩
  case round =>
    clear H0 hma hbm1 Hm
    obtain ⟨u, v, s, t, rfl, rfl, hu, hv, hCut, hown, hO⟩ := hrel
    obtain ⟨ha, hm, hbR, hl, hL2, hR2, hK, hmd⟩ := HA.out
    have huv := hCut.le
    have htk := hCut.tk
    have htl := hCut.tl
    have hrs := hCut.rs
    by_cases hlt : u < v
    · obtain ⟨C, hC⟩ : ∃ C, C = (u + v) / 2 - a := ⟨_, rfl⟩
      obtain ⟨h, hh⟩ : ∃ h, h = a + C := ⟨_, rfl⟩
      obtain ⟨q, hq⟩ : ∃ q, q = u + v := ⟨_, rfl⟩
      obtain ⟨d, hd⟩ : ∃ d, d = m + (K - 1 - C) := ⟨_, rfl⟩
      have hq2 : h = q / 2 := by omega
      have hqB : q ≤ 2097152 := by omega
      have huvI : (u : Int) + (v : Int) = (q : Int) := by omega
      have hltI : (u : Int) < v := by omega
      have hq2I : (q : Int) / 2 = (h : Int) := by omega
      have hdI : (p : Int) - (h : Int) = (d : Int) := by omega
      obtain ⟨x, hx⟩ : ∃ x, L[C]? = some x := ⟨_, List.getElem?_eq_getElem (by omega)⟩
      obtain ⟨y, hy⟩ : ∃ y, R[K - 1 - C]? = some y := ⟨_, List.getElem?_eq_getElem (by omega)⟩
      have hx0 : (P ++ (L ++ (R ++ Q)))[h]? = some x := by
        rw [hh, ha, List.getElem?_append_right (by omega), Nat.add_sub_cancel_left, List.getElem?_append_left (List.getElem?_eq_some_iff.1 hx).1]
        exact hx
      have hy0 : (P ++ (L ++ (R ++ Q)))[d]? = some y := by
        have h1 : d = (P ++ L).length + (K - 1 - C) := by simp; omega
        rw [← List.append_assoc, h1, List.getElem?_append_right (by omega), Nat.add_sub_cancel_left, List.getElem?_append_left (List.getElem?_eq_some_iff.1 hy).1]
        exact hy
      have hown' := PR.drew hown
      have xh := hown'.at5 hx0
      have yd := hown'.at5 hy0
      obtain ⟨hhn, hbg, hgl⟩ := hown'.lt hx0
      have hdn := (hown'.lt hy0).1
      have hhI : (h : Int) < n := by omega
      have hdnI : (d : Int) < n := by omega
      have HC := hid (fun W => HC0.out y x W)
      unfold Pl.agg at HC
      have hcm := cmpI_lt (a := y.p) (b := x.p)
      generalize cmpI y.p x.p = k at *
      have y0 := xh.c0; have y1 := xh.c1; have y2 := xh.c2; have y3 := xh.c3; have y4 := xh.c4; have e0 := xh.f 0; have e1 := xh.f 1; have e2 := xh.f 2; have e3 := xh.f 3; have e4 := xh.f 4; rw [Nat.add_zero] at e0
      have z0 := yd.c0; have z1 := yd.c1; have z2 := yd.c2; have z3 := yd.c3; have z4 := yd.c4; have f0 := yd.f 0; have f1 := yd.f 1; have f2 := yd.f 2; have f3 := yd.f 3; have f4 := yd.f 4; rw [Nat.add_zero] at f0
      have Hw := hid hown
      have Hf := hid (And.intro hu (And.intro hv (And.intro hCut (And.intro hC (And.intro hh (And.intro hx hy))))))
      clear hu hv hCut hC hh hq hq2 hx hy huv htk htl hrs hown hown' hx0 hy0 xh yd ha hm hbR hl hL2 hR2 hK hmd hhn hdn hd
      by_cases hk : k < 0
      · have hl' := hid (hcm.1 hk)
        clear hcm
        repeat' (first | ((with_reducible refine region_at 35 ?_); refine wp_region_order [(0, true, false), (1, true, false), (2, true, false), (3, true, false), (4, true, false), (5, true, false), (6, true, false), (7, true, false), (8, true, false), (9, true, false), (10, true, false), (11, false, false), (12, true, false), (13, true, false)] (by kernel_rfl) (by kernel_rfl) (by kernel_rfl) rfl rfl ?_) | (go_at_call 18; go_must ((with_reducible refine Calls.mono (HC.out _) ?_); rintro _ w2 ⟨rfl, hb2⟩; dsimp only)) | (with_reducible refine Keep.last ?_) | (with_reducible refine Keep.below (by assumption) ?_) | (with_reducible refine Keep.kept (by assumption) ?_) | (with_reducible refine Keep.alloc ?_) | (with_reducible refine Keep.same ?_) | ((with_reducible refine WpH.here ?_); first | (refine WpH.nil ?_; refine NoP.normal ?_) | (refine WpH.load (by rfl) (by rfl) (by go_simp; rfl) ?_; simp only [Act.put, List.setIfInBounds_toArray, List.set_cons_zero, List.set_cons_succ]) | (refine WpH.loadT (by rfl) (by rfl) (by go_simp; rfl) (by rintro _ _ ⟨⟩; exact ⟨_, _, _, _, _, _, by rfl, by assumption, by assumption⟩) ?_; simp only [Act.put, List.setIfInBounds_toArray, List.set_cons_zero, List.set_cons_succ]) | (refine WpH.pure (by rfl) (fun w_ => by go_simp; (try go_bits); rfl) ?_; simp only [Act.put, List.setIfInBounds_toArray, List.set_cons_zero, List.set_cons_succ]) | (refine WpH.wild1 (by rfl) (fun _ _ => ?_)) | (refine WpH.skip (by rfl) ?_; simp only [Act.put, List.setIfInBounds_toArray, List.set_cons_zero, List.set_cons_succ])) | go_values | go_skip | go_guarded | go_step | go_upon | go_back)
        skip
        go_roundw
        case rel =>
          obtain ⟨hu, hv, hCut, hC, hh, hx, hy⟩ := Hf.out
          have := hCut.le
          exact ⟨u, h, s, C, rfl, by go_num, hu, hh, hCut.left hL.out hR.out (by omega) (by omega) hx hy hl'.out, PR.step (PR.drew Hw.out) hb2, hO.drewS.trans (Out.of_below (S := fun k => k = g) hb2) fun _ _ h => h⟩
        case measure =>
          have := Hf.out.1
          have := Hf.out.2.1
          have := Hf.out.2.2.2.1
          have := Hf.out.2.2.2.2.1
          simp [intOf]; omega
      · have hl' := hid (show x.p ≤ y.p by have := mt hcm.2 hk; omega)
        clear hcm
        repeat' (first | ((with_reducible refine region_at 35 ?_); refine wp_region_order [(0, true, false), (1, true, false), (2, true, false), (3, true, false), (4, true, false), (5, true, false), (6, true, false), (7, true, false), (8, true, false), (9, true, false), (10, true, false), (11, false, false), (12, true, false), (13, true, false)] (by kernel_rfl) (by kernel_rfl) (by kernel_rfl) rfl rfl ?_) | (go_at_call 18; go_must ((with_reducible refine Calls.mono (HC.out _) ?_); rintro _ w2 ⟨rfl, hb2⟩; dsimp only)) | (with_reducible refine Keep.last ?_) | (with_reducible refine Keep.below (by assumption) ?_) | (with_reducible refine Keep.kept (by assumption) ?_) | (with_reducible refine Keep.alloc ?_) | (with_reducible refine Keep.same ?_) | ((with_reducible refine WpH.here ?_); first | (refine WpH.nil ?_; refine NoP.normal ?_) | (refine WpH.load (by rfl) (by rfl) (by go_simp; rfl) ?_; simp only [Act.put, List.setIfInBounds_toArray, List.set_cons_zero, List.set_cons_succ]) | (refine WpH.loadT (by rfl) (by rfl) (by go_simp; rfl) (by rintro _ _ ⟨⟩; exact ⟨_, _, _, _, _, _, by rfl, by assumption, by assumption⟩) ?_; simp only [Act.put, List.setIfInBounds_toArray, List.set_cons_zero, List.set_cons_succ]) | (refine WpH.pure (by rfl) (fun w_ => by go_simp; (try go_bits); rfl) ?_; simp only [Act.put, List.setIfInBounds_toArray, List.set_cons_zero, List.set_cons_succ]) | (refine WpH.wild1 (by rfl) (fun _ _ => ?_)) | (refine WpH.skip (by rfl) ?_; simp only [Act.put, List.setIfInBounds_toArray, List.set_cons_zero, List.set_cons_succ])) | go_values | go_skip | go_guarded | go_step | go_upon | go_back)
        skip
        go_roundw
        case rel =>
          obtain ⟨hu, hv, hCut, hC, hh, hx, hy⟩ := Hf.out
          have := hCut.le
          exact ⟨h + 1, v, C + 1, t, by go_num, rfl, by omega, hv, hCut.right hL.out hR.out (by omega) (by omega) hx hy hl'.out, PR.step (PR.drew Hw.out) hb2, hO.drewS.trans (Out.of_below (S := fun k => k = g) hb2) fun _ _ h => h⟩
        case measure =>
          have := Hf.out.1
          have := Hf.out.2.1
          have := Hf.out.2.2.2.1
          have := Hf.out.2.2.2.2.1
          simp [intOf]; omega
    · obtain rfl : u = v := by omega
      obtain rfl : s = t := by omega
      have huB : u ≤ 1048576 := by omega
      obtain ⟨e, he⟩ : ∃ e, e = m + (K - s) := ⟨_, rfl⟩
      have heI : (nn : Int) - (u : Int) = (e : Int) := by omega
      obtain ⟨L1, L2, R1, R2, hF⟩ := four_of (Q := Q) ha hm hbR hmd hu he hCut hL.out hR.out
      have HB : Hid ((0 < L1.length ∨ (0 < L2.length ∧ 0 < R1.length)) ∧ (0 < R1.length ∨ (0 < R2.length ∧ 0 < L1.length)) ∧ (0 < R2.length ∨ 0 < R1.length)) := hid (by
        have := hF.hu
        have := hF.hm
        have := hF.he
        have := hF.hb
        have := hF.ha
        have := hF.hd
        omega)
      have HF := hid hF
      have Hw := hid hown
      clear hu hv hCut hown huv htk htl hrs ha hm hbR hl hL2 hR2 hK hmd hF he
      by_cases al : 0 < L2.length
      · skip
        by_cases be : 0 < R1.length
        · skip
          by_cases ga : 0 < L1.length
          · skip
            by_cases de : 0 < R2.length
            · skip
              have hA1 : (u : Int) < m := by have := HF.out.hm; omega
              have hA2 : (m : Int) < e := by have := HF.out.he; omega
              have HS := hid (rotate_any wr base g n c u m e (.func (.func 18) #[] #[]) (P ++ L1) L2 R1 (R2 ++ Q) (by rw [← HF.out.eq]; exact Hw.out) (by have := hO.size; omega) hn (by have := HF.out.ha; have := HF.out.hu; simp; omega) HF.out.hm HF.out.he (by omega) (by omega))
              repeat' (first | (go_at_call 81; go_must ((with_reducible refine Calls.mono HS.out ?_); rintro _ w1 ⟨rfl, hown1, hO1⟩; dsimp only)) | (with_reducible refine stop_region 41 ?_) | (with_reducible refine Keep.last ?_) | (with_reducible refine Keep.below (by assumption) ?_) | (with_reducible refine Keep.kept (by assumption) ?_) | (with_reducible refine Keep.alloc ?_) | (with_reducible refine Keep.same ?_) | ((with_reducible refine WpH.here ?_); first | (refine WpH.nil ?_; refine NoP.normal ?_) | (refine WpH.load (by rfl) (by rfl) (by go_simp; rfl) ?_; simp only [Act.put, List.setIfInBounds_toArray, List.set_cons_zero, List.set_cons_succ]) | (refine WpH.loadT (by rfl) (by rfl) (by go_simp; rfl) (by rintro _ _ ⟨⟩; exact ⟨_, _, _, _, _, _, by rfl, by assumption, by assumption⟩) ?_; simp only [Act.put, List.setIfInBounds_toArray, List.set_cons_zero, List.set_cons_succ]) | (refine WpH.pure (by rfl) (fun w_ => by go_simp; (try go_bits); rfl) ?_; simp only [Act.put, List.setIfInBounds_toArray, List.set_cons_zero, List.set_cons_succ]) | (refine WpH.wild1 (by rfl) (fun _ _ => ?_)) | (refine WpH.skip (by rfl) ?_; simp only [Act.put, List.setIfInBounds_toArray, List.set_cons_zero, List.set_cons_succ])) | go_values | go_skip | go_guarded | go_step | go_upon | go_back)
              refine Stop.go ?_
              have HT1 : Hid (PR w1 base g n c (P ++ (L1 ++ (R1 ++ (L2 ++ (R2 ++ Q)))))) := hid (by simpa using hown1)
              have hW1 : Out (fun k => k = g) w w1 := hO.trans hO1 fun _ _ h => h
              clear hown1 hO1 HS Hw hO
              have hB1 : (a : Int) < u := by have := HF.out.hu; omega
              have hB2 : (u : Int) < md := by have := HF.out.hd; omega
              have HS := hid (IH.out w1 base g n c a u md P L1 R1 (L2 ++ (R2 ++ Q)) HT1.out (by have := hW1.size; omega) hn HF.out.ha HF.out.hu HF.out.hd (by omega) (by omega) HF.out.p1 HF.out.q1 (by have := HF.out.hu; have := HF.out.hm; have := HF.out.hb; have := HF.out.he; have := HF.out.hd; omega))
              repeat' (first | (go_at_call 60; go_must ((with_reducible refine Calls.mono HS.out ?_); rintro _ w2 ⟨rfl, ⟨X1, hs1, hown2⟩, hO2⟩; dsimp only)) | (with_reducible refine stop_region 43 ?_) | go_values | go_skip | go_guarded | go_step | go_upon | go_back)
              refine Stop.go ?_
              have HT2 : Hid (PR w2 base g n c ((P ++ X1) ++ (L2 ++ (R2 ++ Q)))) := hid (by simpa using hown2)
              have hW2 : Out (fun k => k = g) w w2 := hW1.trans hO2 fun _ _ h => h
              have Hs1 := hid hs1
              clear hown2 hO2 HS HT1 hW1 hs1
              have hC1 : (md : Int) < e := by have := HF.out.hm; have := HF.out.he; have := HF.out.hd; omega
              have hC2 : (e : Int) < b := by have := HF.out.hb; omega
              have HS := hid (IH.out w2 base g n c md e b (P ++ X1) L2 R2 Q HT2.out (by have := hW2.size; omega) hn (by have := HF.out.ha; have := HF.out.hu; have := HF.out.hd; have := Hs1.out.length; simp at this ⊢; omega) (by have := HF.out.hm; have := HF.out.he; have := HF.out.hd; omega) HF.out.hb (by omega) (by omega) HF.out.p2 HF.out.q2 (by have := HF.out.hu; have := HF.out.hm; have := HF.out.hb; have := HF.out.he; have := HF.out.hd; omega))
              repeat' (first | (go_at_call 60; go_must ((with_reducible refine Calls.mono HS.out ?_); rintro _ w3 ⟨rfl, ⟨X2, hs2, hown3⟩, hO3⟩; dsimp only)) | go_values | go_skip | go_guarded | go_step | go_upon | go_back)
              skip
              go_end0
              exact ⟨rfl, ⟨X1 ++ X2, HF.out.srt X1 X2 Hs1.out hs2, by simpa using hown3⟩, hW2.trans hO3 fun _ _ h => h⟩
            · skip
              have hA1 : (u : Int) < m := by have := HF.out.hm; omega
              have hA2 : (m : Int) < e := by have := HF.out.he; omega
              have HS := hid (rotate_any wr base g n c u m e (.func (.func 18) #[] #[]) (P ++ L1) L2 R1 (R2 ++ Q) (by rw [← HF.out.eq]; exact Hw.out) (by have := hO.size; omega) hn (by have := HF.out.ha; have := HF.out.hu; simp; omega) HF.out.hm HF.out.he (by omega) (by omega))
              repeat' (first | (go_at_call 81; go_must ((with_reducible refine Calls.mono HS.out ?_); rintro _ w1 ⟨rfl, hown1, hO1⟩; dsimp only)) | (with_reducible refine stop_region 41 ?_) | go_values | go_skip | go_guarded | go_step | go_upon | go_back)
              refine Stop.go ?_
              have HT1 : Hid (PR w1 base g n c (P ++ (L1 ++ (R1 ++ (L2 ++ (R2 ++ Q)))))) := hid (by simpa using hown1)
              have hW1 : Out (fun k => k = g) w w1 := hO.trans hO1 fun _ _ h => h
              clear hown1 hO1 HS Hw hO
              have hB1 : (a : Int) < u := by have := HF.out.hu; omega
              have hB2 : (u : Int) < md := by have := HF.out.hd; omega
              have HS := hid (IH.out w1 base g n c a u md P L1 R1 (L2 ++ (R2 ++ Q)) HT1.out (by have := hW1.size; omega) hn HF.out.ha HF.out.hu HF.out.hd (by omega) (by omega) HF.out.p1 HF.out.q1 (by have := HF.out.hu; have := HF.out.hm; have := HF.out.hb; have := HF.out.he; have := HF.out.hd; omega))
              repeat' (first | (go_at_call 60; go_must ((with_reducible refine Calls.mono HS.out ?_); rintro _ w2 ⟨rfl, ⟨X1, hs1, hown2⟩, hO2⟩; dsimp only)) | (with_reducible refine stop_region 43 ?_) | go_values | go_skip | go_guarded | go_step | go_upon | go_back)
              refine Stop.go ?_
              have HT2 : Hid (PR w2 base g n c ((P ++ X1) ++ (L2 ++ (R2 ++ Q)))) := hid (by simpa using hown2)
              have hW2 : Out (fun k => k = g) w w2 := hW1.trans hO2 fun _ _ h => h
              have Hs1 := hid hs1
              clear hown2 hO2 HS HT1 hW1 hs1
              have hC1 : (md : Int) < e := by have := HF.out.hm; have := HF.out.he; have := HF.out.hd; omega
              have hC2 : ¬ (e : Int) < b := by have := HF.out.hb; omega
              repeat' (first | go_values | go_skip | go_guarded | go_step | go_upon | go_back)
              skip
              go_end0
              exact ⟨rfl, ⟨X1 ++ (L2 ++ R2), HF.out.srt X1 (L2 ++ R2) Hs1.out (one_refl HF.out.p2 HF.out.q2 (by omega)), by simpa using HT2.out⟩, hW2⟩
          · skip
            by_cases de : 0 < R2.length
            · skip
              have hA1 : (u : Int) < m := by have := HF.out.hm; omega
              have hA2 : (m : Int) < e := by have := HF.out.he; omega
              have HS := hid (rotate_any wr base g n c u m e (.func (.func 18) #[] #[]) (P ++ L1) L2 R1 (R2 ++ Q) (by rw [← HF.out.eq]; exact Hw.out) (by have := hO.size; omega) hn (by have := HF.out.ha; have := HF.out.hu; simp; omega) HF.out.hm HF.out.he (by omega) (by omega))
              repeat' (first | (go_at_call 81; go_must ((with_reducible refine Calls.mono HS.out ?_); rintro _ w1 ⟨rfl, hown1, hO1⟩; dsimp only)) | (with_reducible refine stop_region 41 ?_) | go_values | go_skip | go_guarded | go_step | go_upon | go_back)
              refine Stop.go ?_
              have HT1 : Hid (PR w1 base g n c (P ++ (L1 ++ (R1 ++ (L2 ++ (R2 ++ Q)))))) := hid (by simpa using hown1)
              have hW1 : Out (fun k => k = g) w w1 := hO.trans hO1 fun _ _ h => h
              clear hown1 hO1 HS Hw hO
              have hB1 : ¬ (a : Int) < u := by have := HF.out.hu; omega
              obtain ⟨X1, hX1⟩ : ∃ X1, X1 = L1 ++ R1 := ⟨_, rfl⟩
              have Hs1 : Hid (StSort Pl.p (L1 ++ R1) X1) := hid (by rw [hX1]; exact one_refl HF.out.p1 HF.out.q1 (by omega))
              have HT2 : Hid (PR w1 base g n c ((P ++ X1) ++ (L2 ++ (R2 ++ Q)))) := hid (by rw [hX1]; simpa using HT1.out)
              have hW2 := hW1
              clear HT1 hW1 hX1
              repeat' (first | (with_reducible refine stop_region 43 ?_) | go_values | go_skip | go_guarded | go_step | go_upon | go_back)
              refine Stop.go ?_
              have hC1 : (md : Int) < e := by have := HF.out.hm; have := HF.out.he; have := HF.out.hd; omega
              have hC2 : (e : Int) < b := by have := HF.out.hb; omega
              have HS := hid (IH.out w1 base g n c md e b (P ++ X1) L2 R2 Q HT2.out (by have := hW2.size; omega) hn (by have := HF.out.ha; have := HF.out.hu; have := HF.out.hd; have := Hs1.out.length; simp at this ⊢; omega) (by have := HF.out.hm; have := HF.out.he; have := HF.out.hd; omega) HF.out.hb (by omega) (by omega) HF.out.p2 HF.out.q2 (by have := HF.out.hu; have := HF.out.hm; have := HF.out.hb; have := HF.out.he; have := HF.out.hd; omega))
              repeat' (first | (go_at_call 60; go_must ((with_reducible refine Calls.mono HS.out ?_); rintro _ w3 ⟨rfl, ⟨X2, hs2, hown3⟩, hO3⟩; dsimp only)) | go_values | go_skip | go_guarded | go_step | go_upon | go_back)
              skip
              go_end0
              exact ⟨rfl, ⟨X1 ++ X2, HF.out.srt X1 X2 Hs1.out hs2, by simpa using hown3⟩, hW2.trans hO3 fun _ _ h => h⟩
            · skip
              have hA1 : (u : Int) < m := by have := HF.out.hm; omega
              have hA2 : (m : Int) < e := by have := HF.out.he; omega
              have HS := hid (rotate_any wr base g n c u m e (.func (.func 18) #[] #[]) (P ++ L1) L2 R1 (R2 ++ Q) (by rw [← HF.out.eq]; exact Hw.out) (by have := hO.size; omega) hn (by have := HF.out.ha; have := HF.out.hu; simp; omega) HF.out.hm HF.out.he (by omega) (by omega))
              repeat' (first | (go_at_call 81; go_must ((with_reducible refine Calls.mono HS.out ?_); rintro _ w1 ⟨rfl, hown1, hO1⟩; dsimp only)) | (with_reducible refine stop_region 41 ?_) | go_values | go_skip | go_guarded | go_step | go_upon | go_back)
              refine Stop.go ?_
              have HT1 : Hid (PR w1 base g n c (P ++ (L1 ++ (R1 ++ (L2 ++ (R2 ++ Q)))))) := hid (by simpa using hown1)
              have hW1 : Out (fun k => k = g) w w1 := hO.trans hO1 fun _ _ h => h
              clear hown1 hO1 HS Hw hO
              have hB1 : ¬ (a : Int) < u := by have := HF.out.hu; omega
              obtain ⟨X1, hX1⟩ : ∃ X1, X1 = L1 ++ R1 := ⟨_, rfl⟩
              have Hs1 : Hid (StSort Pl.p (L1 ++ R1) X1) := hid (by rw [hX1]; exact one_refl HF.out.p1 HF.out.q1 (by omega))
              have HT2 : Hid (PR w1 base g n c ((P ++ X1) ++ (L2 ++ (R2 ++ Q)))) := hid (by rw [hX1]; simpa using HT1.out)
              have hW2 := hW1
              clear HT1 hW1 hX1
              repeat' (first | (with_reducible refine stop_region 43 ?_) | go_values | go_skip | go_guarded | go_step | go_upon | go_back)
              refine Stop.go ?_
              have hC1 : (md : Int) < e := by have := HF.out.hm; have := HF.out.he; have := HF.out.hd; omega
              have hC2 : ¬ (e : Int) < b := by have := HF.out.hb; omega
              repeat' (first | go_values | go_skip | go_guarded | go_step | go_upon | go_back)
              skip
              go_end0
              exact ⟨rfl, ⟨X1 ++ (L2 ++ R2), HF.out.srt X1 (L2 ++ R2) Hs1.out (one_refl HF.out.p2 HF.out.q2 (by omega)), by simpa using HT2.out⟩, hW2⟩
        · skip
          by_cases ga : 0 < L1.length
          · skip
            by_cases de : 0 < R2.length
            · skip
              have hA1 : (u : Int) < m := by have := HF.out.hm; omega
              have hA2 : ¬ (m : Int) < e := by have := HF.out.he; omega
              have HT1 : Hid (PR wr base g n c (P ++ (L1 ++ (R1 ++ (L2 ++ (R2 ++ Q)))))) := hid (by have := Hw.out; rw [HF.out.eq, swap_none (by omega)] at this; simpa using this)
              have hW1 := hO
              clear Hw hO
              repeat' (first | (with_reducible refine stop_region 41 ?_) | go_values | go_skip | go_guarded | go_step | go_upon | go_back)
              refine Stop.go ?_
              have hB1 : (a : Int) < u := by have := HF.out.hu; omega
              have hB2 : ¬ (u : Int) < md := by have := HF.out.hd; omega
              obtain ⟨X1, hX1⟩ : ∃ X1, X1 = L1 ++ R1 := ⟨_, rfl⟩
              have Hs1 : Hid (StSort Pl.p (L1 ++ R1) X1) := hid (by rw [hX1]; exact one_refl HF.out.p1 HF.out.q1 (by omega))
              have HT2 : Hid (PR wr base g n c ((P ++ X1) ++ (L2 ++ (R2 ++ Q)))) := hid (by rw [hX1]; simpa using HT1.out)
              have hW2 := hW1
              clear HT1 hW1 hX1
              repeat' (first | (with_reducible refine stop_region 43 ?_) | go_values | go_skip | go_guarded | go_step | go_upon | go_back)
              refine Stop.go ?_
              have hC1 : (md : Int) < e := by have := HF.out.hm; have := HF.out.he; have := HF.out.hd; omega
              have hC2 : (e : Int) < b := by have := HF.out.hb; omega
              have HS := hid (IH.out wr base g n c md e b (P ++ X1) L2 R2 Q HT2.out (by have := hW2.size; omega) hn (by have := HF.out.ha; have := HF.out.hu; have := HF.out.hd; have := Hs1.out.length; simp at this ⊢; omega) (by have := HF.out.hm; have := HF.out.he; have := HF.out.hd; omega) HF.out.hb (by omega) (by omega) HF.out.p2 HF.out.q2 (by have := HF.out.hu; have := HF.out.hm; have := HF.out.hb; have := HF.out.he; have := HF.out.hd; omega))
              repeat' (first | (go_at_call 60; go_must ((with_reducible refine Calls.mono HS.out ?_); rintro _ w3 ⟨rfl, ⟨X2, hs2, hown3⟩, hO3⟩; dsimp only)) | go_values | go_skip | go_guarded | go_step | go_upon | go_back)
              skip
              go_end0
              exact ⟨rfl, ⟨X1 ++ X2, HF.out.srt X1 X2 Hs1.out hs2, by simpa using hown3⟩, hW2.trans hO3 fun _ _ h => h⟩
            · skip
              exfalso
              have := HB.out
              omega
          · skip
            by_cases de : 0 < R2.length
            · skip
              exfalso
              have := HB.out
              omega
            · skip
              exfalso
              have := HB.out
              omega
      · skip
        by_cases be : 0 < R1.length
        · skip
          by_cases ga : 0 < L1.length
          · skip
            by_cases de : 0 < R2.length
            · skip
              have hA1 : ¬ (u : Int) < m := by have := HF.out.hm; omega
              have HT1 : Hid (PR wr base g n c (P ++ (L1 ++ (R1 ++ (L2 ++ (R2 ++ Q)))))) := hid (by have := Hw.out; rw [HF.out.eq, swap_none (by omega)] at this; simpa using this)
              have hW1 := hO
              clear Hw hO
              repeat' (first | (with_reducible refine stop_region 41 ?_) | go_values | go_skip | go_guarded | go_step | go_upon | go_back)
              refine Stop.go ?_
              have hB1 : (a : Int) < u := by have := HF.out.hu; omega
              have hB2 : (u : Int) < md := by have := HF.out.hd; omega
              have HS := hid (IH.out wr base g n c a u md P L1 R1 (L2 ++ (R2 ++ Q)) HT1.out (by have := hW1.size; omega) hn HF.out.ha HF.out.hu HF.out.hd (by omega) (by omega) HF.out.p1 HF.out.q1 (by have := HF.out.hu; have := HF.out.hm; have := HF.out.hb; have := HF.out.he; have := HF.out.hd; omega))
              repeat' (first | (go_at_call 60; go_must ((with_reducible refine Calls.mono HS.out ?_); rintro _ w2 ⟨rfl, ⟨X1, hs1, hown2⟩, hO2⟩; dsimp only)) | (with_reducible refine stop_region 43 ?_) | go_values | go_skip | go_guarded | go_step | go_upon | go_back)
              refine Stop.go ?_
              have HT2 : Hid (PR w2 base g n c ((P ++ X1) ++ (L2 ++ (R2 ++ Q)))) := hid (by simpa using hown2)
              have hW2 : Out (fun k => k = g) w w2 := hW1.trans hO2 fun _ _ h => h
              have Hs1 := hid hs1
              clear hown2 hO2 HS HT1 hW1 hs1
              have hC1 : ¬ (md : Int) < e := by have := HF.out.hm; have := HF.out.he; have := HF.out.hd; omega
              repeat' (first | go_values | go_skip | go_guarded | go_step | go_upon | go_back)
              skip
              go_end0
              exact ⟨rfl, ⟨X1 ++ (L2 ++ R2), HF.out.srt X1 (L2 ++ R2) Hs1.out (one_refl HF.out.p2 HF.out.q2 (by omega)), by simpa using HT2.out⟩, hW2⟩
            · skip
              have hA1 : ¬ (u : Int) < m := by have := HF.out.hm; omega
              have HT1 : Hid (PR wr base g n c (P ++ (L1 ++ (R1 ++ (L2 ++ (R2 ++ Q)))))) := hid (by have := Hw.out; rw [HF.out.eq, swap_none (by omega)] at this; simpa using this)
              have hW1 := hO
              clear Hw hO
              repeat' (first | (with_reducible refine stop_region 41 ?_) | go_values | go_skip | go_guarded | go_step | go_upon | go_back)
              refine Stop.go ?_
              have hB1 : (a : Int) < u := by have := HF.out.hu; omega
              have hB2 : (u : Int) < md := by have := HF.out.hd; omega
              have HS := hid (IH.out wr base g n c a u md P L1 R1 (L2 ++ (R2 ++ Q)) HT1.out (by have := hW1.size; omega) hn HF.out.ha HF.out.hu HF.out.hd (by omega) (by omega) HF.out.p1 HF.out.q1 (by have := HF.out.hu; have := HF.out.hm; have := HF.out.hb; have := HF.out.he; have := HF.out.hd; omega))
              repeat' (first | (go_at_call 60; go_must ((with_reducible refine Calls.mono HS.out ?_); rintro _ w2 ⟨rfl, ⟨X1, hs1, hown2⟩, hO2⟩; dsimp only)) | (with_reducible refine stop_region 43 ?_) | go_values | go_skip | go_guarded | go_step | go_upon | go_back)
              refine Stop.go ?_
              have HT2 : Hid (PR w2 base g n c ((P ++ X1) ++ (L2 ++ (R2 ++ Q)))) := hid (by simpa using hown2)
              have hW2 : Out (fun k => k = g) w w2 := hW1.trans hO2 fun _ _ h => h
              have Hs1 := hid hs1
              clear hown2 hO2 HS HT1 hW1 hs1
              have hC1 : ¬ (md : Int) < e := by have := HF.out.hm; have := HF.out.he; have := HF.out.hd; omega
              repeat' (first | go_values | go_skip | go_guarded | go_step | go_upon | go_back)
              skip
              go_end0
              exact ⟨rfl, ⟨X1 ++ (L2 ++ R2), HF.out.srt X1 (L2 ++ R2) Hs1.out (one_refl HF.out.p2 HF.out.q2 (by omega)), by simpa using HT2.out⟩, hW2⟩
          · skip
            by_cases de : 0 < R2.length
            · skip
              exfalso
              have := HB.out
              omega
            · skip
              exfalso
              have := HB.out
              omega
        · skip
          by_cases ga : 0 < L1.length
          · skip
            by_cases de : 0 < R2.length
            · skip
              have hA1 : ¬ (u : Int) < m := by have := HF.out.hm; omega
              have HT1 : Hid (PR wr base g n c (P ++ (L1 ++ (R1 ++ (L2 ++ (R2 ++ Q)))))) := hid (by have := Hw.out; rw [HF.out.eq, swap_none (by omega)] at this; simpa using this)
              have hW1 := hO
              clear Hw hO
              repeat' (first | (with_reducible refine stop_region 41 ?_) | go_values | go_skip | go_guarded | go_step | go_upon | go_back)
              refine Stop.go ?_
              have hB1 : (a : Int) < u := by have := HF.out.hu; omega
              have hB2 : ¬ (u : Int) < md := by have := HF.out.hd; omega
              obtain ⟨X1, hX1⟩ : ∃ X1, X1 = L1 ++ R1 := ⟨_, rfl⟩
              have Hs1 : Hid (StSort Pl.p (L1 ++ R1) X1) := hid (by rw [hX1]; exact one_refl HF.out.p1 HF.out.q1 (by omega))
              have HT2 : Hid (PR wr base g n c ((P ++ X1) ++ (L2 ++ (R2 ++ Q)))) := hid (by rw [hX1]; simpa using HT1.out)
              have hW2 := hW1
              clear HT1 hW1 hX1
              repeat' (first | (with_reducible refine stop_region 43 ?_) | go_values | go_skip | go_guarded | go_step | go_upon | go_back)
              refine Stop.go ?_
              have hC1 : ¬ (md : Int) < e := by have := HF.out.hm; have := HF.out.he; have := HF.out.hd; omega
              repeat' (first | go_values | go_skip | go_guarded | go_step | go_upon | go_back)
              skip
              go_end0
              exact ⟨rfl, ⟨X1 ++ (L2 ++ R2), HF.out.srt X1 (L2 ++ R2) Hs1.out (one_refl HF.out.p2 HF.out.q2 (by omega)), by simpa using HT2.out⟩, hW2⟩
            · skip
              exfalso
              have := HB.out
              omega
          · skip
            by_cases de : 0 < R2.length
            · skip
              exfalso
              have := HB.out
              omega
            · skip
              exfalso
              have := HB.out
              omega
set_option maxRecDepth 50000 in
set_option maxHeartbeats 16000000 in
theorem sym_less (N : Nat) (IH0 : SymOk N) (w : World) (base g n c a m b : Nat) (P L R Q : List Pl) (h : PR w base g n c (P ++ (L ++ (R ++ Q)))) (hb : base ≤ w.heap.size) (hn : n ≤ 1048576) (ha : a = P.length) (hm : m = a + L.length) (hbR : b = m + R.length) (hL2 : 2 ≤ L.length) (hR2 : 2 ≤ R.length) (hL0 : L.Pairwise fun x y => x.p ≤ y.p) (hR0 : R.Pairwise fun x y => x.p ≤ y.p) (hN : b ≤ a + (N + 1)) (sd : m ≤ a + (L.length + R.length) / 2) :
    Calls Tryd.prog 60 #[.slice (some ⟨g, 0, none⟩) n c, .int .i64 a, .int .i64 m, .int .i64 b, .func (.func 18) #[] #[]] w fun e w' => e = .returned (.tuple #[]) ∧ (∃ X, StSort Pl.p (L ++ R) X ∧ PR w' base g n c (P ++ (X ++ Q))) ∧ Out (fun k => k = g) w w' := by
  have hl := h.1
  simp only [List.length_append] at hl
  have H0 := hid h
  have IH := hid IH0
  have hL := hid hL0
  have hR := hid hR0
  obtain ⟨K, hK⟩ : ∃ K, K = (L.length + R.length) / 2 := ⟨_, rfl⟩
  obtain ⟨md, hmd⟩ : ∃ md, md = a + K := ⟨_, rfl⟩
  have HA := hid (And.intro ha (And.intro hm (And.intro hbR (And.intro hl (And.intro hL2 (And.intro hR2 (And.intro hK hmd)))))))
  have HC0 := hid (fun x y W => scmp_any x y W)
  have hma : ¬ (m : Int) - (a : Int) = 1 := by omega
  have hbm1 : ¬ (b : Int) - (m : Int) = 1 := by omega
  have haB : a ≤ 1048576 := by omega
  have hmB : m ≤ 1048576 := by omega
  have hbB : b ≤ 1048576 := by omega
  have hmdB : md ≤ 1048576 := by omega
  obtain ⟨q0, hq0⟩ : ∃ q0, q0 = a + b := ⟨_, rfl⟩
  have hq0I : (a : Int) + (b : Int) = (q0 : Int) := by omega
  have hq0B : q0 ≤ 2097152 := by omega
  have hq1I : (q0 : Int) / 2 = (md : Int) := by omega
  obtain ⟨nn, hnn⟩ : ∃ nn, nn = md + m := ⟨_, rfl⟩
  have hnnI : (md : Int) + (m : Int) = (nn : Int) := by omega
  have hnnB : nn ≤ 2097152 := by omega
  obtain ⟨p, hp⟩ : ∃ p, p = nn - 1 := ⟨_, rfl⟩
  have hpI : (nn : Int) - 1 = (p : Int) := by omega
  have hpB : p ≤ 2097152 := by omega
  have hgt : ¬ (m : Int) > md := by omega
  have Hm : Hid (a = a + (K - R.length) ∧ m = a + min K L.length) := hid (by omega)
  clear h ha hm hbR hl IH0 hL0 hR0 hK hmd hL2 hR2 hq0 hnn hp
  go_enter Tryd.func60, Tryd.ntmps60
  repeat' (first | go_values | go_skip | go_guarded | go_step | go_upon | go_back)
  skip
  go_loopw [20, 21] (fun i j wr => ∃ (u v s t : Nat), i = .int .i64 u ∧ j = .int .i64 v ∧ u = a + s ∧ v = a + t ∧ Cut2 Pl.p L R K s t ∧ PR wr base g n c (P ++ (L ++ (R ++ Q))) ∧ Out (fun k => k = g) w wr) (fun i j _ => (intOf j).toNat - (intOf i).toNat)
  case atStart =>
    obtain ⟨ha, hm, hbR, hl, hL2, hR2, hK, hmd⟩ := HA.out
    have hst := Cut2.start (key := Pl.p) (L := L) (R := R) (K := K) (by omega)
    exact ⟨_, _, K - R.length, min K L.length, rfl, rfl, Hm.out.1, Hm.out.2, hst, H0.out, Out.refl _ _⟩
  case round =>
    clear H0 hma hbm1 Hm
    obtain ⟨u, v, s, t, rfl, rfl, hu, hv, hCut, hown, hO⟩ := hrel
    obtain ⟨ha, hm, hbR, hl, hL2, hR2, hK, hmd⟩ := HA.out
    have huv := hCut.le
    have htk := hCut.tk
    have htl := hCut.tl
    have hrs := hCut.rs
    by_cases hlt : u < v
    · obtain ⟨C, hC⟩ : ∃ C, C = (u + v) / 2 - a := ⟨_, rfl⟩
      obtain ⟨h, hh⟩ : ∃ h, h = a + C := ⟨_, rfl⟩
      obtain ⟨q, hq⟩ : ∃ q, q = u + v := ⟨_, rfl⟩
      obtain ⟨d, hd⟩ : ∃ d, d = m + (K - 1 - C) := ⟨_, rfl⟩
      have hq2 : h = q / 2 := by omega
      have hqB : q ≤ 2097152 := by omega
      have huvI : (u : Int) + (v : Int) = (q : Int) := by omega
      have hltI : (u : Int) < v := by omega
      have hq2I : (q : Int) / 2 = (h : Int) := by omega
      have hdI : (p : Int) - (h : Int) = (d : Int) := by omega
      obtain ⟨x, hx⟩ : ∃ x, L[C]? = some x := ⟨_, List.getElem?_eq_getElem (by omega)⟩
      obtain ⟨y, hy⟩ : ∃ y, R[K - 1 - C]? = some y := ⟨_, List.getElem?_eq_getElem (by omega)⟩
      have hx0 : (P ++ (L ++ (R ++ Q)))[h]? = some x := by
        rw [hh, ha, List.getElem?_append_right (by omega), Nat.add_sub_cancel_left, List.getElem?_append_left (List.getElem?_eq_some_iff.1 hx).1]
        exact hx
      have hy0 : (P ++ (L ++ (R ++ Q)))[d]? = some y := by
        have h1 : d = (P ++ L).length + (K - 1 - C) := by simp; omega
        rw [← List.append_assoc, h1, List.getElem?_append_right (by omega), Nat.add_sub_cancel_left, List.getElem?_append_left (List.getElem?_eq_some_iff.1 hy).1]
        exact hy
      have hown' := PR.drew hown
      have xh := hown'.at5 hx0
      have yd := hown'.at5 hy0
      obtain ⟨hhn, hbg, hgl⟩ := hown'.lt hx0
      have hdn := (hown'.lt hy0).1
      have hhI : (h : Int) < n := by omega
      have hdnI : (d : Int) < n := by omega
      have HC := hid (fun W => HC0.out y x W)
      unfold Pl.agg at HC
      have hcm := cmpI_lt (a := y.p) (b := x.p)
      generalize cmpI y.p x.p = k at *
      have y0 := xh.c0; have y1 := xh.c1; have y2 := xh.c2; have y3 := xh.c3; have y4 := xh.c4; have e0 := xh.f 0; have e1 := xh.f 1; have e2 := xh.f 2; have e3 := xh.f 3; have e4 := xh.f 4; rw [Nat.add_zero] at e0
      have z0 := yd.c0; have z1 := yd.c1; have z2 := yd.c2; have z3 := yd.c3; have z4 := yd.c4; have f0 := yd.f 0; have f1 := yd.f 1; have f2 := yd.f 2; have f3 := yd.f 3; have f4 := yd.f 4; rw [Nat.add_zero] at f0
      have Hw := hid hown
      have Hf := hid (And.intro hu (And.intro hv (And.intro hCut (And.intro hC (And.intro hh (And.intro hx hy))))))
      clear hu hv hCut hC hh hq hq2 hx hy huv htk htl hrs hown hown' hx0 hy0 xh yd ha hm hbR hl hL2 hR2 hK hmd hhn hdn hd
      by_cases hk : k < 0
      · have hl' := hid (hcm.1 hk)
        clear hcm
        repeat' (first | ((with_reducible refine region_at 35 ?_); refine wp_region_order [(0, true, false), (1, true, false), (2, true, false), (3, true, false), (4, true, false), (5, true, false), (6, true, false), (7, true, false), (8, true, false), (9, true, false), (10, true, false), (11, false, false), (12, true, false), (13, true, false)] (by kernel_rfl) (by kernel_rfl) (by kernel_rfl) rfl rfl ?_) | (go_at_call 18; go_must ((with_reducible refine Calls.mono (HC.out _) ?_); rintro _ w2 ⟨rfl, hb2⟩; dsimp only)) | (with_reducible refine Keep.last ?_) | (with_reducible refine Keep.below (by assumption) ?_) | (with_reducible refine Keep.kept (by assumption) ?_) | (with_reducible refine Keep.alloc ?_) | (with_reducible refine Keep.same ?_) | ((with_reducible refine WpH.here ?_); first | (refine WpH.nil ?_; refine NoP.normal ?_) | (refine WpH.load (by rfl) (by rfl) (by go_simp; rfl) ?_; simp only [Act.put, List.setIfInBounds_toArray, List.set_cons_zero, List.set_cons_succ]) | (refine WpH.loadT (by rfl) (by rfl) (by go_simp; rfl) (by rintro _ _ ⟨⟩; exact ⟨_, _, _, _, _, _, by rfl, by assumption, by assumption⟩) ?_; simp only [Act.put, List.setIfInBounds_toArray, List.set_cons_zero, List.set_cons_succ]) | (refine WpH.pure (by rfl) (fun w_ => by go_simp; (try go_bits); rfl) ?_; simp only [Act.put, List.setIfInBounds_toArray, List.set_cons_zero, List.set_cons_succ]) | (refine WpH.wild1 (by rfl) (fun _ _ => ?_)) | (refine WpH.skip (by rfl) ?_; simp only [Act.put, List.setIfInBounds_toArray, List.set_cons_zero, List.set_cons_succ])) | go_values | go_skip | go_guarded | go_step | go_upon | go_back)
        skip
        go_roundw
        case rel =>
          obtain ⟨hu, hv, hCut, hC, hh, hx, hy⟩ := Hf.out
          have := hCut.le
          exact ⟨u, h, s, C, rfl, by go_num, hu, hh, hCut.left hL.out hR.out (by omega) (by omega) hx hy hl'.out, PR.step (PR.drew Hw.out) hb2, hO.drewS.trans (Out.of_below (S := fun k => k = g) hb2) fun _ _ h => h⟩
        case measure =>
          have := Hf.out.1
          have := Hf.out.2.1
          have := Hf.out.2.2.2.1
          have := Hf.out.2.2.2.2.1
          simp [intOf]; omega
      · have hl' := hid (show x.p ≤ y.p by have := mt hcm.2 hk; omega)
        clear hcm
        repeat' (first | ((with_reducible refine region_at 35 ?_); refine wp_region_order [(0, true, false), (1, true, false), (2, true, false), (3, true, false), (4, true, false), (5, true, false), (6, true, false), (7, true, false), (8, true, false), (9, true, false), (10, true, false), (11, false, false), (12, true, false), (13, true, false)] (by kernel_rfl) (by kernel_rfl) (by kernel_rfl) rfl rfl ?_) | (go_at_call 18; go_must ((with_reducible refine Calls.mono (HC.out _) ?_); rintro _ w2 ⟨rfl, hb2⟩; dsimp only)) | (with_reducible refine Keep.last ?_) | (with_reducible refine Keep.below (by assumption) ?_) | (with_reducible refine Keep.kept (by assumption) ?_) | (with_reducible refine Keep.alloc ?_) | (with_reducible refine Keep.same ?_) | ((with_reducible refine WpH.here ?_); first | (refine WpH.nil ?_; refine NoP.normal ?_) | (refine WpH.load (by rfl) (by rfl) (by go_simp; rfl) ?_; simp only [Act.put, List.setIfInBounds_toArray, List.set_cons_zero, List.set_cons_succ]) | (refine WpH.loadT (by rfl) (by rfl) (by go_simp; rfl) (by rintro _ _ ⟨⟩; exact ⟨_, _, _, _, _, _, by rfl, by assumption, by assumption⟩) ?_; simp only [Act.put, List.setIfInBounds_toArray, List.set_cons_zero, List.set_cons_succ]) | (refine WpH.pure (by rfl) (fun w_ => by go_simp; (try go_bits); rfl) ?_; simp only [Act.put, List.setIfInBounds_toArray, List.set_cons_zero, List.set_cons_succ]) | (refine WpH.wild1 (by rfl) (fun _ _ => ?_)) | (refine WpH.skip (by rfl) ?_; simp only [Act.put, List.setIfInBounds_toArray, List.set_cons_zero, List.set_cons_succ])) | go_values | go_skip | go_guarded | go_step | go_upon | go_back)
        skip
        go_roundw
        case rel =>
          obtain ⟨hu, hv, hCut, hC, hh, hx, hy⟩ := Hf.out
          have := hCut.le
          exact ⟨h + 1, v, C + 1, t, by go_num, rfl, by omega, hv, hCut.right hL.out hR.out (by omega) (by omega) hx hy hl'.out, PR.step (PR.drew Hw.out) hb2, hO.drewS.trans (Out.of_below (S := fun k => k = g) hb2) fun _ _ h => h⟩
        case measure =>
          have := Hf.out.1
          have := Hf.out.2.1
          have := Hf.out.2.2.2.1
          have := Hf.out.2.2.2.2.1
          simp [intOf]; omega
    · obtain rfl : u = v := by omega
      obtain rfl : s = t := by omega
      have huB : u ≤ 1048576 := by omega
      obtain ⟨e, he⟩ : ∃ e, e = m + (K - s) := ⟨_, rfl⟩
      have heI : (nn : Int) - (u : Int) = (e : Int) := by omega
      obtain ⟨L1, L2, R1, R2, hF⟩ := four_of (Q := Q) ha hm hbR hmd hu he hCut hL.out hR.out
      have HB : Hid ((0 < L1.length ∨ (0 < L2.length ∧ 0 < R1.length)) ∧ (0 < R1.length ∨ (0 < R2.length ∧ 0 < L1.length)) ∧ (0 < R2.length ∨ 0 < R1.length)) := hid (by
        have := hF.hu
        have := hF.hm
        have := hF.he
        have := hF.hb
        have := hF.ha
        have := hF.hd
        omega)
      have HF := hid hF
      have Hw := hid hown
      clear hu hv hCut hown huv htk htl hrs ha hm hbR hl hL2 hR2 hK hmd hF he
      by_cases al : 0 < L2.length
      · skip
        by_cases be : 0 < R1.length
        · skip
          by_cases ga : 0 < L1.length
          · skip
            by_cases de : 0 < R2.length
            · skip
              have hA1 : (u : Int) < m := by have := HF.out.hm; omega
              have hA2 : (m : Int) < e := by have := HF.out.he; omega
              have HS := hid (rotate_any wr base g n c u m e (.func (.func 18) #[] #[]) (P ++ L1) L2 R1 (R2 ++ Q) (by rw [← HF.out.eq]; exact Hw.out) (by have := hO.size; omega) hn (by have := HF.out.ha; have := HF.out.hu; simp; omega) HF.out.hm HF.out.he (by omega) (by omega))
              repeat' (first | (go_at_call 81; go_must ((with_reducible refine Calls.mono HS.out ?_); rintro _ w1 ⟨rfl, hown1, hO1⟩; dsimp only)) | (with_reducible refine stop_region 41 ?_) | (with_reducible refine Keep.last ?_) | (with_reducible refine Keep.below (by assumption) ?_) | (with_reducible refine Keep.kept (by assumption) ?_) | (with_reducible refine Keep.alloc ?_) | (with_reducible refine Keep.same ?_) | ((with_reducible refine WpH.here ?_); first | (refine WpH.nil ?_; refine NoP.normal ?_) | (refine WpH.load (by rfl) (by rfl) (by go_simp; rfl) ?_; simp only [Act.put, List.setIfInBounds_toArray, List.set_cons_zero, List.set_cons_succ]) | (refine WpH.loadT (by rfl) (by rfl) (by go_simp; rfl) (by rintro _ _ ⟨⟩; exact ⟨_, _, _, _, _, _, by rfl, by assumption, by assumption⟩) ?_; simp only [Act.put, List.setIfInBounds_toArray, List.set_cons_zero, List.set_cons_succ]) | (refine WpH.pure (by rfl) (fun w_ => by go_simp; (try go_bits); rfl) ?_; simp only [Act.put, List.setIfInBounds_toArray, List.set_cons_zero, List.set_cons_succ]) | (refine WpH.wild1 (by rfl) (fun _ _ => ?_)) | (refine WpH.skip (by rfl) ?_; simp only [Act.put, List.setIfInBounds_toArray, List.set_cons_zero, List.set_cons_succ])) | go_values | go_skip | go_guarded | go_step | go_upon | go_back)
              refine Stop.go ?_
              have HT1 : Hid (PR w1 base g n c (P ++ (L1 ++ (R1 ++ (L2 ++ (R2 ++ Q)))))) := hid (by simpa using hown1)
              have hW1 : Out (fun k => k = g) w w1 := hO.trans hO1 fun _ _ h => h
              clear hown1 hO1 HS Hw hO
              have hB1 : (a : Int) < u := by have := HF.out.hu; omega
              have hB2 : (u : Int) < md := by have := HF.out.hd; omega
              have HS := hid (IH.out w1 base g n c a u md P L1 R1 (L2 ++ (R2 ++ Q)) HT1.out (by have := hW1.size; omega) hn HF.out.ha HF.out.hu HF.out.hd (by omega) (by omega) HF.out.p1 HF.out.q1 (by have := HF.out.hu; have := HF.out.hm; have := HF.out.hb; have := HF.out.he; have := HF.out.hd; omega))
              repeat' (first | (go_at_call 60; go_must ((with_reducible refine Calls.mono HS.out ?_); rintro _ w2 ⟨rfl, ⟨X1, hs1, hown2⟩, hO2⟩; dsimp only)) | (with_reducible refine stop_region 43 ?_) | go_values | go_skip | go_guarded | go_step | go_upon | go_back)
              refine Stop.go ?_
              have HT2 : Hid (PR w2 base g n c ((P ++ X1) ++ (L2 ++ (R2 ++ Q)))) := hid (by simpa using hown2)
              have hW2 : Out (fun k => k = g) w w2 := hW1.trans hO2 fun _ _ h => h
              have Hs1 := hid hs1
              clear hown2 hO2 HS HT1 hW1 hs1
              have hC1 : (md : Int) < e := by have := HF.out.hm; have := HF.out.he; have := HF.out.hd; omega
              have hC2 : (e : Int) < b := by have := HF.out.hb; omega
              have HS := hid (IH.out w2 base g n c md e b (P ++ X1) L2 R2 Q HT2.out (by have := hW2.size; omega) hn (by have := HF.out.ha; have := HF.out.hu; have := HF.out.hd; have := Hs1.out.length; simp at this ⊢; omega) (by have := HF.out.hm; have := HF.out.he; have := HF.out.hd; omega) HF.out.hb (by omega) (by omega) HF.out.p2 HF.out.q2 (by have := HF.out.hu; have := HF.out.hm; have := HF.out.hb; have := HF.out.he; have := HF.out.hd; omega))
              repeat' (first | (go_at_call 60; go_must ((with_reducible refine Calls.mono HS.out ?_); rintro _ w3 ⟨rfl, ⟨X2, hs2, hown3⟩, hO3⟩; dsimp only)) | go_values | go_skip | go_guarded | go_step | go_upon | go_back)
              skip
              go_end0
              exact ⟨rfl, ⟨X1 ++ X2, HF.out.srt X1 X2 Hs1.out hs2, by simpa using hown3⟩, hW2.trans hO3 fun _ _ h => h⟩
            · skip
              have hA1 : (u : Int) < m := by have := HF.out.hm; omega
              have hA2 : (m : Int) < e := by have := HF.out.he; omega
              have HS := hid (rotate_any wr base g n c u m e (.func (.func 18) #[] #[]) (P ++ L1) L2 R1 (R2 ++ Q) (by rw [← HF.out.eq]; exact Hw.out) (by have := hO.size; omega) hn (by have := HF.out.ha; have := HF.out.hu; simp; omega) HF.out.hm HF.out.he (by omega) (by omega))
              repeat' (first | (go_at_call 81; go_must ((with_reducible refine Calls.mono HS.out ?_); rintro _ w1 ⟨rfl, hown1, hO1⟩; dsimp only)) | (with_reducible refine stop_region 41 ?_) | go_values | go_skip | go_guarded | go_step | go_upon | go_back)
              refine Stop.go ?_
              have HT1 : Hid (PR w1 base g n c (P ++ (L1 ++ (R1 ++ (L2 ++ (R2 ++ Q)))))) := hid (by simpa using hown1)
              have hW1 : Out (fun k => k = g) w w1 := hO.trans hO1 fun _ _ h => h
              clear hown1 hO1 HS Hw hO
              have hB1 : (a : Int) < u := by have := HF.out.hu; omega
              have hB2 : (u : Int) < md := by have := HF.out.hd; omega
              have HS := hid (IH.out w1 base g n c a u md P L1 R1 (L2 ++ (R2 ++ Q)) HT1.out (by have := hW1.size; omega) hn HF.out.ha HF.out.hu HF.out.hd (by omega) (by omega) HF.out.p1 HF.out.q1 (by have := HF.out.hu; have := HF.out.hm; have := HF.out.hb; have := HF.out.he; have := HF.out.hd; omega))
              repeat' (first | (go_at_call 60; go_must ((with_reducible refine Calls.mono HS.out ?_); rintro _ w2 ⟨rfl, ⟨X1, hs1, hown2⟩, hO2⟩; dsimp only)) | (with_reducible refine stop_region 43 ?_) | go_values | go_skip | go_guarded | go_step | go_upon | go_back)
              refine Stop.go ?_
              have HT2 : Hid (PR w2 base g n c ((P ++ X1) ++ (L2 ++ (R2 ++ Q)))) := hid (by simpa using hown2)
              have hW2 : Out (fun k => k = g) w w2 := hW1.trans hO2 fun _ _ h => h
              have Hs1 := hid hs1
              clear hown2 hO2 HS HT1 hW1 hs1
              have hC1 : (md : Int) < e := by have := HF.out.hm; have := HF.out.he; have := HF.out.hd; omega
              have hC2 : ¬ (e : Int) < b := by have := HF.out.hb; omega
              repeat' (first | go_values | go_skip | go_guarded | go_step | go_upon | go_back)
              skip
              go_end0
              exact ⟨rfl, ⟨X1 ++ (L2 ++ R2), HF.out.srt X1 (L2 ++ R2) Hs1.out (one_refl HF.out.p2 HF.out.q2 (by omega)), by simpa using HT2.out⟩, hW2⟩
          · skip
            by_cases de : 0 < R2.length
            · skip
              have hA1 : (u : Int) < m := by have := HF.out.hm; omega
              have hA2 : (m : Int) < e := by have := HF.out.he; omega
              have HS := hid (rotate_any wr base g n c u m e (.func (.func 18) #[] #[]) (P ++ L1) L2 R1 (R2 ++ Q) (by rw [← HF.out.eq]; exact Hw.out) (by have := hO.size; omega) hn (by have := HF.out.ha; have := HF.out.hu; simp; omega) HF.out.hm HF.out.he (by omega) (by omega))
              repeat' (first | (go_at_call 81; go_must ((with_reducible refine Calls.mono HS.out ?_); rintro _ w1 ⟨rfl, hown1, hO1⟩; dsimp only)) | (with_reducible refine stop_region 41 ?_) | go_values | go_skip | go_guarded | go_step | go_upon | go_back)
              refine Stop.go ?_
              have HT1 : Hid (PR w1 base g n c (P ++ (L1 ++ (R1 ++ (L2 ++ (R2 ++ Q)))))) := hid (by simpa using hown1)
              have hW1 : Out (fun k => k = g) w w1 := hO.trans hO1 fun _ _ h => h
              clear hown1 hO1 HS Hw hO
              have hB1 : ¬ (a : Int) < u := by have := HF.out.hu; omega
              obtain ⟨X1, hX1⟩ : ∃ X1, X1 = L1 ++ R1 := ⟨_, rfl⟩
              have Hs1 : Hid (StSort Pl.p (L1 ++ R1) X1) := hid (by rw [hX1]; exact one_refl HF.out.p1 HF.out.q1 (by omega))
              have HT2 : Hid (PR w1 base g n c ((P ++ X1) ++ (L2 ++ (R2 ++ Q)))) := hid (by rw [hX1]; simpa using HT1.out)
              have hW2 := hW1
              clear HT1 hW1 hX1
              repeat' (first | (with_reducible refine stop_region 43 ?_) | go_values | go_skip | go_guarded | go_step | go_upon | go_back)
              refine Stop.go ?_
              have hC1 : (md : Int) < e := by have := HF.out.hm; have := HF.out.he; have := HF.out.hd; omega
              have hC2 : (e : Int) < b := by have := HF.out.hb; omega
              have HS := hid (IH.out w1 base g n c md e b (P ++ X1) L2 R2 Q HT2.out (by have := hW2.size; omega) hn (by have := HF.out.ha; have := HF.out.hu; have := HF.out.hd; have := Hs1.out.length; simp at this ⊢; omega) (by have := HF.out.hm; have := HF.out.he; have := HF.out.hd; omega) HF.out.hb (by omega) (by omega) HF.out.p2 HF.out.q2 (by have := HF.out.hu; have := HF.out.hm; have := HF.out.hb; have := HF.out.he; have := HF.out.hd; omega))
              repeat' (first | (go_at_call 60; go_must ((with_reducible refine Calls.mono HS.out ?_); rintro _ w3 ⟨rfl, ⟨X2, hs2, hown3⟩, hO3⟩; dsimp only)) | go_values | go_skip | go_guarded | go_step | go_upon | go_back)
              skip
              go_end0
              exact ⟨rfl, ⟨X1 ++ X2, HF.out.srt X1 X2 Hs1.out hs2, by simpa using hown3⟩, hW2.trans hO3 fun _ _ h => h⟩
            · skip
              have hA1 : (u : Int) < m := by have := HF.out.hm; omega
              have hA2 : (m : Int) < e := by have := HF.out.he; omega
              have HS := hid (rotate_any wr base g n c u m e (.func (.func 18) #[] #[]) (P ++ L1) L2 R1 (R2 ++ Q) (by rw [← HF.out.eq]; exact Hw.out) (by have := hO.size; omega) hn (by have := HF.out.ha; have := HF.out.hu; simp; omega) HF.out.hm HF.out.he (by omega) (by omega))
              repeat' (first | (go_at_call 81; go_must ((with_reducible refine Calls.mono HS.out ?_); rintro _ w1 ⟨rfl, hown1, hO1⟩; dsimp only)) | (with_reducible refine stop_region 41 ?_) | go_values | go_skip | go_guarded | go_step | go_upon | go_back)
              refine Stop.go ?_
              have HT1 : Hid (PR w1 base g n c (P ++ (L1 ++ (R1 ++ (L2 ++ (R2 ++ Q)))))) := hid (by simpa using hown1)
              have hW1 : Out (fun k => k = g) w w1 := hO.trans hO1 fun _ _ h => h
              clear hown1 hO1 HS Hw hO
              have hB1 : ¬ (a : Int) < u := by have := HF.out.hu; omega
              obtain ⟨X1, hX1⟩ : ∃ X1, X1 = L1 ++ R1 := ⟨_, rfl⟩
              have Hs1 : Hid (StSort Pl.p (L1 ++ R1) X1) := hid (by rw [hX1]; exact one_refl HF.out.p1 HF.out.q1 (by omega))
              have HT2 : Hid (PR w1 base g n c ((P ++ X1) ++ (L2 ++ (R2 ++ Q)))) := hid (by rw [hX1]; simpa using HT1.out)
              have hW2 := hW1
              clear HT1 hW1 hX1
              repeat' (first | (with_reducible refine stop_region 43 ?_) | go_values | go_skip | go_guarded | go_step | go_upon | go_back)
              refine Stop.go ?_
              have hC1 : (md : Int) < e := by have := HF.out.hm; have := HF.out.he; have := HF.out.hd; omega
              have hC2 : ¬ (e : Int) < b := by have := HF.out.hb; omega
              repeat' (first | go_values | go_skip | go_guarded | go_step | go_upon | go_back)
              skip
              go_end0
              exact ⟨rfl, ⟨X1 ++ (L2 ++ R2), HF.out.srt X1 (L2 ++ R2) Hs1.out (one_refl HF.out.p2 HF.out.q2 (by omega)), by simpa using HT2.out⟩, hW2⟩
        · skip
          by_cases ga : 0 < L1.length
          · skip
            by_cases de : 0 < R2.length
            · skip
              have hA1 : (u : Int) < m := by have := HF.out.hm; omega
              have hA2 : ¬ (m : Int) < e := by have := HF.out.he; omega
              have HT1 : Hid (PR wr base g n c (P ++ (L1 ++ (R1 ++ (L2 ++ (R2 ++ Q)))))) := hid (by have := Hw.out; rw [HF.out.eq, swap_none (by omega)] at this; simpa using this)
              have hW1 := hO
              clear Hw hO
              repeat' (first | (with_reducible refine stop_region 41 ?_) | go_values | go_skip | go_guarded | go_step | go_upon | go_back)
              refine Stop.go ?_
              have hB1 : (a : Int) < u := by have := HF.out.hu; omega
              have hB2 : ¬ (u : Int) < md := by have := HF.out.hd; omega
              obtain ⟨X1, hX1⟩ : ∃ X1, X1 = L1 ++ R1 := ⟨_, rfl⟩
              have Hs1 : Hid (StSort Pl.p (L1 ++ R1) X1) := hid (by rw [hX1]; exact one_refl HF.out.p1 HF.out.q1 (by omega))
              have HT2 : Hid (PR wr base g n c ((P ++ X1) ++ (L2 ++ (R2 ++ Q)))) := hid (by rw [hX1]; simpa using HT1.out)
              have hW2 := hW1
              clear HT1 hW1 hX1
              repeat' (first | (with_reducible refine stop_region 43 ?_) | go_values | go_skip | go_guarded | go_step | go_upon | go_back)
              refine Stop.go ?_
              have hC1 : (md : Int) < e := by have := HF.out.hm; have := HF.out.he; have := HF.out.hd; omega
              have hC2 : (e : Int) < b := by have := HF.out.hb; omega
              have HS := hid (IH.out wr base g n c md e b (P ++ X1) L2 R2 Q HT2.out (by have := hW2.size; omega) hn (by have := HF.out.ha; have := HF.out.hu; have := HF.out.hd; have := Hs1.out.length; simp at this ⊢; omega) (by have := HF.out.hm; have := HF.out.he; have := HF.out.hd; omega) HF.out.hb (by omega) (by omega) HF.out.p2 HF.out.q2 (by have := HF.out.hu; have := HF.out.hm; have := HF.out.hb; have := HF.out.he; have := HF.out.hd; omega))
              repeat' (first | (go_at_call 60; go_must ((with_reducible refine Calls.mono HS.out ?_); rintro _ w3 ⟨rfl, ⟨X2, hs2, hown3⟩, hO3⟩; dsimp only)) | go_values | go_skip | go_guarded | go_step | go_upon | go_back)
              skip
              go_end0
              exact ⟨rfl, ⟨X1 ++ X2, HF.out.srt X1 X2 Hs1.out hs2, by simpa using hown3⟩, hW2.trans hO3 fun _ _ h => h⟩
            · skip
              exfalso
              have := HB.out
              omega
          · skip
            by_cases de : 0 < R2.length
            · skip
              exfalso
              have := HB.out
              omega
            · skip
              exfalso
              have := HB.out
              omega
      · skip
        by_cases be : 0 < R1.length
        · skip
          by_cases ga : 0 < L1.length
          · skip
            by_cases de : 0 < R2.length
            · skip
              have hA1 : ¬ (u : Int) < m := by have := HF.out.hm; omega
              have HT1 : Hid (PR wr base g n c (P ++ (L1 ++ (R1 ++ (L2 ++ (R2 ++ Q)))))) := hid (by have := Hw.out; rw [HF.out.eq, swap_none (by omega)] at this; simpa using this)
              have hW1 := hO
              clear Hw hO
              repeat' (first | (with_reducible refine stop_region 41 ?_) | go_values | go_skip | go_guarded | go_step | go_upon | go_back)
              refine Stop.go ?_
              have hB1 : (a : Int) < u := by have := HF.out.hu; omega
              have hB2 : (u : Int) < md := by have := HF.out.hd; omega
              have HS := hid (IH.out wr base g n c a u md P L1 R1 (L2 ++ (R2 ++ Q)) HT1.out (by have := hW1.size; omega) hn HF.out.ha HF.out.hu HF.out.hd (by omega) (by omega) HF.out.p1 HF.out.q1 (by have := HF.out.hu; have := HF.out.hm; have := HF.out.hb; have := HF.out.he; have := HF.out.hd; omega))
              repeat' (first | (go_at_call 60; go_must ((with_reducible refine Calls.mono HS.out ?_); rintro _ w2 ⟨rfl, ⟨X1, hs1, hown2⟩, hO2⟩; dsimp only)) | (with_reducible refine stop_region 43 ?_) | go_values | go_skip | go_guarded | go_step | go_upon | go_back)
              refine Stop.go ?_
              have HT2 : Hid (PR w2 base g n c ((P ++ X1) ++ (L2 ++ (R2 ++ Q)))) := hid (by simpa using hown2)
              have hW2 : Out (fun k => k = g) w w2 := hW1.trans hO2 fun _ _ h => h
              have Hs1 := hid hs1
              clear hown2 hO2 HS HT1 hW1 hs1
              have hC1 : ¬ (md : Int) < e := by have := HF.out.hm; have := HF.out.he; have := HF.out.hd; omega
              repeat' (first | go_values | go_skip | go_guarded | go_step | go_upon | go_back)
              skip
              go_end0
              exact ⟨rfl, ⟨X1 ++ (L2 ++ R2), HF.out.srt X1 (L2 ++ R2) Hs1.out (one_refl HF.out.p2 HF.out.q2 (by omega)), by simpa using HT2.out⟩, hW2⟩
            · skip
              have hA1 : ¬ (u : Int) < m := by have := HF.out.hm; omega
              have HT1 : Hid (PR wr base g n c (P ++ (L1 ++ (R1 ++ (L2 ++ (R2 ++ Q)))))) := hid (by have := Hw.out; rw [HF.out.eq, swap_none (by omega)] at this; simpa using this)
              have hW1 := hO
              clear Hw hO
              repeat' (first | (with_reducible refine stop_region 41 ?_) | go_values | go_skip | go_guarded | go_step | go_upon | go_back)
              refine Stop.go ?_
              have hB1 : (a : Int) < u := by have := HF.out.hu; omega
              have hB2 : (u : Int) < md := by have := HF.out.hd; omega
              have HS := hid (IH.out wr base g n c a u md P L1 R1 (L2 ++ (R2 ++ Q)) HT1.out (by have := hW1.size; omega) hn HF.out.ha HF.out.hu HF.out.hd (by omega) (by omega) HF.out.p1 HF.out.q1 (by have := HF.out.hu; have := HF.out.hm; have := HF.out.hb; have := HF.out.he; have := HF.out.hd; omega))
              repeat' (first | (go_at_call 60; go_must ((with_reducible refine Calls.mono HS.out ?_); rintro _ w2 ⟨rfl, ⟨X1, hs1, hown2⟩, hO2⟩; dsimp only)) | (with_reducible refine stop_region 43 ?_) | go_values | go_skip | go_guarded | go_step | go_upon | go_back)
              refine Stop.go ?_
              have HT2 : Hid (PR w2 base g n c ((P ++ X1) ++ (L2 ++ (R2 ++ Q)))) := hid (by simpa using hown2)
              have hW2 : Out (fun k => k = g) w w2 := hW1.trans hO2 fun _ _ h => h
              have Hs1 := hid hs1
              clear hown2 hO2 HS HT1 hW1 hs1
              have hC1 : ¬ (md : Int) < e := by have := HF.out.hm; have := HF.out.he; have := HF.out.hd; omega
              repeat' (first | go_values | go_skip | go_guarded | go_step | go_upon | go_back)
              skip
              go_end0
              exact ⟨rfl, ⟨X1 ++ (L2 ++ R2), HF.out.srt X1 (L2 ++ R2) Hs1.out (one_refl HF.out.p2 HF.out.q2 (by omega)), by simpa using HT2.out⟩, hW2⟩
          · skip
            by_cases de : 0 < R2.length
            · skip
              exfalso
              have := HB.out
              omega
            · skip
              exfalso
              have := HB.out
              omega
        · skip
          by_cases ga : 0 < L1.length
          · skip
            by_cases de : 0 < R2.length
            · skip
              have hA1 : ¬ (u : Int) < m := by have := HF.out.hm; omega
              have HT1 : Hid (PR wr base g n c (P ++ (L1 ++ (R1 ++ (L2 ++ (R2 ++ Q)))))) := hid (by have := Hw.out; rw [HF.out.eq, swap_none (by omega)] at this; simpa using this)
              have hW1 := hO
              clear Hw hO
              repeat' (first | (with_reducible refine stop_region 41 ?_) | go_values | go_skip | go_guarded | go_step | go_upon | go_back)
              refine Stop.go ?_
              have hB1 : (a : Int) < u := by have := HF.out.hu; omega
              have hB2 : ¬ (u : Int) < md := by have := HF.out.hd; omega
              obtain ⟨X1, hX1⟩ : ∃ X1, X1 = L1 ++ R1 := ⟨_, rfl⟩
              have Hs1 : Hid (StSort Pl.p (L1 ++ R1) X1) := hid (by rw [hX1]; exact one_refl HF.out.p1 HF.out.q1 (by omega))
              have HT2 : Hid (PR wr base g n c ((P ++ X1) ++ (L2 ++ (R2 ++ Q)))) := hid (by rw [hX1]; simpa using HT1.out)
              have hW2 := hW1
              clear HT1 hW1 hX1
              repeat' (first | (with_reducible refine stop_region 43 ?_) | go_values | go_skip | go_guarded | go_step | go_upon | go_back)
              refine Stop.go ?_
              have hC1 : ¬ (md : Int) < e := by have := HF.out.hm; have := HF.out.he; have := HF.out.hd; omega
              repeat' (first | go_values | go_skip | go_guarded | go_step | go_upon | go_back)
              skip
              go_end0
              exact ⟨rfl, ⟨X1 ++ (L2 ++ R2), HF.out.srt X1 (L2 ++ R2) Hs1.out (one_refl HF.out.p2 HF.out.q2 (by omega)), by simpa using HT2.out⟩, hW2⟩
            · skip
              exfalso
              have := HB.out
              omega
          · skip
            by_cases de : 0 < R2.length
            · skip
              exfalso
              have := HB.out
              omega
            · skip
              exfalso
              have := HB.out
              omega
theorem symMerge_any : ∀ N, SymOk N
  | 0 => fun w base g n c a m b P L R Q h hb hn ha hm hbR hL0 hR0 hL hR hN => by omega
  | N + 1 => fun w base g n c a m b P L R Q h hb hn ha hm hbR hL0 hR0 hL hR hN => by
    by_cases h1 : L.length = 1
    · obtain ⟨x, rfl⟩ := List.length_eq_one_iff.1 h1
      exact sym_left w base g n c a m b P R Q x h hb hn ha (by simpa using hm) hbR hR
    · by_cases h2 : R.length = 1
      · obtain ⟨y, rfl⟩ := List.length_eq_one_iff.1 h2
        exact sym_right w base g n c a m b P L Q y h hb hn ha hm (by simpa using hbR) h1 hL
      · rcases Nat.lt_or_ge (a + (L.length + R.length) / 2) m with hs | hs
        · exact sym_more N (symMerge_any N) w base g n c a m b P L R Q h hb hn ha hm hbR (by omega) (by omega) hL hR hN hs
        · exact sym_less N (symMerge_any N) w base g n c a m b P L R Q h hb hn ha hm hbR (by omega) (by omega) hL hR hN hs
end Go.Proofs.YtnpbbidiloahdaaDoor
