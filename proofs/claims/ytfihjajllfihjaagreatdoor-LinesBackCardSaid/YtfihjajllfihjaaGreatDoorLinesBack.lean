/- barrowlaw06.LinesBack: the walk: it returns true. Conditions: the rows and the reasons lie in memory, characters fit their kind. -/
import Derived.Test.YtfihjajllfihjaaGreatDoorWakes6
import Derived.Test.YtfihjajllfihjaaGreatDoorUtf8
import Derived.Test.YtfihjajllfihjaaGreatDoorSplitU
namespace Go.Proofs.YtfihjajllfihjaaGreatDoor
set_option linter.unusedSimpArgs false
set_option linter.unusedVariables false
open Go Go.RowKit
variable {a : Nat → Addr}
/-- pieces without a byte 10 are told by the text that they are cut of -/
theorem endedU_inj : ∀ (P Q : List (List UInt8)), (∀ x ∈ P, (10 : UInt8) ∉ x) → (∀ x ∈ Q, (10 : UInt8) ∉ x) → endedU P = endedU Q → P = Q
  | [], [], _, _, _ => rfl
  | [], y :: Q, _, _, h => by
    rw [show y :: Q = [y] ++ Q from rfl, endedU_append, endedU_one] at h
    have := congrArg List.length h
    simp [endedU] at this
  | x :: P, [], _, _, h => by
    rw [show x :: P = [x] ++ P from rfl, endedU_append, endedU_one] at h
    have := congrArg List.length h
    simp [endedU] at this
  | x :: P, y :: Q, hP, hQ, h => by
    rw [show x :: P = [x] ++ P from rfl, show y :: Q = [y] ++ Q from rfl, endedU_append, endedU_append, endedU_one, endedU_one, List.append_assoc, List.append_assoc] at h
    have hx : (10 : UInt8) ∉ x := hP x List.mem_cons_self
    have hy : (10 : UInt8) ∉ y := hQ y List.mem_cons_self
    have key : ∀ (u v p q : List UInt8), (10 : UInt8) ∉ u → (10 : UInt8) ∉ v → u ++ ([10] ++ p) = v ++ ([10] ++ q) → u = v ∧ p = q := by
      intro u
      induction u with
      | nil =>
        intro v p q _ hv h
        cases v with
        | nil => exact ⟨rfl, by simpa using h⟩
        | cons c v =>
          simp at h
          exact absurd (h.1 ▸ List.mem_cons_self) hv
      | cons c u ih =>
        intro v p q hu hv h
        cases v with
        | nil =>
          simp at h
          exact absurd (h.1 ▸ List.mem_cons_self) hu
        | cons d v =>
          rw [List.cons_append, List.cons_append] at h
          injection h with h1 h2
          obtain ⟨e1, e2⟩ := ih v p q (fun m => hu (List.mem_cons_of_mem _ m)) (fun m => hv (List.mem_cons_of_mem _ m)) h2
          exact ⟨by rw [h1, e1], e2⟩
    obtain ⟨e1, e2⟩ := key x y _ _ hx hy h
    rw [e1, endedU_inj P Q (fun z hz => hP z (List.mem_cons_of_mem _ hz)) (fun z hz => hQ z (List.mem_cons_of_mem _ hz)) e2]
theorem ended_utf8 (ls : List (List Int)) : endedU (ls.map utf8S) = utf8S (endedS ls) := by
  induction ls with
  | nil => rfl
  | cons x ls ih =>
    rw [List.map_cons, show utf8S x :: ls.map utf8S = [utf8S x] ++ ls.map utf8S from rfl, show x :: ls = [x] ++ ls from rfl, endedU_append, endedS_append, endedU_one, endedS_one, ih, utf8S_append, utf8S_append, utf8S_one, enc_ten]
theorem split_utf8 {s : List Int} (hr : ∀ x ∈ s, rightC x = true) {P : List (List UInt8)} (h : IsCut (utf8S s) P) : P = (splitS s).map utf8S := by
  refine endedU_inj _ _ h.2 (fun x hx => ?_) ?_
  · obtain ⟨y, hy, rfl⟩ := List.mem_map.1 hx
    obtain ⟨k, hk⟩ := List.getElem?_of_mem hy
    exact utf8S_no (fun c hc => hr c (splitS_mem hk c hc)) (splitS_none hy)
  · rw [h.1, ended_utf8, splitS_joined, utf8S_append, utf8S_one, enc_ten]
/-- the first k pieces, with bytes 10 between -/
def joinU (P : List (List UInt8)) (k : Nat) : List UInt8 := (endedU (P.take k)).dropLast
theorem joinU_zero (P : List (List UInt8)) : joinU P 0 = [] := rfl
theorem joinU_one {P : List (List UInt8)} {x : List UInt8} (h : P[0]? = some x) : joinU P 1 = x := by
  unfold joinU
  rw [List.take_add_one, h]
  simp [endedU]
theorem joinU_succ {P : List (List UInt8)} {k : Nat} {x : List UInt8} (hk : 0 < k) (hkl : k ≤ P.length) (h : P[k]? = some x) : joinU P (k + 1) = joinU P k ++ [10] ++ x := by
  unfold joinU
  rw [List.take_add_one, h, endedU_append, show (some x).toList = [x] from rfl, endedU_one, ← List.append_assoc, List.dropLast_concat]
  congr 1
  obtain ⟨j, rfl⟩ : ∃ j, k = j + 1 := ⟨k - 1, by omega⟩
  have hj : P[j]? = some P[j] := List.getElem?_eq_getElem (by omega)
  rw [List.take_add_one, hj, endedU_append, show (some P[j]).toList = [P[j]] from rfl, endedU_one, ← List.append_assoc, List.dropLast_concat]
theorem joinU_all {s : List UInt8} {P : List (List UInt8)} (h : IsCut s P) : joinU P P.length = s := by
  unfold joinU
  rw [List.take_length, h.1, List.dropLast_concat]
theorem joinU_le {s : List UInt8} {P : List (List UInt8)} (h : IsCut s P) (k : Nat) : (joinU P k).length ≤ s.length + 1 := by
  have h1 := congrArg List.length h.1
  conv at h1 => lhs; rw [← List.take_append_drop k P, endedU_append]
  rw [List.length_append, List.length_append, List.length_singleton] at h1
  unfold joinU
  rw [List.length_dropLast]
  omega
set_option maxRecDepth 100000 in
set_option maxHeartbeats 8000000 in
theorem lback_true (w : World) (A B0 : Option Addr) (n c m0 d : Nat) (l : List Int) (hs_ : List Bool) (S S2 S' : Nat → Prop) (h : GRow w S A n c (l.map Rn.mk)) (h2 : GRow w S2 B0 m0 d hs_) (hin : ∀ e ∈ l, I32 e) (hs : Sents w S' a) :
    Calls Tryz.prog 6 #[.slice A n c, .slice B0 m0 d] w fun e w' => e = .returned (.bool true) ∧ Below w.heap.size w w' := by
  have HB := hid (begun6_any w A B0 n c m0 d l hs_ S S2 h h2 hin)
  have hs0 := hs.narrow
  have Hs := hid hs0
  clear h h2 hs hs0 hin
  go_enter Tryz.func6, Tryz.ntmps6
  repeat' (first | (go_at_call 18; go_must ((with_reducible refine Calls.mono HB.out ?_); rintro _ w1 ⟨⟨mb, A1, c1, X, n1, -, rfl, hM, hgr, hn1, hXl⟩, hb1⟩; dsimp only)) | (with_reducible refine stop_region 4 ?_) | (with_reducible refine Keep.last ?_) | (with_reducible refine Keep.below (by assumption) ?_) | (with_reducible refine Keep.kept (by assumption) ?_) | (with_reducible refine Keep.alloc ?_) | (with_reducible refine Keep.same ?_) | ((with_reducible refine WpH.here ?_); first | (refine WpH.nil ?_; refine NoP.normal ?_) | (refine WpH.load (by rfl) (by rfl) (by go_simp; rfl) ?_; simp only [Act.put, List.setIfInBounds_toArray, List.set_cons_zero, List.set_cons_succ]) | (refine WpH.loadT (by rfl) (by rfl) (by go_simp; rfl) (by rintro _ _ ⟨⟩; exact ⟨_, _, _, _, _, _, by rfl, by assumption, by assumption⟩) ?_; simp only [Act.put, List.setIfInBounds_toArray, List.set_cons_zero, List.set_cons_succ]) | (refine WpH.pure (by rfl) (fun w_ => by go_simp; (try go_bits); rfl) ?_; simp only [Act.put, List.setIfInBounds_toArray, List.set_cons_zero, List.set_cons_succ]) | (refine WpH.wild1 (by rfl) (fun _ _ => ?_)) | (refine WpH.skip (by rfl) ?_; simp only [Act.put, List.setIfInBounds_toArray, List.set_cons_zero, List.set_cons_succ])) | go_values | go_skip | go_guarded | go_step | go_upon | go_back)
  refine Stop.go ?_
  have hlv := liveOf_le X
  have HM := hid hM
  obtain ⟨lv, hlve⟩ : ∃ lv, liveOf X = lv := ⟨_, rfl⟩
  have Hlv := hid hlve
  rw [hlve]
  have hlvb : lv ≤ 150 := by omega
  clear hM hgr HB hn1 hlve hlv
  repeat' (first | (with_reducible refine Keep.last ?_) | (with_reducible refine Keep.below (by assumption) ?_) | (with_reducible refine Keep.kept (by assumption) ?_) | (with_reducible refine Keep.alloc ?_) | (with_reducible refine Keep.same ?_) | ((with_reducible refine WpH.here ?_); first | (refine WpH.nil ?_; refine NoP.normal ?_) | (refine WpH.load (by rfl) (by rfl) (by go_simp; rfl) ?_; simp only [Act.put, List.setIfInBounds_toArray, List.set_cons_zero, List.set_cons_succ]) | (refine WpH.loadT (by rfl) (by rfl) (by go_simp; rfl) (by rintro _ _ ⟨⟩; exact ⟨_, _, _, _, _, _, by rfl, by assumption, by assumption⟩) ?_; simp only [Act.put, List.setIfInBounds_toArray, List.set_cons_zero, List.set_cons_succ]) | (refine WpH.pure (by rfl) (fun w_ => by go_simp; (try go_bits); rfl) ?_; simp only [Act.put, List.setIfInBounds_toArray, List.set_cons_zero, List.set_cons_succ]) | (refine WpH.wild1 (by rfl) (fun _ _ => ?_)) | (refine WpH.skip (by rfl) ?_; simp only [Act.put, List.setIfInBounds_toArray, List.set_cons_zero, List.set_cons_succ])) | go_values | go_skip | go_guarded | go_step | go_upon | go_back)
  go_loopw [7] (fun i wr => ∃ k : Nat, i = .int .i64 k ∧ k ≤ lv + 1 ∧ Below w1.heap.size w1 wr) (fun i _ => lv + 1 - (intOf i).toNat)
  case atStart => exact ⟨0, rfl, Nat.zero_le _, Below.refl _ _⟩
  case round =>
    obtain ⟨k, rfl, hk, hbr⟩ := hrel
    by_cases hlt : k ≤ lv
    · have hki : (k : Int) ≤ lv := by omega
      have HWo := hid (lwhere_ok _ _ mb X _ k (HM.out.step hbr) (by omega) (by have := Hlv.out; omega))
      repeat' (first | (go_at_call 19; go_must ((with_reducible refine Calls.mono HWo.out ?_); rintro _ w3 ⟨⟨kk, qc, hiw, hsq, rfl⟩, hb3⟩; have B := bvia hbr hb3; obtain ⟨x, hx, hx1, hx2⟩ := hiw; have hcq : colS x (qc : Nat) = qc := (by unfold colS; omega); have HPo := hid (lplace_ok w3 _ mb X _ kk (startS (rowsOf X) kk) 0 x (HM.out.step B) (by omega) hx rfl (qc : Nat)); rw [hcq, hsq] at HPo; clear hx hx1 hx2 hcq hsq; dsimp only)) | (go_at_call 20; go_must ((with_reducible refine Calls.mono HPo.out ?_); rintro _ w4 ⟨rfl, hb4⟩; have B := bvia B hb4; dsimp only)) | (with_reducible refine Keep.last ?_) | (with_reducible refine Keep.below (by assumption) ?_) | (with_reducible refine Keep.kept (by assumption) ?_) | (with_reducible refine Keep.alloc ?_) | (with_reducible refine Keep.same ?_) | ((with_reducible refine WpH.here ?_); first | (refine WpH.nil ?_; refine NoP.normal ?_) | (refine WpH.load (by rfl) (by rfl) (by go_simp; rfl) ?_; simp only [Act.put, List.setIfInBounds_toArray, List.set_cons_zero, List.set_cons_succ]) | (refine WpH.loadT (by rfl) (by rfl) (by go_simp; rfl) (by rintro _ _ ⟨⟩; exact ⟨_, _, _, _, _, _, by rfl, by assumption, by assumption⟩) ?_; simp only [Act.put, List.setIfInBounds_toArray, List.set_cons_zero, List.set_cons_succ]) | (refine WpH.pure (by rfl) (fun w_ => by go_simp; (try go_bits); rfl) ?_; simp only [Act.put, List.setIfInBounds_toArray, List.set_cons_zero, List.set_cons_succ]) | (refine WpH.wild1 (by rfl) (fun _ _ => ?_)) | (refine WpH.skip (by rfl) ?_; simp only [Act.put, List.setIfInBounds_toArray, List.set_cons_zero, List.set_cons_succ])) | go_values | go_skip | go_guarded | go_step | go_upon | go_back)
      skip
      go_roundw
      case rel => exact ⟨k + 1, by go_num, by omega, B⟩
      case measure => simp [intOf]; omega
    · have hki : ¬ (k : Int) ≤ lv := by omega
      obtain ⟨wv, hwv⟩ : ∃ wv, wv = wr := ⟨_, rfl⟩
      have hb0 : Below w1.heap.size w1 wv := by rw [hwv]; exact hbr
      rw [← hwv]
      clear hwv hbr hk hlt
      have HR := hid (seen_right HM.out.allGood)
      have hvs := viewOf_seen X
      have hvl := utf8S_le (seenOf X)
      rw [seenOf_length] at hvl
      have HV := hid (fun W (hb : Below w1.heap.size w1 W) => view_any W _ mb X _ (HM.out.step hb) (by omega))
      have HC := hid (fun W (hb : Below w1.heap.size w1 W) => lcount_any W _ mb X _ _ (HM.out.step hb) (by omega) rfl)
      rw [hvs] at HV
      obtain ⟨sb, hsb⟩ : ∃ sb : ByteArray, (⟨(utf8S (seenOf X)).toArray⟩ : ByteArray) = sb := ⟨_, rfl⟩
      have hsd : sb.data.toList = utf8S (seenOf X) := by rw [← hsb]
      have hsz : sb.size = (utf8S (seenOf X)).length := by rw [← hsb]; rfl
      have hszb : sb.size ≤ 600 := by have := Hlv.out; omega
      have hcut := splitB_cut sb
      have hlen := Lib.splitB_all sep10 (by decide) 0 _ sb rfl
      have HS := hid (fun W => linesSplit_any sb W (by omega))
      generalize hPB : Lib.splitB sep10 0 (Lib.countB sb sep10) sb = PB at *
      rw [← hlen] at HS
      rw [hsd] at hcut
      have hP := split_utf8 HR.out hcut
      have hpl : PB.length = (rowsOf X).length := by
        have := congrArg List.length hP
        rwa [List.length_map, List.length_map] at this
      have hPk : ∀ (k : Nat) (x : List Int), (rowsOf X)[k]? = some x → PB[k]? = some (⟨(utf8S x).toArray⟩ : ByteArray) := by
        intro k x hx
        have h1 := congrArg (fun z => z[k]?) hP
        simp only [List.getElem?_map] at h1
        rw [show (splitS (seenOf X))[k]? = some x from hx] at h1
        cases h2 : PB[k]? with
        | none => rw [h2] at h1; cases h1
        | some y =>
          rw [h2] at h1
          injection h1 with h1
          congr 1
          obtain ⟨⟨yl⟩⟩ := y
          dsimp only at h1
          rw [← h1]
      have hjl := fun k => Nat.le_trans (joinU_le hcut k) (show (utf8S (seenOf X)).length + 1 ≤ 601 by have := Hlv.out; omega)
      have hja := joinU_all hcut
      rw [hP, show splitS (seenOf X) = rowsOf X from rfl] at hjl hja
      rw [List.length_map] at hja
      rw [hsb] at HV
      rw [hpl] at HS
      have hnlb : (rowsOf X).length ≤ 151 := by have h1 := rowsOf_length X; have h2 := linesOf_le X; omega
      have HT := hid (fun W k x (hb : Below w1.heap.size w1 W) (hx : (rowsOf X)[k]? = some x) => ltext_ok W _ mb X _ k _ 0 x (HM.out.step hb) (by omega) hx rfl)
      have HJ := hid (And.intro hjl hja)
      have HPk := hid hPk
      have Hsb := hid hsb
      have Hpl := hid hpl
      obtain ⟨nl, hnl⟩ : ∃ nl, nl = (rowsOf X).length := ⟨_, rfl⟩
      have Hnl := hid hnl
      rw [← hnl] at HC HS hnlb
      clear hjl hja hPk hsb hpl hcut hP hlen hsd hvs hvl hsz hPB hnl
      have HK := hid (fun W (hb : Below w1.heap.size w1 W) => wakes6_any W _ (Hs.out.step (hb1.trans (hb.mono hb1.size))))
      repeat' (first | (go_at_call 15; go_must ((with_reducible refine Calls.mono (HV.out _ hb0) ?_); rintro _ w5 ⟨rfl, hb5⟩; have B5 := bvia hb0 hb5; dsimp only)) | (go_at_call 21; go_must ((with_reducible refine Calls.mono (HS.out _) ?_); rintro _ w6 ⟨rfl, hw6⟩; have hB := Blk.new w5 9 (PB.map Value.string).toArray; have B6 : Below w1.heap.size w1 w6 := (by rw [hw6]; exact balloc B5); rw [← hw6] at hB; clear hw6; dsimp only)) | (go_at_call 22; go_must ((with_reducible refine Calls.mono (HC.out _ B6) ?_); rintro _ w7 ⟨rfl, hb7⟩; have B7 := bvia B6 hb7; have hB := hB.step hb7; dsimp only)) | (with_reducible refine Keep.last ?_) | (with_reducible refine Keep.below (by assumption) ?_) | (with_reducible refine Keep.kept (by assumption) ?_) | (with_reducible refine Keep.alloc ?_) | (with_reducible refine Keep.same ?_) | ((with_reducible refine WpH.here ?_); first | (refine WpH.nil ?_; refine NoP.normal ?_) | (refine WpH.load (by rfl) (by rfl) (by go_simp; rfl) ?_; simp only [Act.put, List.setIfInBounds_toArray, List.set_cons_zero, List.set_cons_succ]) | (refine WpH.loadT (by rfl) (by rfl) (by go_simp; rfl) (by rintro _ _ ⟨⟩; exact ⟨_, _, _, _, _, _, by rfl, by assumption, by assumption⟩) ?_; simp only [Act.put, List.setIfInBounds_toArray, List.set_cons_zero, List.set_cons_succ]) | (refine WpH.pure (by rfl) (fun w_ => by go_simp; (try go_bits); rfl) ?_; simp only [Act.put, List.setIfInBounds_toArray, List.set_cons_zero, List.set_cons_succ]) | (refine WpH.wild1 (by rfl) (fun _ _ => ?_)) | (refine WpH.skip (by rfl) ?_; simp only [Act.put, List.setIfInBounds_toArray, List.set_cons_zero, List.set_cons_succ])) | go_values | go_skip | go_guarded | go_step | go_upon | go_back)
      skip
      go_loopw [14, 15] (fun tj ti wr => ∃ k : Nat, ti = .int .i64 k ∧ tj = .string ⟨(joinU ((rowsOf X).map utf8S) k).toArray⟩ ∧ k ≤ nl ∧ Below w7.heap.size w7 wr) (fun _ ti _ => nl - (intOf ti).toNat)
      case atStart => exact ⟨0, rfl, rfl, Nat.zero_le _, Below.refl _ _⟩
      case round =>
        obtain ⟨k, rfl, rfl, hk, hbr⟩ := hrel
        have B := B7.trans (hbr.mono B7.size)
        by_cases hlt : k < nl
        · have hki : (k : Int) < nl := by omega
          have hx : (rowsOf X)[k]? = some (rowsOf X)[k] := List.getElem?_eq_getElem (by have := Hnl.out; omega)
          generalize (rowsOf X)[k] = x at hx
          have HT2 := hid (HT.out wr k x B hx)
          have hpk := HPk.out k x hx
          have hxm : ((rowsOf X).map utf8S)[k]? = some (utf8S x) := by rw [List.getElem?_map, hx]; rfl
          have hj1 := HJ.out.1 k
          have hj2 := HJ.out.1 (k + 1)
          have hcell : ∀ W, Below w7.heap.size w7 W → W.cell? ⟨w5.heap.size, k, none⟩ = some (.string ⟨(utf8S x).toArray⟩) := by
            intro W hb
            have h1 := (hB.step hb).cell k
            rw [h1]
            simp [List.getElem?_map, hpk]
          have hcell0 := hcell wr hbr
          have hbl := hB.lt
          have hblr := Nat.lt_of_lt_of_le hbl hbr.size
          have hsx : (utf8S x).length ≤ 601 := by
            rcases Nat.eq_zero_or_pos k with h0 | h0
            · subst h0
              rw [joinU_one hxm] at hj2
              omega
            · rw [joinU_succ h0 (by rw [List.length_map]; have := Hnl.out; omega) hxm, List.length_append] at hj2
              omega
          by_cases h0 : k = 0
          · subst h0
            have hjn := hid (joinU_one hxm)
            rw [joinU_zero]
            have hcell2 := hcell
            clear hcell hxm hpk hx hj1 hj2
            generalize utf8S x = u at *
            rw [show ((0 : Nat) : Int) = 0 from rfl] at *
            have hcat : (⟨(([] : List UInt8)).toArray⟩ : ByteArray) ++ ⟨u.toArray⟩ = ⟨u.toArray⟩ := by rw [ByteArray.mk_append_mk]; rfl
            repeat' (first | (go_at_call 23; go_must ((with_reducible refine Calls.mono HT2.out ?_); rintro _ w8 ⟨rfl, hb8⟩; have c0 := hcell2 w8 (bvia hbr hb8); have hbl8 := Nat.lt_of_lt_of_le hbl (bvia hbr hb8).size; dsimp only)) | (with_reducible refine Keep.last ?_) | (with_reducible refine Keep.below (by assumption) ?_) | (with_reducible refine Keep.kept (by assumption) ?_) | (with_reducible refine Keep.alloc ?_) | (with_reducible refine Keep.same ?_) | ((with_reducible refine WpH.here ?_); first | (refine WpH.nil ?_; refine NoP.normal ?_) | (refine WpH.load (by rfl) (by rfl) (by go_simp; rfl) ?_; simp only [Act.put, List.setIfInBounds_toArray, List.set_cons_zero, List.set_cons_succ]) | (refine WpH.loadT (by rfl) (by rfl) (by go_simp; rfl) (by rintro _ _ ⟨⟩; exact ⟨_, _, _, _, _, _, by rfl, by assumption, by assumption⟩) ?_; simp only [Act.put, List.setIfInBounds_toArray, List.set_cons_zero, List.set_cons_succ]) | (refine WpH.pure (by rfl) (fun w_ => by go_simp; (try go_bits); rfl) ?_; simp only [Act.put, List.setIfInBounds_toArray, List.set_cons_zero, List.set_cons_succ]) | (refine WpH.wild1 (by rfl) (fun _ _ => ?_)) | (refine WpH.skip (by rfl) ?_; simp only [Act.put, List.setIfInBounds_toArray, List.set_cons_zero, List.set_cons_succ])) | go_values | go_skip | go_guarded | go_step | go_upon | go_back)
            skip
            go_roundw
            case rel => exact ⟨1, rfl, by rw [hjn.out], by omega, bvia hbr hb8⟩
            case measure => simp [intOf]; omega
          · have hjn := joinU_succ (Nat.pos_of_ne_zero h0) (by rw [List.length_map]; have := Hnl.out; omega) hxm
            have hk0 : (k : Int) > 0 := by omega
            have hcell2 := hcell
            clear hcell hxm hpk hx hj2
            obtain ⟨j1, hj1e⟩ : ∃ j1, joinU ((rowsOf X).map utf8S) (k + 1) = j1 := ⟨_, rfl⟩
            obtain ⟨j0, hj0e⟩ : ∃ j0, joinU ((rowsOf X).map utf8S) k = j0 := ⟨_, rfl⟩
            rw [hj1e, hj0e] at hjn
            rw [hj0e] at hj1 ⊢
            have hjn := hid hjn
            have Hj1 := hid hj1e
            clear hj1e hj0e
            generalize utf8S x = u at *
            have hz1 : ¬ (j0.length + 1 > 9223372036854775807) := by omega
            have hz2 : ¬ (j0.length + 1 + u.length > 9223372036854775807) := by omega
            repeat' (first | (go_at_call 23; go_must ((with_reducible refine Calls.mono HT2.out ?_); rintro _ w8 ⟨rfl, hb8⟩; have c0 := hcell2 w8 (bvia hbr hb8); have hbl8 := Nat.lt_of_lt_of_le hbl (bvia hbr hb8).size; dsimp only)) | (with_reducible refine Keep.last ?_) | (with_reducible refine Keep.below (by assumption) ?_) | (with_reducible refine Keep.kept (by assumption) ?_) | (with_reducible refine Keep.alloc ?_) | (with_reducible refine Keep.same ?_) | ((with_reducible refine WpH.here ?_); first | (refine WpH.nil ?_; refine NoP.normal ?_) | (refine WpH.load (by rfl) (by rfl) (by go_simp; rfl) ?_; simp only [Act.put, List.setIfInBounds_toArray, List.set_cons_zero, List.set_cons_succ]) | (refine WpH.loadT (by rfl) (by rfl) (by go_simp; rfl) (by rintro _ _ ⟨⟩; exact ⟨_, _, _, _, _, _, by rfl, by assumption, by assumption⟩) ?_; simp only [Act.put, List.setIfInBounds_toArray, List.set_cons_zero, List.set_cons_succ]) | (refine WpH.pure (by rfl) (fun w_ => by go_simp; (try go_bits); rfl) ?_; simp only [Act.put, List.setIfInBounds_toArray, List.set_cons_zero, List.set_cons_succ]) | (refine WpH.wild1 (by rfl) (fun _ _ => ?_)) | (refine WpH.skip (by rfl) ?_; simp only [Act.put, List.setIfInBounds_toArray, List.set_cons_zero, List.set_cons_succ])) | go_values | go_skip | go_guarded | go_step | go_upon | go_back)
            skip
            go_roundw
            case rel =>
              refine ⟨k + 1, by go_num, ?_, by omega, bvia hbr hb8⟩
              rw [Hj1.out, hjn.out, ← ByteArray.mk_append_mk, ← ByteArray.mk_append_mk]
            case measure => simp [intOf]; omega
        · obtain rfl : k = nl := by omega
          have hki : ¬ (k : Int) < k := by omega
          have hja := HJ.out.2
          rw [← Hnl.out] at hja
          have Hja := hid (show (⟨(joinU ((rowsOf X).map utf8S) k).toArray⟩ : ByteArray) = sb by rw [hja]; exact Hsb.out)
          rw [Hja.out]
          have HV2 := hid (HV.out wr B)
          repeat' (first | (go_at_call 15; go_must ((with_reducible refine Calls.mono HV2.out ?_); rintro _ w8 ⟨rfl, hb8⟩; have B8 := bvia B hb8; have HK8 := hid (HK.out w8 B8); dsimp only)) | (go_at_call 24; go_must ((with_reducible refine Calls.mono HK8.out ?_); rintro _ w9 ⟨rfl, hb9⟩; have B9 := bvia B8 hb9; dsimp only)) | (with_reducible refine Keep.last ?_) | (with_reducible refine Keep.below (by assumption) ?_) | (with_reducible refine Keep.kept (by assumption) ?_) | (with_reducible refine Keep.alloc ?_) | (with_reducible refine Keep.same ?_) | ((with_reducible refine WpH.here ?_); first | (refine WpH.nil ?_; refine NoP.normal ?_) | (refine WpH.load (by rfl) (by rfl) (by go_simp; rfl) ?_; simp only [Act.put, List.setIfInBounds_toArray, List.set_cons_zero, List.set_cons_succ]) | (refine WpH.loadT (by rfl) (by rfl) (by go_simp; rfl) (by rintro _ _ ⟨⟩; exact ⟨_, _, _, _, _, _, by rfl, by assumption, by assumption⟩) ?_; simp only [Act.put, List.setIfInBounds_toArray, List.set_cons_zero, List.set_cons_succ]) | (refine WpH.pure (by rfl) (fun w_ => by go_simp; (try go_bits); rfl) ?_; simp only [Act.put, List.setIfInBounds_toArray, List.set_cons_zero, List.set_cons_succ]) | (refine WpH.wild1 (by rfl) (fun _ _ => ?_)) | (refine WpH.skip (by rfl) ?_; simp only [Act.put, List.setIfInBounds_toArray, List.set_cons_zero, List.set_cons_succ])) | go_values | go_skip | go_guarded | go_step | go_upon | go_back)
          skip
          go_ret
          exact ⟨rfl, hb1.trans (B9.mono hb1.size)⟩
end Go.Proofs.YtfihjajllfihjaaGreatDoor
