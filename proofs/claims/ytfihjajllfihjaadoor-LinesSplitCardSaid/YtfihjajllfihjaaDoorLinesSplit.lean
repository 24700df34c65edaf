/- barrowlaw06.LinesSplit: the walk: it returns true. Condition: the reasons lie in memory. -/
import Derived.Test.YtfihjajllfihjaaDoorStrSplit
import Derived.Test.YtfihjajllfihjaaDoorWakes6
namespace Go.Proofs.YtfihjajllfihjaaDoor
set_option linter.unusedSimpArgs false
set_option linter.unusedVariables false
open Go Go.RowKit
variable {a : Nat → Addr}
/-- pieces with a byte 10 behind each -/
def endedU (ls : List (List UInt8)) : List UInt8 := ls.flatMap (· ++ [10])
theorem endedU_append (a b : List (List UInt8)) : endedU (a ++ b) = endedU a ++ endedU b := by simp [endedU]
theorem endedU_one (x : List UInt8) : endedU [x] = x ++ [10] := by simp [endedU]
theorem endedU_le (ls : List (List UInt8)) : ls.length ≤ (endedU ls).length := by
  induction ls with
  | nil => exact Nat.zero_le _
  | cons x ls ih =>
    rw [show x :: ls = [x] ++ ls from rfl, endedU_append, endedU_one]
    simp
    omega
/-- the pieces of s -/
def IsCut (s : List UInt8) (P : List (List UInt8)) : Prop := endedU P = s ++ [10] ∧ ∀ x ∈ P, (10 : UInt8) ∉ x
theorem splitK_cut : ∀ (k : Nat) (s : List UInt8), s.count 10 = k → IsCut s (Lib.splitK [10] 0 k s)
  | 0, s, h => ⟨by rw [Lib.splitK, endedU_one], fun x hx => by
      have : x = s := by simpa [Lib.splitK] using hx
      rw [this]
      exact List.count_eq_zero.1 h⟩
  | k + 1, s, h => by
    unfold Lib.splitK
    rw [Lib.index_one]
    have hge := Lib.indexByte_ge s 10
    by_cases hm : Lib.indexByte s 10 = -1
    · have h0 : s.count 10 = 0 := List.count_eq_zero.2 fun hmem => by
        obtain ⟨i, hi, he⟩ := List.getElem_of_mem hmem
        exact Lib.indexByte_none hm i (by rw [List.getElem?_eq_getElem hi, he])
      omega
    · obtain ⟨i, hi⟩ : ∃ i : Nat, Lib.indexByte s 10 = i := ⟨(Lib.indexByte s 10).toNat, by omega⟩
      obtain ⟨h1, h2⟩ := Lib.indexByte_some hi
      rw [hi, if_neg (by simp)]
      simp only [Int.toNat_natCast, Nat.add_zero, List.length_singleton]
      have hil := (List.getElem?_eq_some_iff.1 h1).1
      have hsp : s = s.take i ++ ([10] ++ s.drop (i + 1)) := by
        conv => lhs; rw [← List.take_append_drop i s]
        congr 1
        rw [List.drop_eq_getElem_cons hil, (List.getElem?_eq_some_iff.1 h1).2]
        rfl
      have hn : (10 : UInt8) ∉ s.take i := fun hmem => by
        obtain ⟨j, hj, he⟩ := List.getElem_of_mem hmem
        rw [List.length_take] at hj
        rw [List.getElem_take] at he
        exact h2 j (by omega) (by rw [List.getElem?_eq_getElem (by omega), he])
      have hc : (s.drop (i + 1)).count 10 = k := by
        have := congrArg (List.count 10) hsp
        rw [List.count_append, List.count_append, List.count_eq_zero.2 hn, h] at this
        simp at this
        omega
      obtain ⟨g1, g2⟩ := splitK_cut k (s.drop (i + 1)) hc
      refine ⟨?_, fun x hx => ?_⟩
      · rw [show s.take i :: Lib.splitK [10] 0 k (s.drop (i + 1)) = [s.take i] ++ Lib.splitK [10] 0 k (s.drop (i + 1)) from rfl, endedU_append, endedU_one, g1]
        conv => rhs; rw [hsp]
        simp
      · rcases List.mem_cons.1 hx with hx | hx
        · rw [hx]; exact hn
        · exact g2 x hx
def startU (P : List (List UInt8)) (k : Nat) : Nat := (endedU (P.take k)).length
theorem cut_at {s x : List UInt8} {P : List (List UInt8)} {k : Nat} (h : IsCut s P) (hx : P[k]? = some x) :
    startU P k + x.length ≤ s.length ∧ (s.drop (startU P k)).take x.length = x ∧ startU P (k + 1) = startU P k + x.length + 1 ∧ (startU P k + x.length < s.length → s[startU P k + x.length]? = some 10 ∧ k + 1 < P.length) ∧ (startU P k + x.length = s.length → k + 1 = P.length) := by
  obtain ⟨hk, hxe⟩ := List.getElem?_eq_some_iff.1 hx
  have hj : s ++ [10] = endedU (P.take k) ++ (x ++ ([10] ++ endedU (P.drop (k + 1)))) := by
    rw [← h.1]
    conv => lhs; rw [← List.take_append_drop k P]
    rw [endedU_append]
    congr 1
    rw [List.drop_eq_getElem_cons hk, hxe, show x :: P.drop (k + 1) = [x] ++ P.drop (k + 1) from rfl, endedU_append, endedU_one, List.append_assoc]
  have hst : (endedU (P.take k)).length = startU P k := rfl
  have hlen := congrArg List.length hj
  simp only [List.length_append, List.length_singleton] at hlen
  rw [hst] at hlen
  have hle := endedU_le (P.drop (k + 1))
  rw [List.length_drop] at hle
  have hs1 : startU P k + x.length ≤ s.length := by omega
  refine ⟨hs1, ?_, ?_, fun hlt => ⟨?_, ?_⟩, fun heq => ?_⟩
  · have h1 : (s ++ [10]).drop (startU P k) = x ++ ([10] ++ endedU (P.drop (k + 1))) := by
      rw [hj]
      exact List.drop_left' rfl
    rw [List.drop_append_of_le_length (by omega)] at h1
    have h2 := congrArg (List.take x.length) h1
    rw [List.take_append_of_le_length (by rw [List.length_drop]; omega), List.take_left' rfl] at h2
    exact h2
  · unfold startU
    rw [List.take_add_one, hx, endedU_append, show (some x).toList = [x] from rfl, endedU_one]
    simp
    omega
  · have : (s ++ [10])[startU P k + x.length]? = some 10 := by
      rw [hj, List.getElem?_append_right (by omega), List.getElem?_append_right (by omega), show startU P k + x.length - (endedU (P.take k)).length - x.length = 0 by omega]
      rfl
    rwa [List.getElem?_append_left hlt] at this
  · rcases Nat.lt_or_ge (k + 1) P.length with h1 | h1
    · exact h1
    · have hd : P.drop (k + 1) = [] := List.drop_eq_nil_of_le h1
      rw [hd, show (endedU []).length = 0 from rfl] at hlen
      omega
  · omega
/-- the pieces that strings.Split hands back -/
theorem splitB_cut (s : ByteArray) : IsCut s.data.toList ((Lib.splitB sep10 0 (Lib.countB s sep10) s).map (·.data.toList)) := by
  rw [Lib.splitB_data]
  refine splitK_cut _ _ ?_
  show s.data.toList.count 10 = Lib.count s.data.toList [10]
  rw [Lib.count_one]
theorem linesSplit_any (s : ByteArray) (w : World) (hs : s.size < 4294967281) :
    Calls Tryd.prog 67 #[.string s] w fun e w' =>
      e = .returned (.slice (some ⟨w.heap.size, 0, none⟩) (Lib.countB s sep10 + 1) (Lib.countB s sep10 + 1)) ∧ w' = w.alloc (.cells ((Lib.splitB sep10 0 (Lib.countB s sep10) s).map Value.string).toArray 9) := by
  have HS := hid (strSplit_any s w hs)
  go_enter Tryd.func67, Tryd.ntmps67
  repeat' (first | (go_at_call 119; go_must ((with_reducible refine Calls.mono HS.out ?_); rintro _ w1 ⟨rfl, rfl⟩; dsimp only)) | (with_reducible refine Keep.last ?_) | (with_reducible refine Keep.below (by assumption) ?_) | (with_reducible refine Keep.kept (by assumption) ?_) | (with_reducible refine Keep.alloc ?_) | (with_reducible refine Keep.same ?_) | ((with_reducible refine WpH.here ?_); first | (refine WpH.nil ?_; refine NoP.normal ?_) | (refine WpH.load (by rfl) (by rfl) (by go_simp; rfl) ?_; simp only [Act.put, List.setIfInBounds_toArray, List.set_cons_zero, List.set_cons_succ]) | (refine WpH.loadT (by rfl) (by rfl) (by go_simp; rfl) (by rintro _ _ ⟨⟩; exact ⟨_, _, _, _, _, _, by rfl, by assumption, by assumption⟩) ?_; simp only [Act.put, List.setIfInBounds_toArray, List.set_cons_zero, List.set_cons_succ]) | (refine WpH.pure (by rfl) (fun w_ => by go_simp; (try go_bits); rfl) ?_; simp only [Act.put, List.setIfInBounds_toArray, List.set_cons_zero, List.set_cons_succ]) | (refine WpH.wild1 (by rfl) (fun _ _ => ?_)) | (refine WpH.skip (by rfl) ?_; simp only [Act.put, List.setIfInBounds_toArray, List.set_cons_zero, List.set_cons_succ])) | go_values | go_skip | go_guarded | go_step | go_upon | go_back)
  go_ret
  exact ⟨rfl, rfl⟩
/-- where the loop is -/
def LsAt (s : List UInt8) (P : List (List UInt8)) (k f i : Nat) : Prop := (∃ x, P[k]? = some x ∧ f = startU P k ∧ f ≤ i ∧ i ≤ f + x.length) ∨ (k = P.length ∧ i = s.length + 1)
set_option maxRecDepth 100000 in
set_option maxHeartbeats 4000000 in
theorem lsplit_true (w : World) (s0 : ByteArray) (S' : Nat → Prop) (hs : Sents w S' a) :
    Calls Tryd.prog 15 #[.string s0] w fun e w' => e = .returned (.bool true) ∧ Below w.heap.size w w' := by
  by_cases hsz : s0.size ≤ 2000
  · obtain ⟨s, rfl⟩ : ∃ s, s = s0 := ⟨_, rfl⟩
    have HS := hid (linesSplit_any s w (by omega))
    have Hs := hid hs
    have HC := hid (splitB_cut s)
    have hlen := Lib.splitB_all sep10 (by decide) 0 _ s rfl
    clear hs
    generalize Lib.splitB sep10 0 (Lib.countB s sep10) s = PB at *
    rw [← hlen] at HS
    obtain ⟨n, hn⟩ : ∃ n, n = PB.length := ⟨_, rfl⟩
    rw [← hn] at HS
    have Hn := hid hn
    have hnb : n ≤ 2001 := by
      have h1 := endedU_le (PB.map (·.data.toList))
      rw [HC.out.1, List.length_map, List.length_append, List.length_singleton, ← hn] at h1
      have : s.data.toList.length = s.size := rfl
      omega
    clear hlen hn
    have hsn : ¬ (s.size : Int) > 2000 := by omega
    go_enter Tryd.func15, Tryd.ntmps15
    repeat' (first | (go_at_call 67; go_must ((with_reducible refine Calls.mono HS.out ?_); rintro _ w1 ⟨rfl, hw1⟩; dsimp only)) | (with_reducible refine Keep.last ?_) | (with_reducible refine Keep.below (by assumption) ?_) | (with_reducible refine Keep.kept (by assumption) ?_) | (with_reducible refine Keep.alloc ?_) | (with_reducible refine Keep.same ?_) | ((with_reducible refine WpH.here ?_); first | (refine WpH.nil ?_; refine NoP.normal ?_) | (refine WpH.load (by rfl) (by rfl) (by go_simp; rfl) ?_; simp only [Act.put, List.setIfInBounds_toArray, List.set_cons_zero, List.set_cons_succ]) | (refine WpH.loadT (by rfl) (by rfl) (by go_simp; rfl) (by rintro _ _ ⟨⟩; exact ⟨_, _, _, _, _, _, by rfl, by assumption, by assumption⟩) ?_; simp only [Act.put, List.setIfInBounds_toArray, List.set_cons_zero, List.set_cons_succ]) | (refine WpH.pure (by rfl) (fun w_ => by go_simp; (try go_bits); rfl) ?_; simp only [Act.put, List.setIfInBounds_toArray, List.set_cons_zero, List.set_cons_succ]) | (refine WpH.wild1 (by rfl) (fun _ _ => ?_)) | (refine WpH.skip (by rfl) ?_; simp only [Act.put, List.setIfInBounds_toArray, List.set_cons_zero, List.set_cons_succ])) | go_values | go_skip | go_guarded | go_step | go_upon | go_back)
    have hB := Blk.new w 9 (PB.map Value.string).toArray
    have b0 : Below w.heap.size w w1 := by rw [hw1]; exact balloc (Below.refl _ _)
    rw [← hw1] at hB
    clear hw1 HS
    go_loopw [4, 5, 6] (fun tk tf ti wr => ∃ k f i : Nat, tk = .int .i64 k ∧ tf = .int .i64 f ∧ ti = .int .i64 i ∧ Hid (LsAt s.data.toList (PB.map (·.data.toList)) k f i) ∧ i ≤ s.size + 1 ∧ f ≤ 2001 ∧ k ≤ n ∧ Below w1.heap.size w1 wr) (fun _ _ ti _ => s.size + 1 - (intOf ti).toNat)
    case atStart =>
      refine ⟨0, 0, 0, rfl, rfl, rfl, hid (.inl ?_), Nat.zero_le _, Nat.zero_le _, Nat.zero_le _, Below.refl _ _⟩
      have h0 : 0 < PB.length := by
        rcases Nat.eq_zero_or_pos PB.length with h | h
        · have := List.length_eq_zero_iff.1 h
          have h1 := HC.out.1
          rw [this] at h1
          have := congrArg List.length h1
          simp [endedU] at this
        · exact h
      exact ⟨PB[0].data.toList, by rw [List.getElem?_map, List.getElem?_eq_getElem h0]; rfl, rfl, Nat.le_refl _, Nat.zero_le _⟩
    case round =>
      obtain ⟨k, f, i, rfl, rfl, rfl, HL, hi, hf, hkn, hbr⟩ := hrel
      have hB := hB.step hbr
      by_cases hend : i ≤ s.size
      · have hie : (i : Int) ≤ s.size := by omega
        obtain ⟨x, hx, hfs, hfi, hix⟩ : ∃ x, (PB.map (·.data.toList))[k]? = some x ∧ f = startU (PB.map (·.data.toList)) k ∧ f ≤ i ∧ i ≤ f + x.length := by
          rcases HL.out with h | ⟨_, h⟩
          · exact h
          · have : s.data.toList.length = s.size := rfl
            omega
        obtain ⟨hc1, hc2, hc3, hc4, hc5⟩ := cut_at HC.out hx
        rw [← hfs] at hc1 hc2 hc3 hc4 hc5
        have hsl : s.data.toList.length = s.size := rfl
        by_cases hlt : i < f + x.length
        · have hil : i < s.size := by omega
          have hili : (i : Int) < s.size := by omega
          have hne : s.data.toList[i]? ≠ some 10 := by
            intro h10
            have : x[i - f]? = some 10 := by
              rw [← hc2, List.getElem?_take, if_pos (by omega), List.getElem?_drop, show f + (i - f) = i by omega]
              exact h10
            exact HC.out.2 x (List.mem_of_getElem? hx) (List.mem_of_getElem? this)
          have Hn2 := hid (show LsAt s.data.toList (PB.map (·.data.toList)) k f (i + 1) from .inl ⟨x, hx, hfs, by omega, by omega⟩)
          have h10 : ¬ (((s[i]'hil).toNat : Nat) : Int) = 10 := by
            intro h
            refine hne ?_
            rw [Lib.data_getElem? s i hil]
            congr 1
            have h2 : (s[i]'hil).toNat = 10 := by omega
            exact UInt8.toNat_inj.1 h2
          clear hne hx hfs hc1 hc2 hc3 hc4 hc5 hsl
          repeat' (first | (with_reducible refine Keep.last ?_) | (with_reducible refine Keep.below (by assumption) ?_) | (with_reducible refine Keep.kept (by assumption) ?_) | (with_reducible refine Keep.alloc ?_) | (with_reducible refine Keep.same ?_) | ((with_reducible refine WpH.here ?_); first | (refine WpH.nil ?_; refine NoP.normal ?_) | (refine WpH.load (by rfl) (by rfl) (by go_simp; rfl) ?_; simp only [Act.put, List.setIfInBounds_toArray, List.set_cons_zero, List.set_cons_succ]) | (refine WpH.loadT (by rfl) (by rfl) (by go_simp; rfl) (by rintro _ _ ⟨⟩; exact ⟨_, _, _, _, _, _, by rfl, by assumption, by assumption⟩) ?_; simp only [Act.put, List.setIfInBounds_toArray, List.set_cons_zero, List.set_cons_succ]) | (refine WpH.pure (by rfl) (fun w_ => by go_simp; (try go_bits); rfl) ?_; simp only [Act.put, List.setIfInBounds_toArray, List.set_cons_zero, List.set_cons_succ]) | (refine WpH.wild1 (by rfl) (fun _ _ => ?_)) | (refine WpH.skip (by rfl) ?_; simp only [Act.put, List.setIfInBounds_toArray, List.set_cons_zero, List.set_cons_succ])) | go_values | go_skip | go_guarded | go_step | go_upon | go_back)
          (all_goals (try trace_state))
          go_roundw
          case rel => exact ⟨k, f, i + 1, rfl, rfl, by go_num, Hn2, by omega, hf, hkn, hbr⟩
          case measure => simp [RowKit.intOf]; omega
        · have hix2 : i = f + x.length := by omega
          obtain ⟨pb, hpb, rfl⟩ : ∃ pb, PB[k]? = some pb ∧ pb.data.toList = x := by
            rw [List.getElem?_map] at hx
            simpa using hx
          have hkl := (List.getElem?_eq_some_iff.1 hpb).1
          have hkn2 : k < n := by rw [Hn.out]; exact hkl
          have hkni : (k : Int) < n := by omega
          have hkge : ¬ (k : Int) ≥ n := by omega
          have c0 : wr.cell? ⟨w.heap.size, k, none⟩ = some (.string pb) := by
            rw [hB.cell]
            simp [hpb]
          have hse : s.extract f i = pb := by
            have : (s.extract f i).data.toList = pb.data.toList := by
              rw [← hc2, hix2]
              simp [ByteArray.data_extract]
            exact ByteArray.ext (Array.toList_inj.1 this)
          have hfi2 : (f : Int) ≤ i := by omega
          have Hn2 := hid (show LsAt s.data.toList (PB.map (·.data.toList)) (k + 1) (i + 1) (i + 1) from by
            have hlm : (PB.map (·.data.toList)).length = n := by rw [List.length_map, Hn.out]
            by_cases hkk : k + 1 < n
            · have hq : (PB.map (·.data.toList))[k + 1]? = some (PB.map (·.data.toList))[k + 1] := List.getElem?_eq_getElem (by omega)
              exact .inl ⟨_, hq, by rw [hc3, ← hix2], Nat.le_refl _, Nat.le_add_right _ _⟩
            · refine .inr ⟨by omega, ?_⟩
              rcases Nat.lt_or_ge (f + pb.data.toList.length) s.data.toList.length with h | h
              · have := (hc4 h).2; omega
              · omega)
          have Hc4 := hid hc4
          clear hx hfs hc1 hc2 hc3 hc4 hc5 hpb hkl hlt
          by_cases hil : i < s.size
          · have hili : (i : Int) < s.size := by omega
            have h10 : (((s[i]'hil).toNat : Nat) : Int) = 10 := by
              have h1 := (Hc4.out (by rw [← hix2, hsl]; exact hil)).1
              rw [← hix2, Lib.data_getElem? s i hil] at h1
              injection h1 with h1
              rw [h1]
              rfl
            clear hix2 hix
            repeat' (first | ((with_reducible refine region_at 10 ?_); refine wp_region_order [(0, true, false), (1, true, false), (2, true, false), (3, true, false), (4, true, false), (5, true, false), (6, true, false), (7, true, false), (8, true, false), (9, true, false), (10, true, false), (11, true, false), (12, true, false), (13, true, false), (14, true, false)] (by kernel_rfl) (by kernel_rfl) (by kernel_rfl) rfl rfl ?_) | (with_reducible refine Keep.last ?_) | (with_reducible refine Keep.below (by assumption) ?_) | (with_reducible refine Keep.kept (by assumption) ?_) | (with_reducible refine Keep.alloc ?_) | (with_reducible refine Keep.same ?_) | ((with_reducible refine WpH.here ?_); first | (refine WpH.nil ?_; refine NoP.normal ?_) | (refine WpH.load (by rfl) (by rfl) (by go_simp; rfl) ?_; simp only [Act.put, List.setIfInBounds_toArray, List.set_cons_zero, List.set_cons_succ]) | (refine WpH.loadT (by rfl) (by rfl) (by go_simp; rfl) (by rintro _ _ ⟨⟩; exact ⟨_, _, _, _, _, _, by rfl, by assumption, by assumption⟩) ?_; simp only [Act.put, List.setIfInBounds_toArray, List.set_cons_zero, List.set_cons_succ]) | (refine WpH.pure (by rfl) (fun w_ => by go_simp; (try go_bits); rfl) ?_; simp only [Act.put, List.setIfInBounds_toArray, List.set_cons_zero, List.set_cons_succ]) | (refine WpH.wild1 (by rfl) (fun _ _ => ?_)) | (refine WpH.skip (by rfl) ?_; simp only [Act.put, List.setIfInBounds_toArray, List.set_cons_zero, List.set_cons_succ])) | go_values | go_skip | go_guarded | go_step | go_upon | go_back)
            (all_goals (try trace_state))
            go_roundw
            case rel => exact ⟨k + 1, i + 1, i + 1, by go_num, by go_num, by go_num, Hn2, by omega, by omega, by omega, hbr.drew⟩
            case measure => simp [RowKit.intOf]; omega
          · have hili : ¬ (i : Int) < s.size := by omega
            clear hix2 hix
            repeat' (first | ((with_reducible refine region_at 10 ?_); refine wp_region_order [(0, true, false), (1, true, false), (2, true, false), (3, true, false), (4, true, false), (5, true, false), (6, true, false), (7, true, false), (8, true, false), (9, true, false), (10, true, false), (11, true, false), (12, true, false), (13, true, false), (14, true, false)] (by kernel_rfl) (by kernel_rfl) (by kernel_rfl) rfl rfl ?_) | (with_reducible refine Keep.last ?_) | (with_reducible refine Keep.below (by assumption) ?_) | (with_reducible refine Keep.kept (by assumption) ?_) | (with_reducible refine Keep.alloc ?_) | (with_reducible refine Keep.same ?_) | ((with_reducible refine WpH.here ?_); first | (refine WpH.nil ?_; refine NoP.normal ?_) | (refine WpH.load (by rfl) (by rfl) (by go_simp; rfl) ?_; simp only [Act.put, List.setIfInBounds_toArray, List.set_cons_zero, List.set_cons_succ]) | (refine WpH.loadT (by rfl) (by rfl) (by go_simp; rfl) (by rintro _ _ ⟨⟩; exact ⟨_, _, _, _, _, _, by rfl, by assumption, by assumption⟩) ?_; simp only [Act.put, List.setIfInBounds_toArray, List.set_cons_zero, List.set_cons_succ]) | (refine WpH.pure (by rfl) (fun w_ => by go_simp; (try go_bits); rfl) ?_; simp only [Act.put, List.setIfInBounds_toArray, List.set_cons_zero, List.set_cons_succ]) | (refine WpH.wild1 (by rfl) (fun _ _ => ?_)) | (refine WpH.skip (by rfl) ?_; simp only [Act.put, List.setIfInBounds_toArray, List.set_cons_zero, List.set_cons_succ])) | go_values | go_skip | go_guarded | go_step | go_upon | go_back)
            (all_goals (try trace_state))
            go_roundw
            case rel => exact ⟨k + 1, i + 1, i + 1, by go_num, by go_num, by go_num, Hn2, by omega, by omega, by omega, hbr.drew⟩
            case measure => simp [RowKit.intOf]; omega
      · have hie : ¬ (i : Int) ≤ s.size := by omega
        have hkn2 : k = n := by
          rcases HL.out with ⟨x, hx, hfs, hfi, hix⟩ | ⟨h, _⟩
          · have h1 := (cut_at HC.out hx).1
            have hsl : s.data.toList.length = s.size := rfl
            rw [← hfs] at h1
            omega
          · rw [h, List.length_map, Hn.out]
        subst hkn2
        have HK := hid (wakes6_any wr _ (Hs.out.step (b0.trans (hbr.mono b0.size))))
        clear hB
        repeat' (first | (go_at_call 54; go_must ((with_reducible refine Calls.mono HK.out ?_); rintro _ w9 ⟨rfl, hb9⟩; dsimp only)) | (with_reducible refine Keep.last ?_) | (with_reducible refine Keep.below (by assumption) ?_) | (with_reducible refine Keep.kept (by assumption) ?_) | (with_reducible refine Keep.alloc ?_) | (with_reducible refine Keep.same ?_) | ((with_reducible refine WpH.here ?_); first | (refine WpH.nil ?_; refine NoP.normal ?_) | (refine WpH.load (by rfl) (by rfl) (by go_simp; rfl) ?_; simp only [Act.put, List.setIfInBounds_toArray, List.set_cons_zero, List.set_cons_succ]) | (refine WpH.loadT (by rfl) (by rfl) (by go_simp; rfl) (by rintro _ _ ⟨⟩; exact ⟨_, _, _, _, _, _, by rfl, by assumption, by assumption⟩) ?_; simp only [Act.put, List.setIfInBounds_toArray, List.set_cons_zero, List.set_cons_succ]) | (refine WpH.pure (by rfl) (fun w_ => by go_simp; (try go_bits); rfl) ?_; simp only [Act.put, List.setIfInBounds_toArray, List.set_cons_zero, List.set_cons_succ]) | (refine WpH.wild1 (by rfl) (fun _ _ => ?_)) | (refine WpH.skip (by rfl) ?_; simp only [Act.put, List.setIfInBounds_toArray, List.set_cons_zero, List.set_cons_succ])) | go_values | go_skip | go_guarded | go_step | go_upon | go_back)
        (all_goals (try trace_state))
        go_ret
        exact ⟨rfl, b0.trans ((bvia hbr hb9).mono b0.size)⟩
  · obtain ⟨s, hse0⟩ : ∃ s, s0.extract 0 2000 = s := ⟨_, rfl⟩
    have hs2 : s.size = 2000 := by rw [← hse0, ByteArray.size_extract]; omega
    have hsn : (s0.size : Int) > 2000 := by omega
    have hsl0 : (2000 : Int) ≤ s0.size := by omega
    have hsz : s.size ≤ 2000 := by omega
    have HS := hid (linesSplit_any s w (by omega))
    have Hs := hid hs
    have HC := hid (splitB_cut s)
    have hlen := Lib.splitB_all sep10 (by decide) 0 _ s rfl
    clear hs
    generalize Lib.splitB sep10 0 (Lib.countB s sep10) s = PB at *
    rw [← hlen] at HS
    obtain ⟨n, hn⟩ : ∃ n, n = PB.length := ⟨_, rfl⟩
    rw [← hn] at HS
    have Hn := hid hn
    have hnb : n ≤ 2001 := by
      have h1 := endedU_le (PB.map (·.data.toList))
      rw [HC.out.1, List.length_map, List.length_append, List.length_singleton, ← hn] at h1
      have : s.data.toList.length = s.size := rfl
      omega
    clear hlen hn
    clear hs2
    go_enter Tryd.func15, Tryd.ntmps15
    repeat' (first | (go_at_call 67; go_must ((with_reducible refine Calls.mono HS.out ?_); rintro _ w1 ⟨rfl, hw1⟩; dsimp only)) | (with_reducible refine Keep.last ?_) | (with_reducible refine Keep.below (by assumption) ?_) | (with_reducible refine Keep.kept (by assumption) ?_) | (with_reducible refine Keep.alloc ?_) | (with_reducible refine Keep.same ?_) | ((with_reducible refine WpH.here ?_); first | (refine WpH.nil ?_; refine NoP.normal ?_) | (refine WpH.load (by rfl) (by rfl) (by go_simp; rfl) ?_; simp only [Act.put, List.setIfInBounds_toArray, List.set_cons_zero, List.set_cons_succ]) | (refine WpH.loadT (by rfl) (by rfl) (by go_simp; rfl) (by rintro _ _ ⟨⟩; exact ⟨_, _, _, _, _, _, by rfl, by assumption, by assumption⟩) ?_; simp only [Act.put, List.setIfInBounds_toArray, List.set_cons_zero, List.set_cons_succ]) | (refine WpH.pure (by rfl) (fun w_ => by go_simp; (try go_bits); rfl) ?_; simp only [Act.put, List.setIfInBounds_toArray, List.set_cons_zero, List.set_cons_succ]) | (refine WpH.wild1 (by rfl) (fun _ _ => ?_)) | (refine WpH.skip (by rfl) ?_; simp only [Act.put, List.setIfInBounds_toArray, List.set_cons_zero, List.set_cons_succ])) | go_values | go_skip | go_guarded | go_step | go_upon | go_back)
    (all_goals (try trace_state))
    have hB := Blk.new w 9 (PB.map Value.string).toArray
    have b0 : Below w.heap.size w w1 := by rw [hw1]; exact balloc (Below.refl _ _)
    rw [← hw1] at hB
    clear hw1 HS
    go_loopw [4, 5, 6] (fun tk tf ti wr => ∃ k f i : Nat, tk = .int .i64 k ∧ tf = .int .i64 f ∧ ti = .int .i64 i ∧ Hid (LsAt s.data.toList (PB.map (·.data.toList)) k f i) ∧ i ≤ s.size + 1 ∧ f ≤ 2001 ∧ k ≤ n ∧ Below w1.heap.size w1 wr) (fun _ _ ti _ => s.size + 1 - (intOf ti).toNat)
    case atStart =>
      refine ⟨0, 0, 0, rfl, rfl, rfl, hid (.inl ?_), Nat.zero_le _, Nat.zero_le _, Nat.zero_le _, Below.refl _ _⟩
      have h0 : 0 < PB.length := by
        rcases Nat.eq_zero_or_pos PB.length with h | h
        · have := List.length_eq_zero_iff.1 h
          have h1 := HC.out.1
          rw [this] at h1
          have := congrArg List.length h1
          simp [endedU] at this
        · exact h
      exact ⟨PB[0].data.toList, by rw [List.getElem?_map, List.getElem?_eq_getElem h0]; rfl, rfl, Nat.le_refl _, Nat.zero_le _⟩
    case round =>
      obtain ⟨k, f, i, rfl, rfl, rfl, HL, hi, hf, hkn, hbr⟩ := hrel
      have hB := hB.step hbr
      by_cases hend : i ≤ s.size
      · have hie : (i : Int) ≤ s.size := by omega
        obtain ⟨x, hx, hfs, hfi, hix⟩ : ∃ x, (PB.map (·.data.toList))[k]? = some x ∧ f = startU (PB.map (·.data.toList)) k ∧ f ≤ i ∧ i ≤ f + x.length := by
          rcases HL.out with h | ⟨_, h⟩
          · exact h
          · have : s.data.toList.length = s.size := rfl
            omega
        obtain ⟨hc1, hc2, hc3, hc4, hc5⟩ := cut_at HC.out hx
        rw [← hfs] at hc1 hc2 hc3 hc4 hc5
        have hsl : s.data.toList.length = s.size := rfl
        by_cases hlt : i < f + x.length
        · have hil : i < s.size := by omega
          have hili : (i : Int) < s.size := by omega
          have hne : s.data.toList[i]? ≠ some 10 := by
            intro h10
            have : x[i - f]? = some 10 := by
              rw [← hc2, List.getElem?_take, if_pos (by omega), List.getElem?_drop, show f + (i - f) = i by omega]
              exact h10
            exact HC.out.2 x (List.mem_of_getElem? hx) (List.mem_of_getElem? this)
          have Hn2 := hid (show LsAt s.data.toList (PB.map (·.data.toList)) k f (i + 1) from .inl ⟨x, hx, hfs, by omega, by omega⟩)
          have h10 : ¬ (((s[i]'hil).toNat : Nat) : Int) = 10 := by
            intro h
            refine hne ?_
            rw [Lib.data_getElem? s i hil]
            congr 1
            have h2 : (s[i]'hil).toNat = 10 := by omega
            exact UInt8.toNat_inj.1 h2
          clear hne hx hfs hc1 hc2 hc3 hc4 hc5 hsl
          repeat' (first | (with_reducible refine Keep.last ?_) | (with_reducible refine Keep.below (by assumption) ?_) | (with_reducible refine Keep.kept (by assumption) ?_) | (with_reducible refine Keep.alloc ?_) | (with_reducible refine Keep.same ?_) | ((with_reducible refine WpH.here ?_); first | (refine WpH.nil ?_; refine NoP.normal ?_) | (refine WpH.load (by rfl) (by rfl) (by go_simp; rfl) ?_; simp only [Act.put, List.setIfInBounds_toArray, List.set_cons_zero, List.set_cons_succ]) | (refine WpH.loadT (by rfl) (by rfl) (by go_simp; rfl) (by rintro _ _ ⟨⟩; exact ⟨_, _, _, _, _, _, by rfl, by assumption, by assumption⟩) ?_; simp only [Act.put, List.setIfInBounds_toArray, List.set_cons_zero, List.set_cons_succ]) | (refine WpH.pure (by rfl) (fun w_ => by go_simp; (try go_bits); rfl) ?_; simp only [Act.put, List.setIfInBounds_toArray, List.set_cons_zero, List.set_cons_succ]) | (refine WpH.wild1 (by rfl) (fun _ _ => ?_)) | (refine WpH.skip (by rfl) ?_; simp only [Act.put, List.setIfInBounds_toArray, List.set_cons_zero, List.set_cons_succ])) | go_values | go_skip | go_guarded | go_step | go_upon | go_back)
          (all_goals (try trace_state))
          go_roundw
          case rel => exact ⟨k, f, i + 1, rfl, rfl, by go_num, Hn2, by omega, hf, hkn, hbr⟩
          case measure => simp [RowKit.intOf]; omega
        · have hix2 : i = f + x.length := by omega
          obtain ⟨pb, hpb, rfl⟩ : ∃ pb, PB[k]? = some pb ∧ pb.data.toList = x := by
            rw [List.getElem?_map] at hx
            simpa using hx
          have hkl := (List.getElem?_eq_some_iff.1 hpb).1
          have hkn2 : k < n := by rw [Hn.out]; exact hkl
          have hkni : (k : Int) < n := by omega
          have hkge : ¬ (k : Int) ≥ n := by omega
          have c0 : wr.cell? ⟨w.heap.size, k, none⟩ = some (.string pb) := by
            rw [hB.cell]
            simp [hpb]
          have hse : s.extract f i = pb := by
            have : (s.extract f i).data.toList = pb.data.toList := by
              rw [← hc2, hix2]
              simp [ByteArray.data_extract]
            exact ByteArray.ext (Array.toList_inj.1 this)
          have hfi2 : (f : Int) ≤ i := by omega
          have Hn2 := hid (show LsAt s.data.toList (PB.map (·.data.toList)) (k + 1) (i + 1) (i + 1) from by
            have hlm : (PB.map (·.data.toList)).length = n := by rw [List.length_map, Hn.out]
            by_cases hkk : k + 1 < n
            · have hq : (PB.map (·.data.toList))[k + 1]? = some (PB.map (·.data.toList))[k + 1] := List.getElem?_eq_getElem (by omega)
              exact .inl ⟨_, hq, by rw [hc3, ← hix2], Nat.le_refl _, Nat.le_add_right _ _⟩
            · refine .inr ⟨by omega, ?_⟩
              rcases Nat.lt_or_ge (f + pb.data.toList.length) s.data.toList.length with h | h
              · have := (hc4 h).2; omega
              · omega)
          have Hc4 := hid hc4
          clear hx hfs hc1 hc2 hc3 hc4 hc5 hpb hkl hlt
          by_cases hil : i < s.size
          · have hili : (i : Int) < s.size := by omega
            have h10 : (((s[i]'hil).toNat : Nat) : Int) = 10 := by
              have h1 := (Hc4.out (by rw [← hix2, hsl]; exact hil)).1
              rw [← hix2, Lib.data_getElem? s i hil] at h1
              injection h1 with h1
              rw [h1]
              rfl
            clear hix2 hix
            repeat' (first | ((with_reducible refine region_at 10 ?_); refine wp_region_order [(0, true, false), (1, true, false), (2, true, false), (3, true, false), (4, true, false), (5, true, false), (6, true, false), (7, true, false), (8, true, false), (9, true, false), (10, true, false), (11, true, false), (12, true, false), (13, true, false), (14, true, false)] (by kernel_rfl) (by kernel_rfl) (by kernel_rfl) rfl rfl ?_) | (with_reducible refine Keep.last ?_) | (with_reducible refine Keep.below (by assumption) ?_) | (with_reducible refine Keep.kept (by assumption) ?_) | (with_reducible refine Keep.alloc ?_) | (with_reducible refine Keep.same ?_) | ((with_reducible refine WpH.here ?_); first | (refine WpH.nil ?_; refine NoP.normal ?_) | (refine WpH.load (by rfl) (by rfl) (by go_simp; rfl) ?_; simp only [Act.put, List.setIfInBounds_toArray, List.set_cons_zero, List.set_cons_succ]) | (refine WpH.loadT (by rfl) (by rfl) (by go_simp; rfl) (by rintro _ _ ⟨⟩; exact ⟨_, _, _, _, _, _, by rfl, by assumption, by assumption⟩) ?_; simp only [Act.put, List.setIfInBounds_toArray, List.set_cons_zero, List.set_cons_succ]) | (refine WpH.pure (by rfl) (fun w_ => by go_simp; (try go_bits); rfl) ?_; simp only [Act.put, List.setIfInBounds_toArray, List.set_cons_zero, List.set_cons_succ]) | (refine WpH.wild1 (by rfl) (fun _ _ => ?_)) | (refine WpH.skip (by rfl) ?_; simp only [Act.put, List.setIfInBounds_toArray, List.set_cons_zero, List.set_cons_succ])) | go_values | go_skip | go_guarded | go_step | go_upon | go_back)
            (all_goals (try trace_state))
            go_roundw
            case rel => exact ⟨k + 1, i + 1, i + 1, by go_num, by go_num, by go_num, Hn2, by omega, by omega, by omega, hbr.drew⟩
            case measure => simp [RowKit.intOf]; omega
          · have hili : ¬ (i : Int) < s.size := by omega
            clear hix2 hix
            repeat' (first | ((with_reducible refine region_at 10 ?_); refine wp_region_order [(0, true, false), (1, true, false), (2, true, false), (3, true, false), (4, true, false), (5, true, false), (6, true, false), (7, true, false), (8, true, false), (9, true, false), (10, true, false), (11, true, false), (12, true, false), (13, true, false), (14, true, false)] (by kernel_rfl) (by kernel_rfl) (by kernel_rfl) rfl rfl ?_) | (with_reducible refine Keep.last ?_) | (with_reducible refine Keep.below (by assumption) ?_) | (with_reducible refine Keep.kept (by assumption) ?_) | (with_reducible refine Keep.alloc ?_) | (with_reducible refine Keep.same ?_) | ((with_reducible refine WpH.here ?_); first | (refine WpH.nil ?_; refine NoP.normal ?_) | (refine WpH.load (by rfl) (by rfl) (by go_simp; rfl) ?_; simp only [Act.put, List.setIfInBounds_toArray, List.set_cons_zero, List.set_cons_succ]) | (refine WpH.loadT (by rfl) (by rfl) (by go_simp; rfl) (by rintro _ _ ⟨⟩; exact ⟨_, _, _, _, _, _, by rfl, by assumption, by assumption⟩) ?_; simp only [Act.put, List.setIfInBounds_toArray, List.set_cons_zero, List.set_cons_succ]) | (refine WpH.pure (by rfl) (fun w_ => by go_simp; (try go_bits); rfl) ?_; simp only [Act.put, List.setIfInBounds_toArray, List.set_cons_zero, List.set_cons_succ]) | (refine WpH.wild1 (by rfl) (fun _ _ => ?_)) | (refine WpH.skip (by rfl) ?_; simp only [Act.put, List.setIfInBounds_toArray, List.set_cons_zero, List.set_cons_succ])) | go_values | go_skip | go_guarded | go_step | go_upon | go_back)
            (all_goals (try trace_state))
            go_roundw
            case rel => exact ⟨k + 1, i + 1, i + 1, by go_num, by go_num, by go_num, Hn2, by omega, by omega, by omega, hbr.drew⟩
            case measure => simp [RowKit.intOf]; omega
      · have hie : ¬ (i : Int) ≤ s.size := by omega
        have hkn2 : k = n := by
          rcases HL.out with ⟨x, hx, hfs, hfi, hix⟩ | ⟨h, _⟩
          · have h1 := (cut_at HC.out hx).1
            have hsl : s.data.toList.length = s.size := rfl
            rw [← hfs] at h1
            omega
          · rw [h, List.length_map, Hn.out]
        subst hkn2
        have HK := hid (wakes6_any wr _ (Hs.out.step (b0.trans (hbr.mono b0.size))))
        clear hB
        repeat' (first | (go_at_call 54; go_must ((with_reducible refine Calls.mono HK.out ?_); rintro _ w9 ⟨rfl, hb9⟩; dsimp only)) | (with_reducible refine Keep.last ?_) | (with_reducible refine Keep.below (by assumption) ?_) | (with_reducible refine Keep.kept (by assumption) ?_) | (with_reducible refine Keep.alloc ?_) | (with_reducible refine Keep.same ?_) | ((with_reducible refine WpH.here ?_); first | (refine WpH.nil ?_; refine NoP.normal ?_) | (refine WpH.load (by rfl) (by rfl) (by go_simp; rfl) ?_; simp only [Act.put, List.setIfInBounds_toArray, List.set_cons_zero, List.set_cons_succ]) | (refine WpH.loadT (by rfl) (by rfl) (by go_simp; rfl) (by rintro _ _ ⟨⟩; exact ⟨_, _, _, _, _, _, by rfl, by assumption, by assumption⟩) ?_; simp only [Act.put, List.setIfInBounds_toArray, List.set_cons_zero, List.set_cons_succ]) | (refine WpH.pure (by rfl) (fun w_ => by go_simp; (try go_bits); rfl) ?_; simp only [Act.put, List.setIfInBounds_toArray, List.set_cons_zero, List.set_cons_succ]) | (refine WpH.wild1 (by rfl) (fun _ _ => ?_)) | (refine WpH.skip (by rfl) ?_; simp only [Act.put, List.setIfInBounds_toArray, List.set_cons_zero, List.set_cons_succ])) | go_values | go_skip | go_guarded | go_step | go_upon | go_back)
        (all_goals (try trace_state))
        go_ret
        exact ⟨rfl, b0.trans ((bvia hbr hb9).mono b0.size)⟩
end Go.Proofs.YtfihjajllfihjaaDoor
