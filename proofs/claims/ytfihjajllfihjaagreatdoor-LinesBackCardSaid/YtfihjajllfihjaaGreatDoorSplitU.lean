/- lines.Split: the pieces of a text between its bytes 10. Condition: fewer than 2^32 - 15 bytes. -/
import Derived.Test.YtfihjajllfihjaaGreatDoorStrSplit
namespace Go.Proofs.YtfihjajllfihjaaGreatDoor
set_option linter.unusedSimpArgs false
set_option linter.unusedVariables false
open Go Go.RowKit
/-- pieces with a byte 10 behind each -/
def endedU (ls : List (List UInt8)) : List UInt8 := ls.flatMap (· ++ [10])
theorem endedU_append (a b : List (List UInt8)) : endedU (a ++ b) = endedU a ++ endedU b := by simp [endedU]
theorem endedU_one (x : List UInt8) : endedU [x] = x ++ [10] := by simp [endedU]
theorem endedU_le (ls : List (List UInt8)) : ls.length ≤ (endedU ls).length := by
  induction ls with
  | nil => exact Nat.zero_le _
  | cons x ls ih =>
    rw [show x :: ls = [x] ++ ls from rfl, endedU_append, endedU_one]
    simp
    omega
/-- the pieces of s -/
def IsCut (s : List UInt8) (P : List (List UInt8)) : Prop := endedU P = s ++ [10] ∧ ∀ x ∈ P, (10 : UInt8) ∉ x
theorem splitK_cut : ∀ (k : Nat) (s : List UInt8), s.count 10 = k → IsCut s (Lib.splitK [10] 0 k s)
  | 0, s, h => ⟨by rw [Lib.splitK, endedU_one], fun x hx => by
      have : x = s := by simpa [Lib.splitK] using hx
      rw [this]
      exact List.count_eq_zero.1 h⟩
  | k + 1, s, h => by
    unfold Lib.splitK
    rw [Lib.index_one]
    have hge := Lib.indexByte_ge s 10
    by_cases hm : Lib.indexByte s 10 = -1
    · have h0 : s.count 10 = 0 := List.count_eq_zero.2 fun hmem => by
        obtain ⟨i, hi, he⟩ := List.getElem_of_mem hmem
        exact Lib.indexByte_none hm i (by rw [List.getElem?_eq_getElem hi, he])
      omega
    · obtain ⟨i, hi⟩ : ∃ i : Nat, Lib.indexByte s 10 = i := ⟨(Lib.indexByte s 10).toNat, by omega⟩
      obtain ⟨h1, h2⟩ := Lib.indexByte_some hi
      rw [hi, if_neg (by simp)]
      simp only [Int.toNat_natCast, Nat.add_zero, List.length_singleton]
      have hil := (List.getElem?_eq_some_iff.1 h1).1
      have hsp : s = s.take i ++ ([10] ++ s.drop (i + 1)) := by
        conv => lhs; rw [← List.take_append_drop i s]
        congr 1
        rw [List.drop_eq_getElem_cons hil, (List.getElem?_eq_some_iff.1 h1).2]
        rfl
      have hn : (10 : UInt8) ∉ s.take i := fun hmem => by
        obtain ⟨j, hj, he⟩ := List.getElem_of_mem hmem
        rw [List.length_take] at hj
        rw [List.getElem_take] at he
        exact h2 j (by omega) (by rw [List.getElem?_eq_getElem (by omega), he])
      have hc : (s.drop (i + 1)).count 10 = k := by
        have := congrArg (List.count 10) hsp
        rw [List.count_append, List.count_append, List.count_eq_zero.2 hn, h] at this
        simp at this
        omega
      obtain ⟨g1, g2⟩ := splitK_cut k (s.drop (i + 1)) hc
      refine ⟨?_, fun x hx => ?_⟩
      · rw [show s.take i :: Lib.splitK [10] 0 k (s.drop (i + 1)) = [s.take i] ++ Lib.splitK [10] 0 k (s.drop (i + 1)) from rfl, endedU_append, endedU_one, g1]
        conv => rhs; rw [hsp]
        simp
      · rcases List.mem_cons.1 hx with hx | hx
        · rw [hx]; exact hn
        · exact g2 x hx
def startU (P : List (List UInt8)) (k : Nat) : Nat := (endedU (P.take k)).length
theorem cut_at {s x : List UInt8} {P : List (List UInt8)} {k : Nat} (h : IsCut s P) (hx : P[k]? = some x) :
    startU P k + x.length ≤ s.length ∧ (s.drop (startU P k)).take x.length = x ∧ startU P (k + 1) = startU P k + x.length + 1 ∧ (startU P k + x.length < s.length → s[startU P k + x.length]? = some 10 ∧ k + 1 < P.length) ∧ (startU P k + x.length = s.length → k + 1 = P.length) := by
  obtain ⟨hk, hxe⟩ := List.getElem?_eq_some_iff.1 hx
  have hj : s ++ [10] = endedU (P.take k) ++ (x ++ ([10] ++ endedU (P.drop (k + 1)))) := by
    rw [← h.1]
    conv => lhs; rw [← List.take_append_drop k P]
    rw [endedU_append]
    congr 1
    rw [List.drop_eq_getElem_cons hk, hxe, show x :: P.drop (k + 1) = [x] ++ P.drop (k + 1) from rfl, endedU_append, endedU_one, List.append_assoc]
  have hst : (endedU (P.take k)).length = startU P k := rfl
  have hlen := congrArg List.length hj
  simp only [List.length_append, List.length_singleton] at hlen
  rw [hst] at hlen
  have hle := endedU_le (P.drop (k + 1))
  rw [List.length_drop] at hle
  have hs1 : startU P k + x.length ≤ s.length := by omega
  refine ⟨hs1, ?_, ?_, fun hlt => ⟨?_, ?_⟩, fun heq => ?_⟩
  · have h1 : (s ++ [10]).drop (startU P k) = x ++ ([10] ++ endedU (P.drop (k + 1))) := by
      rw [hj]
      exact List.drop_left' rfl
    rw [List.drop_append_of_le_length (by omega)] at h1
    have h2 := congrArg (List.take x.length) h1
    rw [List.take_append_of_le_length (by rw [List.length_drop]; omega), List.take_left' rfl] at h2
    exact h2
  · unfold startU
    rw [List.take_add_one, hx, endedU_append, show (some x).toList = [x] from rfl, endedU_one]
    simp
    omega
  · have : (s ++ [10])[startU P k + x.length]? = some 10 := by
      rw [hj, List.getElem?_append_right (by omega), List.getElem?_append_right (by omega), show startU P k + x.length - (endedU (P.take k)).length - x.length = 0 by omega]
      rfl
    rwa [List.getElem?_append_left hlt] at this
  · rcases Nat.lt_or_ge (k + 1) P.length with h1 | h1
    · exact h1
    · have hd : P.drop (k + 1) = [] := List.drop_eq_nil_of_le h1
      rw [hd, show (endedU []).length = 0 from rfl] at hlen
      omega
  · omega
/-- the pieces that strings.Split hands back -/
theorem splitB_cut (s : ByteArray) : IsCut s.data.toList ((Lib.splitB sep10 0 (Lib.countB s sep10) s).map (·.data.toList)) := by
  rw [Lib.splitB_data]
  refine splitK_cut _ _ ?_
  show s.data.toList.count 10 = Lib.count s.data.toList [10]
  rw [Lib.count_one]
theorem linesSplit_any (s : ByteArray) (w : World) (hs : s.size < 4294967281) :
    Calls Tryz.prog 21 #[.string s] w fun e w' =>
      e = .returned (.slice (some ⟨w.heap.size, 0, none⟩) (Lib.countB s sep10 + 1) (Lib.countB s sep10 + 1)) ∧ w' = w.alloc (.cells ((Lib.splitB sep10 0 (Lib.countB s sep10) s).map Value.string).toArray 9) := by
  have HS := hid (strSplit_any s w hs)
  go_enter Tryz.func21, Tryz.ntmps21
  repeat' (first | (go_at_call 64; go_must ((with_reducible refine Calls.mono HS.out ?_); rintro _ w1 ⟨rfl, rfl⟩; dsimp only)) | (with_reducible refine Keep.last ?_) | (with_reducible refine Keep.below (by assumption) ?_) | (with_reducible refine Keep.kept (by assumption) ?_) | (with_reducible refine Keep.alloc ?_) | (with_reducible refine Keep.same ?_) | ((with_reducible refine WpH.here ?_); first | (refine WpH.nil ?_; refine NoP.normal ?_) | (refine WpH.load (by rfl) (by rfl) (by go_simp; rfl) ?_; simp only [Act.put, List.setIfInBounds_toArray, List.set_cons_zero, List.set_cons_succ]) | (refine WpH.loadT (by rfl) (by rfl) (by go_simp; rfl) (by rintro _ _ ⟨⟩; exact ⟨_, _, _, _, _, _, by rfl, by assumption, by assumption⟩) ?_; simp only [Act.put, List.setIfInBounds_toArray, List.set_cons_zero, List.set_cons_succ]) | (refine WpH.pure (by rfl) (fun w_ => by go_simp; (try go_bits); rfl) ?_; simp only [Act.put, List.setIfInBounds_toArray, List.set_cons_zero, List.set_cons_succ]) | (refine WpH.wild1 (by rfl) (fun _ _ => ?_)) | (refine WpH.skip (by rfl) ?_; simp only [Act.put, List.setIfInBounds_toArray, List.set_cons_zero, List.set_cons_succ])) | go_values | go_skip | go_guarded | go_step | go_upon | go_back)
  go_ret
  exact ⟨rfl, rfl⟩
end Go.Proofs.YtfihjajllfihjaaGreatDoor
