/- The document's UTF8 of a row of characters: the walk. Conditions: the row lies in memory, the characters are right, fewer than 2^29. Chapter 6, plain: a text's characters, decoded one by one; the characters of a model's row are right; a text cut at its bytes 10. Arguments opened: rows of numbers. No condition. -/
import Derived.Test.YtfihjajllfihjaaGreatDoorRunes
import Derived.Lib.RuneBytes
import Derived.Lib.SlBytesRow
import Derived.Lib.BufferRead
import Derived.Lib.TrimUEq
import Derived.Test.YtfihjajllfihjaaGreatDoorOpenG
import Derived.Test.YtfihjajllfihjaaGreatDoorErr3
namespace Go.Proofs.YtfihjajllfihjaaGreatDoor
set_option linter.unusedSimpArgs false
set_option linter.unusedVariables false
open Go Go.RowKit
/-- a byte in a cell -/
structure By where
  b : Int
instance : Enc By where
  k := 1
  cells r := [.int .u8 r.b]
  len _ := rfl
  one := by
    intro a u hu
    have : u = .int .u8 a.b := by simpa using hu
    subst this
    rfl
theorem Tryz.infoBy : (Tryz.prog.info? 5).map (fun i => (i.zero, i.size, i.bytes)) = some (some (.int .u8 0), 1, 1) := by kernel_rfl
theorem wp_append_bytes {ac : Act} {K : Act → World → Prop} {Q : Exit → Act → World → Prop} {w : World} {dst : Option Tmp} {s x : Operand} {ty : TypeId} {pos : String} {after : Array Edge} {guard : Option (Nat × Bool)}
    (base : Nat) (A B : Option Addr) (n c m d : Nat) (es fs : List By) (S : Nat → Prop) (hs : ac.eval s = .slice A n c) (hx : ac.eval x = .slice B m d) (hown : GOwn 5 w base A n c es) (hrow : GRow w S B m d fs) (hb : base ≤ w.heap.size) (hbd : n + m ≤ 1099511627776)
    (h : ∀ A' c' w', GOwn 5 w' base A' (n + m) c' (es ++ fs) → Below base w w' → Same (fun k => ∀ g, A = some g → g.block ≠ k) w w' → (A' = A ∨ ∃ g, A' = some ⟨g, 0, none⟩ ∧ w.heap.size ≤ g) → w.heap.size ≤ w'.heap.size → K (ac.put dst (.slice A' (n + m) c')) w') :
    Oper.wp Tryz.prog ⟨dst, .call ⟨.builtin .append, #[s, x], #[100, 100]⟩, ty, pos, after, guard⟩ ac w K Q :=
  wp_append_g (α := By) 100 5 _ 1 Tryz.underlying100 Tryz.infoBy rfl (by decide) (by decide) (by decide) base A B n c m d es fs S hs hx hown hrow hb hbd h
theorem app_bytes_here {ac : Act} {K : Act → World → Prop} {Q : Exit → Act → World → Prop} {w : World} {dst : Option Tmp} {s x : Operand} {ty : TypeId} {pos : String} {after : Array Edge} {guard : Option (Nat × Bool)}
    (h : Oper.wp Tryz.prog ⟨dst, .call ⟨.builtin .append, #[s, x], #[100, 100]⟩, ty, pos, after, guard⟩ ac w K Q) : Oper.wp Tryz.prog ⟨dst, .call ⟨.builtin .append, #[s, x], #[100, 100]⟩, ty, pos, after, guard⟩ ac w K Q := h
theorem grow_bytes (W : World) (bs : List Int) (cs : Array Value) (hc : cs.toList = bs.map (Value.int .u8)) (hl : bs.length ≤ 4) : GRow (W.alloc (.cells cs 5)) (fun _ => True) (some ⟨W.heap.size, 0, none⟩) bs.length bs.length (bs.map By.mk) := by
  have h := (GOwn.lit (t := 5) W cs (bs.map By.mk) W.heap.size (Nat.le_refl _) (by rw [List.length_map]; unfold maxLen; omega) (by
    rw [hc]
    clear hc hl
    induction bs with
    | nil => rfl
    | cons b bs ih => rw [List.map_cons, List.map_cons, gcells_cons, ← ih]; rfl)).row (S := fun _ => True) fun _ _ _ => trivial
  rwa [List.length_map] at h
def bytesZ (s : List Int) : List Int := s.flatMap Lib.encodeRuneZ
theorem bytesZ_snoc (s : List Int) (c : Int) : bytesZ (s ++ [c]) = bytesZ s ++ Lib.encodeRuneZ c := by simp [bytesZ, List.flatMap_append]
theorem bytesZ_le (s : List Int) : (bytesZ s).length ≤ 4 * s.length := by
  induction s with
  | nil => exact Nat.zero_le _
  | cons c s ih =>
    have := (Lib.encodeRuneZ_length c).2
    rw [show bytesZ (c :: s) = Lib.encodeRuneZ c ++ bytesZ s from rfl, List.length_append, List.length_cons]
    omega
set_option maxRecDepth 100000 in
set_option maxHeartbeats 4000000 in
theorem refUtf8_any (w : World) (A : Option Addr) (n c : Nat) (s : List Int) (S : Nat → Prop) (h : GRow w S A n c (s.map Rn.mk)) (hn : n ≤ 536870912) (hr : ∀ x ∈ s, rightC x = true) :
    Calls Tryz.prog 87 #[.slice A n c] w fun e w' => e = .returned (.string ⟨((bytesZ s).map fun x => x.toNat.toUInt8).toArray⟩) ∧ Below w.heap.size w w' := by
  have Hr := hid h
  have hnl : s.length = n := by have := h.1; rwa [List.length_map] at this
  have HR := hid hr
  clear h hr
  go_enter Tryz.func87, Tryz.ntmps87
  repeat' (first | (with_reducible refine Keep.last ?_) | (with_reducible refine Keep.below (by assumption) ?_) | (with_reducible refine Keep.kept (by assumption) ?_) | (with_reducible refine Keep.alloc ?_) | (with_reducible refine Keep.same ?_) | ((with_reducible refine WpH.here ?_); first | (refine WpH.nil ?_; refine NoP.normal ?_) | (refine WpH.load (by rfl) (by rfl) (by go_simp; rfl) ?_; simp only [Act.put, List.setIfInBounds_toArray, List.set_cons_zero, List.set_cons_succ]) | (refine WpH.loadT (by rfl) (by rfl) (by go_simp; rfl) (by rintro _ _ ⟨⟩; exact ⟨_, _, _, _, _, _, by rfl, by assumption, by assumption⟩) ?_; simp only [Act.put, List.setIfInBounds_toArray, List.set_cons_zero, List.set_cons_succ]) | (refine WpH.pure (by rfl) (fun w_ => by go_simp; (try go_bits); rfl) ?_; simp only [Act.put, List.setIfInBounds_toArray, List.set_cons_zero, List.set_cons_succ]) | (refine WpH.wild1 (by rfl) (fun _ _ => ?_)) | (refine WpH.skip (by rfl) ?_; simp only [Act.put, List.setIfInBounds_toArray, List.set_cons_zero, List.set_cons_succ])) | go_values | go_skip | go_guarded | go_step | go_upon | go_back)
  go_loopw [3, 4] (fun o i wr => ∃ (k v : Nat) (A1 : Option Addr) (c1 : Nat), i = .int .i64 k ∧ o = .slice A1 v c1 ∧ v = (bytesZ (s.take k)).length ∧ k ≤ n ∧ v ≤ 4 * k ∧ GOwn 5 wr w.heap.size A1 v c1 ((bytesZ (s.take k)).map By.mk) ∧ Below w.heap.size w wr) (fun _ i _ => n - (intOf i).toNat)
  case atStart => exact ⟨0, 0, none, 0, rfl, rfl, rfl, Nat.zero_le _, Nat.zero_le _, GOwn.nil _ _ _, Below.refl _ _⟩
  case round =>
    obtain ⟨k, v, A1, c1, rfl, rfl, hv, hk, hvk, hown, hbr⟩ := hrel
    by_cases hlt : k < n
    · obtain ⟨b, off, e, rfl, hSb, hbl, he, hcell⟩ := (Hr.out.step hbr).at_ hlt
      obtain ⟨ch, hch, rfl⟩ : ∃ ch, s[k]? = some ch ∧ Rn.mk ch = e := by simpa using he
      have c0 : wr.cell? ⟨b, off + k * 1, none⟩ = some (.int .i32 ch) := hcell 0 _ rfl
      rw [Nat.mul_one] at c0
      have hki : (k : Int) < n := by omega
      have hrc := HR.out ch (List.mem_of_getElem? hch)
      unfold rightC at hrc
      have hrr := of_decide_eq_true hrc
      have hc0 : 0 ≤ ch := hrr.1
      have hc1 : ch ≤ 1114111 := hrr.2.1
      have hz := hbr.size
      have Hv := hid hv
      have Hch := hid hch
      have Hrr := hid hrr.2.2
      clear hcell he hrc hSb hv hch hrr
      by_cases h1 : ch < 128
      · repeat' (first | ((with_reducible refine app_bytes_here ?_); go_must (have eL := balloc (o := .cells #[.int .u8 ch] 5) (Below.refl _ wr); have hz2 := eL.size; refine wp_append_bytes w.heap.size A1 _ v c1 _ _ ((bytesZ (s.take k)).map By.mk) (([ch] : List Int).map By.mk) (fun _ => True) (by rfl) (by rfl) (hown.step eL) (grow_bytes wr [ch] #[.int .u8 ch] rfl (by simp)) (by omega) (by show v + _ ≤ _; simp only [List.length_cons, List.length_nil]; omega) ?_; intro A3 c3 w3 hown3 hb3 hsm3 hat3 hz3; have hB3 := (bvia hbr eL).trans hb3)) | (with_reducible refine Keep.last ?_) | (with_reducible refine Keep.below (by assumption) ?_) | (with_reducible refine Keep.kept (by assumption) ?_) | (with_reducible refine Keep.alloc ?_) | (with_reducible refine Keep.same ?_) | ((with_reducible refine WpH.here ?_); first | (refine WpH.nil ?_; refine NoP.normal ?_) | (refine WpH.load (by rfl) (by rfl) (by go_simp; rfl) ?_; simp only [Act.put, List.setIfInBounds_toArray, List.set_cons_zero, List.set_cons_succ]) | (refine WpH.loadT (by rfl) (by rfl) (by go_simp; rfl) (by rintro _ _ ⟨⟩; exact ⟨_, _, _, _, _, _, by rfl, by assumption, by assumption⟩) ?_; simp only [Act.put, List.setIfInBounds_toArray, List.set_cons_zero, List.set_cons_succ]) | (refine WpH.pure (by rfl) (fun w_ => by go_simp; (try go_bits); rfl) ?_; simp only [Act.put, List.setIfInBounds_toArray, List.set_cons_zero, List.set_cons_succ]) | (refine WpH.wild1 (by rfl) (fun _ _ => ?_)) | (refine WpH.skip (by rfl) ?_; simp only [Act.put, List.setIfInBounds_toArray, List.set_cons_zero, List.set_cons_succ])) | go_values | go_skip | go_guarded | go_step | go_upon | go_back)
        go_roundw
        case rel =>
          have hnew : bytesZ (s.take (k + 1)) = bytesZ (s.take k) ++ [ch] := by rw [List.take_add_one, Hch.out, show (some ch).toList = [ch] from rfl, bytesZ_snoc, Lib.encodeRuneZ_one (by omega) (by omega)]
          exact ⟨k + 1, v + 1, A3, c3, by go_num, rfl, by rw [hnew, List.length_append, ← Hv.out]; rfl, by omega, by omega, by rw [hnew, List.map_append]; exact hown3, hB3⟩
        case measure => simp [intOf]; omega
      · by_cases h2 : ch < 2048
        · repeat' (first | ((with_reducible refine app_bytes_here ?_); go_must (have eL := balloc (o := .cells #[.int .u8 (192 + ch / 64), .int .u8 (128 + ch % 64)] 5) (Below.refl _ wr); have hz2 := eL.size; refine wp_append_bytes w.heap.size A1 _ v c1 _ _ ((bytesZ (s.take k)).map By.mk) (([192 + ch / 64, 128 + ch % 64] : List Int).map By.mk) (fun _ => True) (by rfl) (by rfl) (hown.step eL) (grow_bytes wr [192 + ch / 64, 128 + ch % 64] #[.int .u8 (192 + ch / 64), .int .u8 (128 + ch % 64)] rfl (by simp)) (by omega) (by show v + _ ≤ _; simp only [List.length_cons, List.length_nil]; omega) ?_; intro A3 c3 w3 hown3 hb3 hsm3 hat3 hz3; have hB3 := (bvia hbr eL).trans hb3)) | (with_reducible refine Keep.last ?_) | (with_reducible refine Keep.below (by assumption) ?_) | (with_reducible refine Keep.kept (by assumption) ?_) | (with_reducible refine Keep.alloc ?_) | (with_reducible refine Keep.same ?_) | ((with_reducible refine WpH.here ?_); first | (refine WpH.nil ?_; refine NoP.normal ?_) | (refine WpH.load (by rfl) (by rfl) (by go_simp; rfl) ?_; simp only [Act.put, List.setIfInBounds_toArray, List.set_cons_zero, List.set_cons_succ]) | (refine WpH.loadT (by rfl) (by rfl) (by go_simp; rfl) (by rintro _ _ ⟨⟩; exact ⟨_, _, _, _, _, _, by rfl, by assumption, by assumption⟩) ?_; simp only [Act.put, List.setIfInBounds_toArray, List.set_cons_zero, List.set_cons_succ]) | (refine WpH.pure (by rfl) (fun w_ => by go_simp; (try go_bits); rfl) ?_; simp only [Act.put, List.setIfInBounds_toArray, List.set_cons_zero, List.set_cons_succ]) | (refine WpH.wild1 (by rfl) (fun _ _ => ?_)) | (refine WpH.skip (by rfl) ?_; simp only [Act.put, List.setIfInBounds_toArray, List.set_cons_zero, List.set_cons_succ])) | go_values | go_skip | go_guarded | go_step | go_upon | go_back)
          go_roundw
          case rel =>
            have hnew : bytesZ (s.take (k + 1)) = bytesZ (s.take k) ++ [192 + ch / 64, 128 + ch % 64] := by rw [List.take_add_one, Hch.out, show (some ch).toList = [ch] from rfl, bytesZ_snoc, Lib.encodeRuneZ_two (by omega) (by omega)]
            exact ⟨k + 1, v + 2, A3, c3, by go_num, rfl, by rw [hnew, List.length_append, ← Hv.out]; rfl, by omega, by omega, by rw [hnew, List.map_append]; exact hown3, hB3⟩
          case measure => simp [intOf]; omega
        · by_cases h3 : ch < 65536
          · repeat' (first | ((with_reducible refine app_bytes_here ?_); go_must (have eL := balloc (o := .cells #[.int .u8 (224 + ch / 4096), .int .u8 (128 + ch / 64 % 64), .int .u8 (128 + ch % 64)] 5) (Below.refl _ wr); have hz2 := eL.size; refine wp_append_bytes w.heap.size A1 _ v c1 _ _ ((bytesZ (s.take k)).map By.mk) (([224 + ch / 4096, 128 + ch / 64 % 64, 128 + ch % 64] : List Int).map By.mk) (fun _ => True) (by rfl) (by rfl) (hown.step eL) (grow_bytes wr [224 + ch / 4096, 128 + ch / 64 % 64, 128 + ch % 64] #[.int .u8 (224 + ch / 4096), .int .u8 (128 + ch / 64 % 64), .int .u8 (128 + ch % 64)] rfl (by simp)) (by omega) (by show v + _ ≤ _; simp only [List.length_cons, List.length_nil]; omega) ?_; intro A3 c3 w3 hown3 hb3 hsm3 hat3 hz3; have hB3 := (bvia hbr eL).trans hb3)) | (with_reducible refine Keep.last ?_) | (with_reducible refine Keep.below (by assumption) ?_) | (with_reducible refine Keep.kept (by assumption) ?_) | (with_reducible refine Keep.alloc ?_) | (with_reducible refine Keep.same ?_) | ((with_reducible refine WpH.here ?_); first | (refine WpH.nil ?_; refine NoP.normal ?_) | (refine WpH.load (by rfl) (by rfl) (by go_simp; rfl) ?_; simp only [Act.put, List.setIfInBounds_toArray, List.set_cons_zero, List.set_cons_succ]) | (refine WpH.loadT (by rfl) (by rfl) (by go_simp; rfl) (by rintro _ _ ⟨⟩; exact ⟨_, _, _, _, _, _, by rfl, by assumption, by assumption⟩) ?_; simp only [Act.put, List.setIfInBounds_toArray, List.set_cons_zero, List.set_cons_succ]) | (refine WpH.pure (by rfl) (fun w_ => by go_simp; (try go_bits); rfl) ?_; simp only [Act.put, List.setIfInBounds_toArray, List.set_cons_zero, List.set_cons_succ]) | (refine WpH.wild1 (by rfl) (fun _ _ => ?_)) | (refine WpH.skip (by rfl) ?_; simp only [Act.put, List.setIfInBounds_toArray, List.set_cons_zero, List.set_cons_succ])) | go_values | go_skip | go_guarded | go_step | go_upon | go_back)
            go_roundw
            case rel =>
              have hnew : bytesZ (s.take (k + 1)) = bytesZ (s.take k) ++ [224 + ch / 4096, 128 + ch / 64 % 64, 128 + ch % 64] := by rw [List.take_add_one, Hch.out, show (some ch).toList = [ch] from rfl, bytesZ_snoc, Lib.encodeRuneZ_three (by have := Hrr.out; omega)]
              exact ⟨k + 1, v + 3, A3, c3, by go_num, rfl, by rw [hnew, List.length_append, ← Hv.out]; rfl, by omega, by omega, by rw [hnew, List.map_append]; exact hown3, hB3⟩
            case measure => simp [intOf]; omega
          · repeat' (first | ((with_reducible refine app_bytes_here ?_); go_must (have eL := balloc (o := .cells #[.int .u8 (240 + ch / 262144), .int .u8 (128 + ch / 4096 % 64), .int .u8 (128 + ch / 64 % 64), .int .u8 (128 + ch % 64)] 5) (Below.refl _ wr); have hz2 := eL.size; refine wp_append_bytes w.heap.size A1 _ v c1 _ _ ((bytesZ (s.take k)).map By.mk) (([240 + ch / 262144, 128 + ch / 4096 % 64, 128 + ch / 64 % 64, 128 + ch % 64] : List Int).map By.mk) (fun _ => True) (by rfl) (by rfl) (hown.step eL) (grow_bytes wr [240 + ch / 262144, 128 + ch / 4096 % 64, 128 + ch / 64 % 64, 128 + ch % 64] #[.int .u8 (240 + ch / 262144), .int .u8 (128 + ch / 4096 % 64), .int .u8 (128 + ch / 64 % 64), .int .u8 (128 + ch % 64)] rfl (by simp)) (by omega) (by show v + _ ≤ _; simp only [List.length_cons, List.length_nil]; omega) ?_; intro A3 c3 w3 hown3 hb3 hsm3 hat3 hz3; have hB3 := (bvia hbr eL).trans hb3)) | (with_reducible refine Keep.last ?_) | (with_reducible refine Keep.below (by assumption) ?_) | (with_reducible refine Keep.kept (by assumption) ?_) | (with_reducible refine Keep.alloc ?_) | (with_reducible refine Keep.same ?_) | ((with_reducible refine WpH.here ?_); first | (refine WpH.nil ?_; refine NoP.normal ?_) | (refine WpH.load (by rfl) (by rfl) (by go_simp; rfl) ?_; simp only [Act.put, List.setIfInBounds_toArray, List.set_cons_zero, List.set_cons_succ]) | (refine WpH.loadT (by rfl) (by rfl) (by go_simp; rfl) (by rintro _ _ ⟨⟩; exact ⟨_, _, _, _, _, _, by rfl, by assumption, by assumption⟩) ?_; simp only [Act.put, List.setIfInBounds_toArray, List.set_cons_zero, List.set_cons_succ]) | (refine WpH.pure (by rfl) (fun w_ => by go_simp; (try go_bits); rfl) ?_; simp only [Act.put, List.setIfInBounds_toArray, List.set_cons_zero, List.set_cons_succ]) | (refine WpH.wild1 (by rfl) (fun _ _ => ?_)) | (refine WpH.skip (by rfl) ?_; simp only [Act.put, List.setIfInBounds_toArray, List.set_cons_zero, List.set_cons_succ])) | go_values | go_skip | go_guarded | go_step | go_upon | go_back)
            go_roundw
            case rel =>
              have hnew : bytesZ (s.take (k + 1)) = bytesZ (s.take k) ++ [240 + ch / 262144, 128 + ch / 4096 % 64, 128 + ch / 64 % 64, 128 + ch % 64] := by rw [List.take_add_one, Hch.out, show (some ch).toList = [ch] from rfl, bytesZ_snoc, Lib.encodeRuneZ_four (by omega) (by omega)]
              exact ⟨k + 1, v + 4, A3, c3, by go_num, rfl, by rw [hnew, List.length_append, ← Hv.out]; rfl, by omega, by omega, by rw [hnew, List.map_append]; exact hown3, hB3⟩
            case measure => simp [intOf]; omega
    · obtain rfl : k = n := by omega
      have hs : s.take k = s := List.take_of_length_le (by omega)
      rw [hs] at hv hown
      have hcv : (convert 100 9 (.slice A1 v c1)).run Tryz.prog wr = .ok (.string ⟨((bytesZ s).map fun x => x.toNat.toUInt8).toArray⟩) wr := by
        cases A1 with
        | none =>
          have hv0 : v = 0 := by
            rcases hown.2.2 with ⟨e, h0⟩ | ⟨g, cap, cur, e, _⟩
            · omega
            · injection e with e; cases e
          subst hv0
          rw [List.eq_nil_of_length_eq_zero hv.symm]
          exact Lib.run_convert_nil_bytes wr _ _ 5 c1 Tryz.underlying100 Tryz.underlying5 Tryz.underlying9
        | some a0 =>
          obtain ⟨g, rfl⟩ := hown.head
          have hrow := hown.row (S := fun _ => True) fun _ _ _ => trivial
          have hbb : ∀ x ∈ bytesZ s, 0 ≤ x ∧ x < 256 := fun x hx => by
            obtain ⟨y, _, hy⟩ := List.mem_flatMap.1 hx
            exact Lib.encodeRuneZ_byte y x hy
          have hl2 : ((bytesZ s).map fun x => x.toNat.toUInt8).length = v := by rw [List.length_map, hv]
          rw [← hl2]
          refine run_convert_bytes_back wr _ _ 5 _ c1 _ Tryz.underlying100 Tryz.underlying5 Tryz.underlying9 fun j hj => ?_
          rw [hl2] at hj
          obtain ⟨b, off, e, hA, _, _, he, hcell⟩ := hrow.at_ hj
          injection hA with hA
          injection hA with hA1 hA2
          subst hA1 hA2
          obtain ⟨y, hy, rfl⟩ : ∃ y, (bytesZ s)[j]? = some y ∧ By.mk y = e := by simpa using he
          have c0 : wr.cell? ⟨g, 0 + j * 1, none⟩ = some (.int .u8 y) := hcell 0 _ rfl
          have hyb := hbb y (List.mem_of_getElem? hy)
          obtain ⟨hjl, hje⟩ := List.getElem?_eq_some_iff.1 hy
          rw [show ((⟨g, 0, none⟩ : Addr).add j) = ⟨g, 0 + j * 1, none⟩ from by unfold Addr.add; split <;> simp_all, c0]
          congr 2
          rw [List.getElem_map, hje, UInt8.toNat_ofNat']
          omega
      have Hcv := hid hcv
      clear hv
      repeat' (first | (with_reducible refine Keep.last ?_) | (with_reducible refine Keep.below (by assumption) ?_) | (with_reducible refine Keep.kept (by assumption) ?_) | (with_reducible refine Keep.alloc ?_) | (with_reducible refine Keep.same ?_) | ((with_reducible refine WpH.here ?_); first | (refine WpH.nil ?_; refine NoP.normal ?_) | (refine WpH.load (by rfl) (by rfl) (by go_simp; rfl) ?_; simp only [Act.put, List.setIfInBounds_toArray, List.set_cons_zero, List.set_cons_succ]) | (refine WpH.loadT (by rfl) (by rfl) (by go_simp; rfl) (by rintro _ _ ⟨⟩; exact ⟨_, _, _, _, _, _, by rfl, by assumption, by assumption⟩) ?_; simp only [Act.put, List.setIfInBounds_toArray, List.set_cons_zero, List.set_cons_succ]) | (refine WpH.pure (by rfl) (fun w_ => by go_simp; (try go_bits); rfl) ?_; simp only [Act.put, List.setIfInBounds_toArray, List.set_cons_zero, List.set_cons_succ]) | (refine WpH.wild1 (by rfl) (fun _ _ => ?_)) | (refine WpH.skip (by rfl) ?_; simp only [Act.put, List.setIfInBounds_toArray, List.set_cons_zero, List.set_cons_succ])) | go_values | go_skip | go_guarded | go_step | go_upon | go_back)
      skip
      go_ret
      exact ⟨rfl, hbr⟩
end Go.Proofs.YtfihjajllfihjaaGreatDoor
namespace Go.Proofs.YtfihjajllfihjaaGreatDoor
set_option linter.unusedSimpArgs false
set_option linter.unusedVariables false
open Go Go.RowKit
theorem Mdl.allGood {w : World} {S : Nat → Prop} {mb : Nat} {l : List El} {K : Nat} (h : Mdl w S mb l K) : ∀ e ∈ l, e.Good := by
  obtain ⟨gt, gm, p, T, h1, h2, h3, h4, h5, h6, h7, h8, h9⟩ := h
  exact h9
theorem utf8S_bytesZ (s : List Int) : ((bytesZ s).map fun x => x.toNat.toUInt8) = utf8S s := by
  unfold bytesZ utf8S Lib.encodeRune
  rw [List.map_flatMap]
theorem seen_right {l : List El} (h : ∀ e ∈ l, e.Good) : ∀ x ∈ seenOf l, rightC x = true := by
  intro x hx
  unfold seenOf purgeOf at hx
  obtain ⟨e, he, rfl⟩ := List.mem_map.1 hx
  exact (h e (List.mem_filter.1 he).1).char
theorem splitS_mem {s x : List Int} {k : Nat} (h : (splitS s)[k]? = some x) : ∀ c ∈ x, c ∈ s := by
  intro c hc
  rw [← splitS_text h] at hc
  exact List.mem_of_mem_drop (List.mem_of_mem_take hc)
theorem toByteN (z : Int) (h1 : z < 256) : (z.toNat.toUInt8).toNat = z.toNat := by
  simp [Nat.toUInt8, UInt8.toNat_ofNat']
  omega
theorem decode_encode (c : Int) (h0 : 0 ≤ c) (h1 : c ≤ 1114111) (h2 : c < 55296 ∨ 57343 < c) (t : List UInt8) : Lib.decodeL (Lib.encodeRune c ++ t) = (c.toNat, (Lib.encodeRune c).length) := by
  rw [Lib.decodeL_N]
  unfold Lib.encodeRune
  by_cases a1 : c ≤ 127
  · rw [Lib.encodeRuneZ_one h0 a1]
    simp only [List.map_cons, List.map_nil, List.cons_append, List.nil_append, List.getD_cons_zero, List.length_cons, List.length_nil]
    rw [toByteN c (by omega)]
    unfold Lib.decodeN
    rw [if_pos (by omega)]
  · by_cases a2 : c ≤ 2047
    · rw [Lib.encodeRuneZ_two (by omega) a2]
      simp only [List.map_cons, List.map_nil, List.cons_append, List.nil_append, List.getD_cons_zero, List.getD_cons_succ, List.length_cons, List.length_nil]
      rw [toByteN _ (by omega), toByteN _ (by omega)]
      unfold Lib.decodeN
      rw [if_neg (by omega), if_pos (by omega), if_pos (by omega)]
      exact Prod.ext (by simp only; omega) (by simp only)
    · by_cases a3 : c ≤ 65535
      · rw [Lib.encodeRuneZ_three (by omega)]
        simp only [List.map_cons, List.map_nil, List.cons_append, List.nil_append, List.getD_cons_zero, List.getD_cons_succ, List.length_cons, List.length_nil]
        rw [toByteN _ (by omega), toByteN _ (by omega), toByteN _ (by omega)]
        unfold Lib.decodeN
        rw [if_neg (by omega), if_neg (by omega), if_pos (by omega), if_pos (by omega)]
        exact Prod.ext (by simp only; omega) (by simp only)
      · rw [Lib.encodeRuneZ_four (by omega) h1]
        simp only [List.map_cons, List.map_nil, List.cons_append, List.nil_append, List.getD_cons_zero, List.getD_cons_succ, List.length_cons, List.length_nil]
        rw [toByteN _ (by omega), toByteN _ (by omega), toByteN _ (by omega), toByteN _ (by omega)]
        unfold Lib.decodeN
        rw [if_neg (by omega), if_neg (by omega), if_neg (by omega), if_pos (by omega), if_pos (by omega)]
        exact Prod.ext (by simp only; omega) (by simp only)
theorem encode_len (c : Int) : 1 ≤ (Lib.encodeRune c).length ∧ (Lib.encodeRune c).length ≤ 4 := by
  have h := Lib.runeCells_le c
  rw [Lib.runeCells_length] at h
  exact h
/-- the text's bytes ahead of its k-th character -/
def posS (s : List Int) (k : Nat) : Nat := (utf8S (s.take k)).length
theorem utf8S_append (a b : List Int) : utf8S (a ++ b) = utf8S a ++ utf8S b := by simp [utf8S]
theorem utf8S_one (c : Int) : utf8S [c] = Lib.encodeRune c := by simp [utf8S]
theorem posS_succ {s : List Int} {k : Nat} {c : Int} (h : s[k]? = some c) : posS s (k + 1) = posS s k + (Lib.encodeRune c).length := by
  unfold posS
  rw [List.take_add_one, h, utf8S_append, show (some c).toList = [c] from rfl, utf8S_one, List.length_append]
theorem posS_end (s : List Int) : posS s s.length = (utf8S s).length := by
  unfold posS
  rw [List.take_length]
theorem posS_lt {s : List Int} {k : Nat} {c : Int} (h : s[k]? = some c) : posS s k < (utf8S s).length := by
  obtain ⟨hk, rfl⟩ := List.getElem?_eq_some_iff.1 h
  have h1 := posS_succ (List.getElem?_eq_getElem hk)
  have h2 : utf8S s = utf8S (s.take (k + 1)) ++ utf8S (s.drop (k + 1)) := by rw [← utf8S_append, List.take_append_drop]
  have h3 := congrArg List.length h2
  rw [List.length_append] at h3
  have h4 := (encode_len s[k]).1
  unfold posS at h1 ⊢
  omega
theorem decode_char {s : List Int} {k : Nat} {c : Int} (hr : rightC c = true) (h : s[k]? = some c) : Utf8.decode ⟨(utf8S s).toArray⟩ (posS s k) = (c.toNat, (Lib.encodeRune c).length) := by
  have h2 : utf8S s = utf8S (s.take k) ++ (Lib.encodeRune c ++ utf8S (s.drop (k + 1))) := by
    obtain ⟨hk, rfl⟩ := List.getElem?_eq_some_iff.1 h
    rw [← utf8S_one, ← utf8S_append, ← utf8S_append, show [s[k]] ++ s.drop (k + 1) = s.drop k from (List.drop_eq_getElem_cons hk).symm, List.take_append_drop]
  rw [← Lib.decodeL_drop]
  show Lib.decodeL ((utf8S s).drop (posS s k)) = _
  rw [h2, posS, List.drop_left]
  unfold rightC at hr
  have := of_decide_eq_true hr
  exact decode_encode c (by omega) (by omega) (by omega) _
theorem utf8S_le (s : List Int) : (utf8S s).length ≤ 4 * s.length := by
  induction s with
  | nil => exact Nat.zero_le _
  | cons c s ih =>
    rw [show c :: s = [c] ++ s from rfl, utf8S_append, utf8S_one, List.length_append]
    have := (encode_len c).2
    simp
    omega
theorem enc_ten : Lib.encodeRune 10 = [10] := by decide
theorem enc_no {c : Int} (h : rightC c = true) (h10 : c ≠ 10) : (10 : UInt8) ∉ Lib.encodeRune c := by
  intro hm
  unfold rightC at h
  have h := of_decide_eq_true h
  unfold Lib.encodeRune at hm
  obtain ⟨z, hz, hz10⟩ := List.mem_map.1 hm
  have hb := Lib.encodeRuneZ_byte c z hz
  have hz2 : z = 10 := by
    have h1 := congrArg UInt8.toNat hz10
    rw [toByteN z (by omega)] at h1
    have : (10 : UInt8).toNat = 10 := rfl
    omega
  subst hz2
  by_cases a1 : c ≤ 127
  · rw [Lib.encodeRuneZ_one (by omega) a1] at hz
    simp at hz
    omega
  · by_cases a2 : c ≤ 2047
    · rw [Lib.encodeRuneZ_two (by omega) a2] at hz
      simp at hz
      omega
    · by_cases a3 : c ≤ 65535
      · rw [Lib.encodeRuneZ_three (by omega)] at hz
        simp at hz
        omega
      · rw [Lib.encodeRuneZ_four (by omega) (by omega)] at hz
        simp at hz
        omega
theorem utf8S_no {s : List Int} (hr : ∀ x ∈ s, rightC x = true) (h : (10 : Int) ∉ s) : (10 : UInt8) ∉ utf8S s := by
  intro hm
  obtain ⟨c, hc, hm⟩ := List.mem_flatMap.1 hm
  exact enc_no (hr c hc) (fun e => h (e ▸ hc)) hm
end Go.Proofs.YtfihjajllfihjaaGreatDoor
namespace Go.Proofs.YtfihjajllfihjaaGreatDoor
set_option linter.unusedSimpArgs false
set_option linter.unusedVariables false
open Go Go.RowKit Go.ChangeShapes Go.WideShapes Go.ChangeAt Go.Deep
set_option maxRecDepth 20000 in
theorem ints6_of_trod {H : Type} {enc : TypeId × Value → H} {W : World} {v : Value} {d : DataW H} {p : List MemPlace} {r : Reach} {b0 : Nat} (hv : Value.okWide Tryz.prog W r b0 67 v) (h : DataW.Trod enc Tryz.prog W 0 (fun _ => true) true 67 v d p) :
    ∃ A n c, ∃ es : List Int, v = .slice A n c ∧ GRow W (fun b => b < W.heap.size) A n c es ∧ ∀ e ∈ es, True :=
  grow_of_trod (α := Int) (t := 3) Tryz.underlying67 (by kernel_rfl) (by decide) (fun _ => True) (fun fuel cs x hl h => by
    match cs, hl with
    | [u], _ =>
      obtain ⟨n, e, q⟩ := one_of_trod Tryz.underlying3 h rfl
      exact ⟨n, e, trivial⟩) hv h
end Go.Proofs.YtfihjajllfihjaaGreatDoor
