/- The document's UTF8 of a row of characters: the walk. Conditions: the row lies in memory, the characters are right, fewer than 2^29. Chapter 6, plain: a text's characters, decoded one by one; the characters of a model's row are right; a text cut at its bytes 10. Arguments opened: rows of numbers. No condition. The document's characters and view of a row: the walks. Conditions: the row lies in memory, its characters are right, fewer than 2^29 elements. -/
import Derived.Test.YtfihjajllfihjaaGreatDoorP30
import Derived.Lib.RuneBytes
import Derived.Lib.SlBytesRow
import Derived.Lib.BufferRead
import Derived.Lib.TrimUEq
import Derived.Test.YtfihjajllfihjaaGreatDoorSErr3
import Derived.Test.YtfihjajllfihjaaGreatDoorP29
namespace Go.Proofs.YtfihjajllfihjaaGreatDoor
set_option linter.unusedSimpArgs false
set_option linter.unusedVariables false
open Go Go.RowKit
/-- a byte in a cell -/
structure By where
  b : Int
instance : Enc By where
  k := 1
  cells r := [.int .u8 r.b]
  len _ := rfl
  one := by
    intro a u hu
    have : u = .int .u8 a.b := by simpa using hu
    subst this
    rfl
theorem Tryz.infoBy : (Tryz.prog.info? 5).map (fun i => (i.zero, i.size, i.bytes)) = some (some (.int .u8 0), 1, 1) := by kernel_rfl
theorem wp_append_bytes {ac : Act} {K : Act → World → Prop} {Q : Exit → Act → World → Prop} {w : World} {dst : Option Tmp} {s x : Operand} {ty : TypeId} {pos : String} {after : Array Edge} {guard : Option (Nat × Bool)}
    (base : Nat) (A B : Option Addr) (n c m d : Nat) (es fs : List By) (S : Nat → Prop) (hs : ac.eval s = .slice A n c) (hx : ac.eval x = .slice B m d) (hown : GOwn 5 w base A n c es) (hrow : GRow w S B m d fs) (hb : base ≤ w.heap.size) (hbd : n + m ≤ 1099511627776)
    (h : ∀ A' c' w', GOwn 5 w' base A' (n + m) c' (es ++ fs) → Below base w w' → Same (fun k => ∀ g, A = some g → g.block ≠ k) w w' → (A' = A ∨ ∃ g, A' = some ⟨g, 0, none⟩ ∧ w.heap.size ≤ g) → w.heap.size ≤ w'.heap.size → K (ac.put dst (.slice A' (n + m) c')) w') :
    Oper.wp Tryz.prog ⟨dst, .call ⟨.builtin .append, #[s, x], #[100, 100]⟩, ty, pos, after, guard⟩ ac w K Q :=
  wp_append_g (α := By) 100 5 _ 1 Tryz.underlying100 Tryz.infoBy rfl (by decide) (by decide) (by decide) base A B n c m d es fs S hs hx hown hrow hb hbd h
theorem app_bytes_here {ac : Act} {K : Act → World → Prop} {Q : Exit → Act → World → Prop} {w : World} {dst : Option Tmp} {s x : Operand} {ty : TypeId} {pos : String} {after : Array Edge} {guard : Option (Nat × Bool)}
    (h : Oper.wp Tryz.prog ⟨dst, .call ⟨.builtin .append, #[s, x], #[100, 100]⟩, ty, pos, after, guard⟩ ac w K Q) : Oper.wp Tryz.prog ⟨dst, .call ⟨.builtin .append, #[s, x], #[100, 100]⟩, ty, pos, after, guard⟩ ac w K Q := h
theorem grow_bytes (W : World) (bs : List Int) (cs : Array Value) (hc : cs.toList = bs.map (Value.int .u8)) (hl : bs.length ≤ 4) : GRow (W.alloc (.cells cs 5)) (fun _ => True) (some ⟨W.heap.size, 0, none⟩) bs.length bs.length (bs.map By.mk) := by
  have h := (GOwn.lit (t := 5) W cs (bs.map By.mk) W.heap.size (Nat.le_refl _) (by rw [List.length_map]; unfold maxLen; omega) (by
    rw [hc]
    clear hc hl
    induction bs with
    | nil => rfl
    | cons b bs ih => rw [List.map_cons, List.map_cons, gcells_cons, ← ih]; rfl)).row (S := fun _ => True) fun _ _ _ => trivial
  rwa [List.length_map] at h
def bytesZ (s : List Int) : List Int := s.flatMap Lib.encodeRuneZ
theorem bytesZ_snoc (s : List Int) (c : Int) : bytesZ (s ++ [c]) = bytesZ s ++ Lib.encodeRuneZ c := by simp [bytesZ, List.flatMap_append]
set_option maxRecDepth 100000 in
set_option maxHeartbeats 4000000 in
theorem refUtf8_any (w : World) (A : Option Addr) (n c : Nat) (s : List Int) (S : Nat → Prop) (h : GRow w S A n c (s.map Rn.mk)) (hn : n ≤ 536870912) (hr : ∀ x ∈ s, rightC x = true) :
    Calls Tryz.prog 87 #[.slice A n c] w fun e w' => e = .returned (.string ⟨((bytesZ s).map fun x => x.toNat.toUInt8).toArray⟩) ∧ Below w.heap.size w w' := by
  have Hr := hid h
  have hnl : s.length = n := by have := h.1; rwa [List.length_map] at this
  have HR := hid hr
  clear h hr
  go_enter Tryz.func87, Tryz.ntmps87
  repeat' (first | go_values | go_skip | go_guarded | go_step | go_upon | go_back)
  go_loopw [3, 4] (fun o i wr => ∃ (k v : Nat) (A1 : Option Addr) (c1 : Nat), i = .int .i64 k ∧ o = .slice A1 v c1 ∧ v = (bytesZ (s.take k)).length ∧ k ≤ n ∧ v ≤ 4 * k ∧ GOwn 5 wr w.heap.size A1 v c1 ((bytesZ (s.take k)).map By.mk) ∧ Below w.heap.size w wr) (fun _ i _ => n - (intOf i).toNat)
  case atStart => exact ⟨0, 0, none, 0, rfl, rfl, rfl, Nat.zero_le _, Nat.zero_le _, GOwn.nil _ _ _, Below.refl _ _⟩
  case round =>
    obtain ⟨k, v, A1, c1, rfl, rfl, hv, hk, hvk, hown, hbr⟩ := hrel
    by_cases hlt : k < n
    · obtain ⟨b, off, e, rfl, hSb, hbl, he, hcell⟩ := (Hr.out.step hbr).at_ hlt
      obtain ⟨ch, hch, rfl⟩ : ∃ ch, s[k]? = some ch ∧ Rn.mk ch = e := by simpa using he
      have c0 : wr.cell? ⟨b, off + k * 1, none⟩ = some (.int .i32 ch) := hcell 0 _ rfl
      rw [Nat.mul_one] at c0
      have hki : (k : Int) < n := by omega
      have hrc := HR.out ch (List.mem_of_getElem? hch)
      unfold rightC at hrc
      have hrr := of_decide_eq_true hrc
      have hc0 : 0 ≤ ch := hrr.1
      have hc1 : ch ≤ 1114111 := hrr.2.1
      have hz := hbr.size
      have Hv := hid hv
      have Hch := hid hch
      have Hrr := hid hrr.2.2
      clear hcell he hrc hSb hv hch hrr
      by_cases h1 : ch < 128
      · repeat' (first | ((with_reducible refine app_bytes_here ?_); go_must (have eL := balloc (o := .cells #[.int .u8 ch] 5) (Below.refl _ wr); have hz2 := eL.size; refine wp_append_bytes w.heap.size A1 _ v c1 _ _ ((bytesZ (s.take k)).map By.mk) (([ch] : List Int).map By.mk) (fun _ => True) (by rfl) (by rfl) (hown.step eL) (grow_bytes wr [ch] #[.int .u8 ch] rfl (by simp)) (by omega) (by show v + _ ≤ _; simp only [List.length_cons, List.length_nil]; omega) ?_; intro A3 c3 w3 hown3 hb3 hsm3 hat3 hz3; have hB3 := (bvia hbr eL).trans hb3)) | go_values | go_skip | go_guarded | go_step | go_upon | go_back)
        go_roundw
        case rel =>
          have hnew : bytesZ (s.take (k + 1)) = bytesZ (s.take k) ++ [ch] := by rw [List.take_add_one, Hch.out, show (some ch).toList = [ch] from rfl, bytesZ_snoc, Lib.encodeRuneZ_one (by omega) (by omega)]
          exact ⟨k + 1, v + 1, A3, c3, by go_num, rfl, by rw [hnew, List.length_append, ← Hv.out]; rfl, by omega, by omega, by rw [hnew, List.map_append]; exact hown3, hB3⟩
        case measure => simp [intOf]; omega
      · by_cases h2 : ch < 2048
        · repeat' (first | ((with_reducible refine app_bytes_here ?_); go_must (have eL := balloc (o := .cells #[.int .u8 (192 + ch / 64), .int .u8 (128 + ch % 64)] 5) (Below.refl _ wr); have hz2 := eL.size; refine wp_append_bytes w.heap.size A1 _ v c1 _ _ ((bytesZ (s.take k)).map By.mk) (([192 + ch / 64, 128 + ch % 64] : List Int).map By.mk) (fun _ => True) (by rfl) (by rfl) (hown.step eL) (grow_bytes wr [192 + ch / 64, 128 + ch % 64] #[.int .u8 (192 + ch / 64), .int .u8 (128 + ch % 64)] rfl (by simp)) (by omega) (by show v + _ ≤ _; simp only [List.length_cons, List.length_nil]; omega) ?_; intro A3 c3 w3 hown3 hb3 hsm3 hat3 hz3; have hB3 := (bvia hbr eL).trans hb3)) | go_values | go_skip | go_guarded | go_step | go_upon | go_back)
          go_roundw
          case rel =>
            have hnew : bytesZ (s.take (k + 1)) = bytesZ (s.take k) ++ [192 + ch / 64, 128 + ch % 64] := by rw [List.take_add_one, Hch.out, show (some ch).toList = [ch] from rfl, bytesZ_snoc, Lib.encodeRuneZ_two (by omega) (by omega)]
            exact ⟨k + 1, v + 2, A3, c3, by go_num, rfl, by rw [hnew, List.length_append, ← Hv.out]; rfl, by omega, by omega, by rw [hnew, List.map_append]; exact hown3, hB3⟩
          case measure => simp [intOf]; omega
        · by_cases h3 : ch < 65536
          · repeat' (first | ((with_reducible refine app_bytes_here ?_); go_must (have eL := balloc (o := .cells #[.int .u8 (224 + ch / 4096), .int .u8 (128 + ch / 64 % 64), .int .u8 (128 + ch % 64)] 5) (Below.refl _ wr); have hz2 := eL.size; refine wp_append_bytes w.heap.size A1 _ v c1 _ _ ((bytesZ (s.take k)).map By.mk) (([224 + ch / 4096, 128 + ch / 64 % 64, 128 + ch % 64] : List Int).map By.mk) (fun _ => True) (by rfl) (by rfl) (hown.step eL) (grow_bytes wr [224 + ch / 4096, 128 + ch / 64 % 64, 128 + ch % 64] #[.int .u8 (224 + ch / 4096), .int .u8 (128 + ch / 64 % 64), .int .u8 (128 + ch % 64)] rfl (by simp)) (by omega) (by show v + _ ≤ _; simp only [List.length_cons, List.length_nil]; omega) ?_; intro A3 c3 w3 hown3 hb3 hsm3 hat3 hz3; have hB3 := (bvia hbr eL).trans hb3)) | go_values | go_skip | go_guarded | go_step | go_upon | go_back)
            go_roundw
            case rel =>
              have hnew : bytesZ (s.take (k + 1)) = bytesZ (s.take k) ++ [224 + ch / 4096, 128 + ch / 64 % 64, 128 + ch % 64] := by rw [List.take_add_one, Hch.out, show (some ch).toList = [ch] from rfl, bytesZ_snoc, Lib.encodeRuneZ_three (by have := Hrr.out; omega)]
              exact ⟨k + 1, v + 3, A3, c3, by go_num, rfl, by rw [hnew, List.length_append, ← Hv.out]; rfl, by omega, by omega, by rw [hnew, List.map_append]; exact hown3, hB3⟩
            case measure => simp [intOf]; omega
          · repeat' (first | ((with_reducible refine app_bytes_here ?_); go_must (have eL := balloc (o := .cells #[.int .u8 (240 + ch / 262144), .int .u8 (128 + ch / 4096 % 64), .int .u8 (128 + ch / 64 % 64), .int .u8 (128 + ch % 64)] 5) (Below.refl _ wr); have hz2 := eL.size; refine wp_append_bytes w.heap.size A1 _ v c1 _ _ ((bytesZ (s.take k)).map By.mk) (([240 + ch / 262144, 128 + ch / 4096 % 64, 128 + ch / 64 % 64, 128 + ch % 64] : List Int).map By.mk) (fun _ => True) (by rfl) (by rfl) (hown.step eL) (grow_bytes wr [240 + ch / 262144, 128 + ch / 4096 % 64, 128 + ch / 64 % 64, 128 + ch % 64] #[.int .u8 (240 + ch / 262144), .int .u8 (128 + ch / 4096 % 64), .int .u8 (128 + ch / 64 % 64), .int .u8 (128 + ch % 64)] rfl (by simp)) (by omega) (by show v + _ ≤ _; simp only [List.length_cons, List.length_nil]; omega) ?_; intro A3 c3 w3 hown3 hb3 hsm3 hat3 hz3; have hB3 := (bvia hbr eL).trans hb3)) | go_values | go_skip | go_guarded | go_step | go_upon | go_back)
            go_roundw
            case rel =>
              have hnew : bytesZ (s.take (k + 1)) = bytesZ (s.take k) ++ [240 + ch / 262144, 128 + ch / 4096 % 64, 128 + ch / 64 % 64, 128 + ch % 64] := by rw [List.take_add_one, Hch.out, show (some ch).toList = [ch] from rfl, bytesZ_snoc, Lib.encodeRuneZ_four (by omega) (by omega)]
              exact ⟨k + 1, v + 4, A3, c3, by go_num, rfl, by rw [hnew, List.length_append, ← Hv.out]; rfl, by omega, by omega, by rw [hnew, List.map_append]; exact hown3, hB3⟩
            case measure => simp [intOf]; omega
    · obtain rfl : k = n := by omega
      have hs : s.take k = s := List.take_of_length_le (by omega)
      rw [hs] at hv hown
      have hcv : (convert 100 9 (.slice A1 v c1)).run Tryz.prog wr = .ok (.string ⟨((bytesZ s).map fun x => x.toNat.toUInt8).toArray⟩) wr := by
        cases A1 with
        | none =>
          have hv0 : v = 0 := by
            rcases hown.2.2 with ⟨e, h0⟩ | ⟨g, cap, cur, e, _⟩
            · omega
            · injection e with e; cases e
          subst hv0
          rw [List.eq_nil_of_length_eq_zero hv.symm]
          exact Lib.run_convert_nil_bytes wr _ _ 5 c1 Tryz.underlying100 Tryz.underlying5 Tryz.underlying9
        | some a0 =>
          obtain ⟨g, rfl⟩ := hown.head
          have hrow := hown.row (S := fun _ => True) fun _ _ _ => trivial
          have hbb : ∀ x ∈ bytesZ s, 0 ≤ x ∧ x < 256 := fun x hx => by
            obtain ⟨y, _, hy⟩ := List.mem_flatMap.1 hx
            exact Lib.encodeRuneZ_byte y x hy
          have hl2 : ((bytesZ s).map fun x => x.toNat.toUInt8).length = v := by rw [List.length_map, hv]
          rw [← hl2]
          refine run_convert_bytes_back wr _ _ 5 _ c1 _ Tryz.underlying100 Tryz.underlying5 Tryz.underlying9 fun j hj => ?_
          rw [hl2] at hj
          obtain ⟨b, off, e, hA, _, _, he, hcell⟩ := hrow.at_ hj
          injection hA with hA
          injection hA with hA1 hA2
          subst hA1 hA2
          obtain ⟨y, hy, rfl⟩ : ∃ y, (bytesZ s)[j]? = some y ∧ By.mk y = e := by simpa using he
          have c0 : wr.cell? ⟨g, 0 + j * 1, none⟩ = some (.int .u8 y) := hcell 0 _ rfl
          have hyb := hbb y (List.mem_of_getElem? hy)
          obtain ⟨hjl, hje⟩ := List.getElem?_eq_some_iff.1 hy
          rw [show ((⟨g, 0, none⟩ : Addr).add j) = ⟨g, 0 + j * 1, none⟩ from by unfold Addr.add; split <;> simp_all, c0]
          congr 2
          rw [List.getElem_map, hje, UInt8.toNat_ofNat']
          omega
      have Hcv := hid hcv
      clear hv
      repeat' (first | go_values | go_skip | go_guarded | go_step | go_upon | go_back)
      skip
      go_ret
      exact ⟨rfl, hbr⟩
end Go.Proofs.YtfihjajllfihjaaGreatDoor
namespace Go.Proofs.YtfihjajllfihjaaGreatDoor
set_option linter.unusedSimpArgs false
set_option linter.unusedVariables false
open Go Go.RowKit
theorem Mdl.allGood {w : World} {S : Nat → Prop} {mb : Nat} {l : List El} {K : Nat} (h : Mdl w S mb l K) : ∀ e ∈ l, e.Good := by
  obtain ⟨gt, gm, p, T, h1, h2, h3, h4, h5, h6, h7, h8, h9⟩ := h
  exact h9
theorem utf8S_bytesZ (s : List Int) : ((bytesZ s).map fun x => x.toNat.toUInt8) = utf8S s := by
  unfold bytesZ utf8S Lib.encodeRune
  rw [List.map_flatMap]
theorem seen_right {l : List El} (h : ∀ e ∈ l, e.Good) : ∀ x ∈ seenOf l, rightC x = true := by
  intro x hx
  unfold seenOf purgeOf at hx
  obtain ⟨e, he, rfl⟩ := List.mem_map.1 hx
  exact (h e (List.mem_filter.1 he).1).char
end Go.Proofs.YtfihjajllfihjaaGreatDoor
namespace Go.Proofs.YtfihjajllfihjaaGreatDoor
set_option linter.unusedSimpArgs false
set_option linter.unusedVariables false
open Go Go.RowKit Go.ChangeShapes Go.WideShapes Go.ChangeAt Go.Deep
end Go.Proofs.YtfihjajllfihjaaGreatDoor
namespace Go.Proofs.YtfihjajllfihjaaGreatDoor
set_option linter.unusedSimpArgs false
set_option linter.unusedVariables false
open Go Go.RowKit
set_option maxRecDepth 50000 in
set_option maxHeartbeats 4000000 in
theorem refChars_any (A : Option Addr) (n c : Nat) (ls : List El) (S : Nat → Prop) (w : World) (h : Row w S A n c ls) (hn : n ≤ 536870912) :
    Calls Tryz.prog 88 #[.slice A n c] w fun r w' => (∃ A' c', r = .returned (.slice A' (liveOf ls) c') ∧ GOwn 21 w' w.heap.size A' (liveOf ls) c' ((seenOf ls).map Rn.mk)) ∧ Below w.heap.size w w' := by
  have Hr := hid h
  have hnl := h.1
  have hnm := h.len_le
  unfold maxLen at hnm
  clear h
  go_enter Tryz.func88, Tryz.ntmps88
  repeat' (first | go_values | go_skip | go_guarded | go_step | go_upon | go_back)
  go_loopw [3, 4] (fun o i wr => ∃ (k m : Nat) (A' : Option Addr) (c' : Nat), i = .int .i64 k ∧ o = .slice A' m c' ∧ k ≤ n ∧ m ≤ k ∧ Hid (m = liveOf (ls.take k)) ∧ GOwn 21 wr w.heap.size A' m c' ((seenOf (ls.take k)).map Rn.mk) ∧ Below w.heap.size w wr) (fun _ i _ => n - (intOf i).toNat)
  case atStart => exact ⟨0, 0, none, 0, rfl, rfl, Nat.zero_le _, Nat.zero_le _, hid rfl, GOwn.nil _ _ _, Below.refl _ _⟩
  case round =>
    obtain ⟨k, m, A', c', rfl, rfl, hk, hmk, hml, hown, hbr⟩ := hrel
    by_cases hlt : k < n
    · obtain ⟨b, off, e, rfl, hS, he, c0, c1, c2, c3, c4⟩ := (Hr.out.step hbr).at_ hlt
      have hbl := lt_of_cell' c0
      dsimp only at hbl
      have hsn := take_snoc_el he
      have HL := hid (fun W => refLive_any e W)
      have Hs := hid (And.intro hsn hown)
      clear hsn he hown
      by_cases hh : e.hides ≤ 0
      · have dh : decide (e.hides ≤ 0) = true := decide_eq_true hh
        rw [dh] at HL
        have Hh := hid hh
        clear hh dh
        repeat' (first | (go_at_call 89; go_must ((with_reducible refine Calls.mono (HL.out _) ?_); rintro _ w2 ⟨rfl, hb2⟩; have c0 := kc hb2 c0; have c1 := kc hb2 c1; have c2 := kc hb2 c2; have c3 := kc hb2 c3; have c4 := kc hb2 c4; have hbl := Nat.lt_of_lt_of_le hbl hb2.size; have eX := balloc (o := .cells #[.int .i32 e.char] 21) (Below.refl _ w2); have hownX := (Hs.out.2.step hb2).step eX; have hbX := bvia (bvia hbr hb2) eX; dsimp only)) | ((with_reducible refine app_runes_here ?_); go_must (refine wp_append_runes w.heap.size A' _ m c' 1 1 ((seenOf (ls.take k)).map Rn.mk) [⟨e.char⟩] (fun _ => True) (by rfl) (by rfl) hownX (grow_rune w2 e.char) (by have := hbX.size; omega) (by omega) ?_; intro A2 c2' w4 hown4 hb4 hsm4 hat4 hz4)) | go_values | go_skip | go_guarded | go_step | go_upon | go_back)
        skip
        go_roundw
        case rel =>
          refine ⟨k + 1, m + 1, A2, c2', by go_num, rfl, by omega, by omega, hid ?_, ?_, hbX.trans hb4⟩
          · rw [Hs.out.1, liveOf_append, hml.out, show liveOf [e] = e.live by simp [liveOf], El.live, if_neg (by have := Hh.out; omega)]
          · rw [Hs.out.1, seenOf_append, seenOf_one_live Hh.out, List.map_append]
            exact hown4
        case measure => simp [intOf]; omega
      · have dh : decide (e.hides ≤ 0) = false := decide_eq_false hh
        rw [dh] at HL
        have Hh := hid hh
        clear hh dh
        repeat' (first | (go_at_call 89; go_must ((with_reducible refine Calls.mono (HL.out _) ?_); rintro _ w2 ⟨rfl, hb2⟩; dsimp only)) | go_values | go_skip | go_guarded | go_step | go_upon | go_back)
        go_roundw
        case rel =>
          refine ⟨k + 1, m, A', c', by go_num, rfl, by omega, by omega, hid ?_, ?_, bvia hbr hb2⟩
          · rw [Hs.out.1, liveOf_append, hml.out, show liveOf [e] = e.live by simp [liveOf], El.live, if_pos (by have := Hh.out; omega)]
            rfl
          · rw [Hs.out.1, seenOf_append, seenOf_one_not Hh.out, List.append_nil]
            exact Hs.out.2.step hb2
        case measure => simp [intOf]; omega
    · obtain rfl : k = n := by omega
      have hl : ls.take k = ls := List.take_of_length_le (by omega)
      rw [hl] at hown hml
      have Hm := hml
      clear hl hml
      repeat' (first | go_values | go_skip | go_guarded | go_step | go_upon | go_back)
      skip
      go_ret
      rw [← Hm.out]
      exact ⟨⟨A', c', rfl, hown⟩, hbr⟩
theorem refView_any (A : Option Addr) (n c : Nat) (ls : List El) (S : Nat → Prop) (w : World) (h : Row w S A n c ls) (hn : n ≤ 536870912) (hg : ∀ e ∈ ls, e.Good) :
    Calls Tryz.prog 49 #[.slice A n c] w fun r w' => r = .returned (.string ⟨(viewOf ls).toArray⟩) ∧ Below w.heap.size w w' := by
  have HC := hid (refChars_any A n c ls S w h hn)
  have hle := liveOf_le ls
  have hln := h.1
  have HU := hid (fun W B d (hr : GRow W (fun _ => True) B (liveOf ls) d ((seenOf ls).map Rn.mk)) => refUtf8_any W B (liveOf ls) d (seenOf ls) _ hr (by omega) (seen_right hg))
  rw [utf8S_bytesZ, ← viewOf_seen] at HU
  clear h hg
  go_enter Tryz.func49, Tryz.ntmps49
  repeat' (first | (go_at_call 88; go_must ((with_reducible refine Calls.mono HC.out ?_); rintro _ w1 ⟨⟨A', c', rfl, hown⟩, hb1⟩; have HU2 := hid (HU.out w1 A' c' (hown.row fun _ _ _ => trivial)); dsimp only)) | (go_at_call 87; go_must ((with_reducible refine Calls.mono HU2.out ?_); rintro _ w2 ⟨rfl, hb2⟩; dsimp only)) | go_values | go_skip | go_guarded | go_step | go_upon | go_back)
  skip
  go_ret
  exact ⟨rfl, bvia hb1 hb2⟩
end Go.Proofs.YtfihjajllfihjaaGreatDoor
