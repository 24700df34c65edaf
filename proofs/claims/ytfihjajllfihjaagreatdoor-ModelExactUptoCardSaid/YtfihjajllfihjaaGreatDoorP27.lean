/- What a tree's Before, Find and FindLine refuse; the document's Find: the walks. Conditions: tree, row and reasons lie in memory, fewer than 2^30 elements. What is asked of a model: Live, Lines, At, ViewOf, ModelOf, Place, LineEnd: the walks. Conditions: the model and the reasons lie in memory, fewer than 2^29 elements. -/
import Derived.Test.YtfihjajllfihjaaGreatDoorP25
import Derived.Test.YtfihjajllfihjaaGreatDoorSBefore
import Derived.Test.YtfihjajllfihjaaGreatDoorP22
namespace Go.Proofs.YtfihjajllfihjaaGreatDoor
set_option linter.unusedSimpArgs false
set_option linter.unusedVariables false
open Go Go.RowKit
variable {a : Nat → Addr}
set_option maxRecDepth 20000 in
theorem before_no (T : Tr) (p : Option Addr) (bt chunk : Nat) (i : Int) (S S' : Nat → Prop) (w : World) (hblk : Blk w bt 142 #[.int .i64 chunk, .pointer p]) (hT : IsTree w S T p) (hs : Sents w S' a) (hi : i < 0 ∨ T.all.length < i) :
    Calls Tryz.prog 104 #[.pointer (some ⟨bt, 0, none⟩), .int .i64 i] w fun r w' => ∃ v, r = .returned (.tuple #[.agg #[.int .i64 0, .int .i64 0], v]) ∧ IsErr w' (Fr w S') a [⟨({ data := #[116, 114, 101, 101] } : ByteArray), ({ data := #[66, 101, 102, 111, 114, 101] } : ByteArray), atOf i⟩] 2 v ∧ Below w.heap.size w w' := by
  have b1 : Below w.heap.size w (w.alloc (.cells #[.int .i64 0, .int .i64 0] 40)) := balloc (Below.refl _ _)
  have hB := Blk.new w 40 #[.int .i64 0, .int .i64 0]
  have c1 := (hs.step b1).cell 2 (by omega) (by omega)
  simp only [gOf, reason] at c1
  have HL := hid (fun W (hb : Below w.heap.size w W) => tlen_any T p bt chunk W (hblk.step hb) (hT.step hb))
  clear hblk hT
  by_cases h1 : i < 0
  · go_enter Tryz.func104, Tryz.ntmps104
    repeat' (first | (go_at_call 45; go_must ((with_reducible refine Calls.mono (HL.out _ (by (repeat' (first | (with_reducible exact Below.refl _ _) | (with_reducible assumption) | (with_reducible refine balloc ?_) | (with_reducible refine bdrew ?_) | (with_reducible refine bset ?_ (by (try dsimp only); omega)) | (with_reducible refine bvia ?_ (by assumption)))))) ?_); rintro _ _ ⟨rfl, rfl⟩; dsimp only)) | (go_at_call 70; go_must ((with_reducible refine (new_any _ _ i _ _ _).mono ?_); rintro _ w1 ⟨g, rfl, hg, hb, hbb⟩; rw [atOf_new] at hb; have hB1 := hB.step hbb; have g0 := hB1.cell 0; have g1 := hB1.cell 1; have f0 := hB1.frozen 0; have f1 := hB1.frozen 1; have gl := hB1.lt; simp at g0 g1; dsimp only)) | go_values | go_skip | go_guarded | go_step | go_upon | go_back)
    skip
    have hne : g ≠ w.heap.size := fun e => by have := hB.lt; (try clear hi); omega
    refine bodyPost_ret (v := .tuple #[.agg #[.int .i64 0, .int .i64 0], .iface 153 (.pointer (some ⟨g, 0, none⟩))]) (by simp [results, Tryz.results104, go_sem, g0, g1, gl, size_set]) rfl ⟨_, rfl, ?_, ?_⟩
    · have hb' := (hb.far (p := ⟨w.heap.size, 0, none⟩) hne (.int .i64 0)).far (p := ⟨w.heap.size, 1, none⟩) hne (.int .i64 0)
      exact IsErr.tree1 b1 hg hb'
    · exact bset (bset (bvia b1 hbb) (Nat.le_refl _)) (Nat.le_refl _)
  · have h2 : (T.all.length : Int) < i := by omega
    clear hi
    go_enter Tryz.func104, Tryz.ntmps104
    repeat' (first | (go_at_call 45; go_must ((with_reducible refine Calls.mono (HL.out _ (by (repeat' (first | (with_reducible exact Below.refl _ _) | (with_reducible assumption) | (with_reducible refine balloc ?_) | (with_reducible refine bdrew ?_) | (with_reducible refine bset ?_ (by (try dsimp only); omega)) | (with_reducible refine bvia ?_ (by assumption)))))) ?_); rintro _ _ ⟨rfl, rfl⟩; dsimp only)) | (go_at_call 70; go_must ((with_reducible refine (new_any _ _ i _ _ _).mono ?_); rintro _ w1 ⟨g, rfl, hg, hb, hbb⟩; rw [atOf_new] at hb; have hB1 := hB.step hbb; have g0 := hB1.cell 0; have g1 := hB1.cell 1; have f0 := hB1.frozen 0; have f1 := hB1.frozen 1; have gl := hB1.lt; simp at g0 g1; dsimp only)) | go_values | go_skip | go_guarded | go_step | go_upon | go_back)
    skip
    have hne : g ≠ w.heap.size := fun e => by have := hB.lt; (try clear hi); omega
    refine bodyPost_ret (v := .tuple #[.agg #[.int .i64 0, .int .i64 0], .iface 153 (.pointer (some ⟨g, 0, none⟩))]) (by simp [results, Tryz.results104, go_sem, g0, g1, gl, size_set]) rfl ⟨_, rfl, ?_, ?_⟩
    · have hb' := (hb.far (p := ⟨w.heap.size, 0, none⟩) hne (.int .i64 0)).far (p := ⟨w.heap.size, 1, none⟩) hne (.int .i64 0)
      exact IsErr.tree1 b1 hg hb'
    · exact bset (bset (bvia b1 hbb) (Nat.le_refl _)) (Nat.le_refl _)
set_option maxRecDepth 200000 in
set_option maxHeartbeats 2000000 in
theorem FindNM (T : Tr) (p : Option Addr) (bt chunk : Nat) (i : Int) (call : ByteArray) (S S' : Nat → Prop) (w : World) (hblk : Blk w bt 142 #[.int .i64 chunk, .pointer p]) (hT : IsTree w S T p) (hs : Sents w S' a) (hi : i < 0 ∨ liveOf T.all ≤ i) :
    Calls Tryz.prog 114 #[.pointer (some ⟨bt, 0, none⟩), .string call, .int .i64 i, .func (.func 115) #[] #[]] w fun r w' => ∃ v, r = .returned (.tuple #[.int .i64 0, v]) ∧ IsErr w' (Fr w S') a [⟨({ data := #[116, 114, 101, 101] } : ByteArray), call, atOf i⟩] 2 v ∧ Below w.heap.size w w' := by
  have c1 := hs.cell 2 (by omega) (by omega)
  simp only [gOf, reason] at c1
  by_cases h1 : i < 0
  · have h1' : ¬ (i ≥ 0) := by omega
    go_enter Tryz.func114, Tryz.ntmps114
    repeat' (first | (go_at_call 70; go_must ((with_reducible refine (new_any _ _ i _ _ w).mono ?_); rintro _ w1 ⟨g, rfl, hg, hb, hbb⟩; rw [atOf_new] at hb; dsimp only)) | go_values | go_skip | go_guarded | go_step | go_upon | go_back)
    skip
    go_ret2
    exact ⟨_, rfl, IsErr.tree1 (Below.refl _ _) hg hb, hbb⟩
  · have h1' : i ≥ 0 := by omega
    have h2 : ¬ (i < liveOf T.all) := by omega
    clear hi
    go_enter Tryz.func114, Tryz.ntmps114
    repeat' (first | (go_at_call 46; go_must ((with_reducible refine (tweight_any T p bt chunk w hblk hT).mono ?_); rintro _ w1 ⟨rfl, hb1⟩; dsimp only)) | (go_at_call 115; go_must ((with_reducible refine (find1 _ _ w1).mono ?_); rintro _ w2 ⟨rfl, hb2⟩; have hbb2 := bvia hb1 hb2; have c2 := (hs.step hbb2).cell 2 (by omega) (by omega); simp only [gOf, reason] at c2; dsimp only)) | (go_at_call 70; go_must ((with_reducible refine (new_any _ _ i _ _ _).mono ?_); rintro _ w3 ⟨g, rfl, hg, hb, hbb⟩; rw [atOf_new] at hb; dsimp only)) | go_values | go_skip | go_guarded | go_step | go_upon | go_back)
    skip
    go_ret2
    exact ⟨_, rfl, IsErr.tree1 hbb2 hg hb, bvia hbb2 hbb⟩
theorem find_no (T : Tr) (p : Option Addr) (bt chunk : Nat) (i : Int) (S S' : Nat → Prop) (w : World) (hblk : Blk w bt 142 #[.int .i64 chunk, .pointer p]) (hT : IsTree w S T p) (hs : Sents w S' a) (hi : i < 0 ∨ liveOf T.all ≤ i) :
    Calls Tryz.prog 78 #[.pointer (some ⟨bt, 0, none⟩), .int .i64 i] w fun r w' => ∃ v, r = .returned (.tuple #[.int .i64 0, v]) ∧ IsErr w' (Fr w S') a [⟨({ data := #[116, 114, 101, 101] } : ByteArray), ({ data := #[70, 105, 110, 100] } : ByteArray), atOf i⟩] 2 v ∧ Below w.heap.size w w' := by
  go_enter Tryz.func78, Tryz.ntmps78
  repeat' (first | (go_at_call 114; go_must ((with_reducible refine (FindNM T p bt chunk i _ S S' w hblk hT hs hi).mono ?_); rintro _ w1 ⟨v, rfl, hv, hb1⟩; dsimp only)) | go_values | go_skip | go_guarded | go_step | go_upon | go_back)
  go_ret2
  exact ⟨v, rfl, hv, hb1⟩
set_option maxRecDepth 200000 in
set_option maxHeartbeats 2000000 in
theorem FindLineNM (T : Tr) (p : Option Addr) (bt chunk : Nat) (i : Int) (call : ByteArray) (S S' : Nat → Prop) (w : World) (hblk : Blk w bt 142 #[.int .i64 chunk, .pointer p]) (hT : IsTree w S T p) (hs : Sents w S' a) (hi : i < 0 ∨ linesOf T.all ≤ i) :
    Calls Tryz.prog 114 #[.pointer (some ⟨bt, 0, none⟩), .string call, .int .i64 i, .func (.func 119) #[] #[]] w fun r w' => ∃ v, r = .returned (.tuple #[.int .i64 0, v]) ∧ IsErr w' (Fr w S') a [⟨({ data := #[116, 114, 101, 101] } : ByteArray), call, atOf i⟩] 2 v ∧ Below w.heap.size w w' := by
  have c1 := hs.cell 2 (by omega) (by omega)
  simp only [gOf, reason] at c1
  by_cases h1 : i < 0
  · have h1' : ¬ (i ≥ 0) := by omega
    go_enter Tryz.func114, Tryz.ntmps114
    repeat' (first | (go_at_call 70; go_must ((with_reducible refine (new_any _ _ i _ _ w).mono ?_); rintro _ w1 ⟨g, rfl, hg, hb, hbb⟩; rw [atOf_new] at hb; dsimp only)) | go_values | go_skip | go_guarded | go_step | go_upon | go_back)
    skip
    go_ret2
    exact ⟨_, rfl, IsErr.tree1 (Below.refl _ _) hg hb, hbb⟩
  · have h1' : i ≥ 0 := by omega
    have h2 : ¬ (i < linesOf T.all) := by omega
    clear hi
    go_enter Tryz.func114, Tryz.ntmps114
    repeat' (first | (go_at_call 46; go_must ((with_reducible refine (tweight_any T p bt chunk w hblk hT).mono ?_); rintro _ w1 ⟨rfl, hb1⟩; dsimp only)) | (go_at_call 119; go_must ((with_reducible refine (findLine1 _ _ w1).mono ?_); rintro _ w2 ⟨rfl, hb2⟩; have hbb2 := bvia hb1 hb2; have c2 := (hs.step hbb2).cell 2 (by omega) (by omega); simp only [gOf, reason] at c2; dsimp only)) | (go_at_call 70; go_must ((with_reducible refine (new_any _ _ i _ _ _).mono ?_); rintro _ w3 ⟨g, rfl, hg, hb, hbb⟩; rw [atOf_new] at hb; dsimp only)) | go_values | go_skip | go_guarded | go_step | go_upon | go_back)
    skip
    go_ret2
    exact ⟨_, rfl, IsErr.tree1 hbb2 hg hb, bvia hbb2 hbb⟩
theorem findLine_no (T : Tr) (p : Option Addr) (bt chunk : Nat) (i : Int) (S S' : Nat → Prop) (w : World) (hblk : Blk w bt 142 #[.int .i64 chunk, .pointer p]) (hT : IsTree w S T p) (hs : Sents w S' a) (hi : i < 0 ∨ linesOf T.all ≤ i) :
    Calls Tryz.prog 103 #[.pointer (some ⟨bt, 0, none⟩), .int .i64 i] w fun r w' => ∃ v, r = .returned (.tuple #[.int .i64 0, v]) ∧ IsErr w' (Fr w S') a [⟨({ data := #[116, 114, 101, 101] } : ByteArray), ({ data := #[70, 105, 110, 100, 76, 105, 110, 101] } : ByteArray), atOf i⟩] 2 v ∧ Below w.heap.size w w' := by
  go_enter Tryz.func103, Tryz.ntmps103
  repeat' (first | (go_at_call 114; go_must ((with_reducible refine (FindLineNM T p bt chunk i _ S S' w hblk hT hs hi).mono ?_); rintro _ w1 ⟨v, rfl, hv, hb1⟩; dsimp only)) | go_values | go_skip | go_guarded | go_step | go_upon | go_back)
  go_ret2
  exact ⟨v, rfl, hv, hb1⟩
set_option maxRecDepth 50000 in
set_option maxHeartbeats 2000000 in
theorem refFind_live (A : Option Addr) (n c k : Nat) (es : List El) (S : Nat → Prop) (w : World) (h : Row w S A n c es) (hn : n ≤ 1073741824) (hk : k < liveOf es) :
    Calls Tryz.prog 93 #[.slice A n c, .int .i64 k, .bool false] w fun r w' => (∃ m e0, r = .returned (.int .i64 (m : Nat)) ∧ es[m]? = some e0 ∧ e0.live = 1 ∧ liveOf (es.take m) = k) ∧ Below w.heap.size w w' := by
  have Hr := hid h
  have hl := h.1
  clear h
  go_enter Tryz.func93, Tryz.ntmps93
  repeat' (first | go_values | go_skip | go_guarded | go_step | go_upon | go_back)
  go_loopw [1, 7] (fun r i wr => ∃ (j q : Nat), i = .int .i64 j ∧ r = .int .i64 q ∧ j ≤ n ∧ q + liveOf (es.take j) = k ∧ Below w.heap.size w wr) (fun _ i wr => n - (intOf i).toNat)
  case atStart => exact ⟨0, k, rfl, rfl, Nat.zero_le _, by simp [liveOf], Below.refl _ _⟩
  case round =>
    obtain ⟨j, q, rfl, rfl, hj, hq, hbr⟩ := hrel
    by_cases hlt : j < n
    · obtain ⟨b, off, e, rfl, hS, he, c0, c1, c2, c3, c4⟩ := (Hr.out.step hbr).at_ hlt
      have hb := lt_of_cell' c0
      have hsn := liveOf_snoc he
      have HW := hid (fun W => refWeigh_any e W)
      have hel := e.lines_le
      have hel2 := e.live_le
      have He := hid (And.intro he hsn)
      clear he hsn
      obtain ⟨u, hu⟩ : ∃ u, u = e.live := ⟨_, rfl⟩
      obtain ⟨v, hv⟩ : ∃ v, v = e.lines := ⟨_, rfl⟩
      rw [← hu, ← hv] at HW hel
      rw [← hu] at hel2
      have Huv := hid (And.intro hu hv)
      clear hu hv
      repeat' (first | (with_reducible refine stop_region 8 ?_) | (go_at_call 47; go_must ((with_reducible refine Calls.mono (HW.out _) ?_); rintro _ w2 ⟨rfl, hb2⟩; dsimp only)) | go_values | go_skip | go_guarded | go_step | go_upon | go_back)
      refine Stop.go ?_
      have hb3 := bvia hbr hb2
      have eX : Below w2.heap.size w2 (w2.alloc (.cells #[.int .i64 u, .int .i64 v] 40)) := balloc (Below.refl _ _)
      have hb4 := bvia hb3 eX
      generalize w2.alloc (.cells #[.int .i64 u, .int .i64 v] 40) = W2 at *
      by_cases h0 : u = 0
      · have h0' : ((u : Nat) : Int) = 0 := by omega
        repeat' (first | go_values | go_skip | go_guarded | go_step | go_upon | go_back)
        skip
        go_roundw
        case rel => exact ⟨j + 1, q, by go_num, rfl, by omega, by rw [He.out.2]; have := Huv.out; omega, hb4⟩
        case measure => simp [intOf]; omega
      · have h0' : ¬ (((u : Nat) : Int) = 0) := by omega
        by_cases hq0 : q = 0
        · subst hq0
          repeat' (first | go_values | go_skip | go_guarded | go_step | go_upon | go_back)
          go_ret
          exact ⟨⟨j, e, rfl, He.out.1, by have := Huv.out; omega, by omega⟩, hb4⟩
        · have hq1 : ¬ ((q : Int) = 0) := by omega
          obtain ⟨q', rfl⟩ : ∃ q', q = q' + 1 := ⟨q - 1, by omega⟩
          have hqb : (q' : Int) ≤ 1073741824 := by have := liveOf_le es; omega
          repeat' (first | go_values | go_skip | go_guarded | go_step | go_upon | go_back)
          skip
          go_roundw
          case rel => exact ⟨j + 1, q', by go_num, congrArg _ (by omega), by omega, by rw [He.out.2]; have := Huv.out; omega, hb4⟩
          case measure => simp [intOf]; omega
    · exfalso
      obtain rfl : j = n := by omega
      rw [List.take_of_length_le (by omega)] at hq
      omega
set_option maxRecDepth 50000 in
set_option maxHeartbeats 2000000 in
theorem refFind_line (A : Option Addr) (n c k : Nat) (es : List El) (S : Nat → Prop) (w : World) (h : Row w S A n c es) (hn : n ≤ 1073741824) (hk : k < linesOf es) :
    Calls Tryz.prog 93 #[.slice A n c, .int .i64 k, .bool true] w fun r w' => (∃ m e0, r = .returned (.int .i64 (m : Nat)) ∧ es[m]? = some e0 ∧ e0.lines = 1 ∧ linesOf (es.take m) = k) ∧ Below w.heap.size w w' := by
  have Hr := hid h
  have hl := h.1
  clear h
  go_enter Tryz.func93, Tryz.ntmps93
  repeat' (first | go_values | go_skip | go_guarded | go_step | go_upon | go_back)
  go_loopw [1, 7] (fun r i wr => ∃ (j q : Nat), i = .int .i64 j ∧ r = .int .i64 q ∧ j ≤ n ∧ q + linesOf (es.take j) = k ∧ Below w.heap.size w wr) (fun _ i wr => n - (intOf i).toNat)
  case atStart => exact ⟨0, k, rfl, rfl, Nat.zero_le _, by simp [linesOf], Below.refl _ _⟩
  case round =>
    obtain ⟨j, q, rfl, rfl, hj, hq, hbr⟩ := hrel
    by_cases hlt : j < n
    · obtain ⟨b, off, e, rfl, hS, he, c0, c1, c2, c3, c4⟩ := (Hr.out.step hbr).at_ hlt
      have hb := lt_of_cell' c0
      have hsn := linesOf_snoc he
      have HW := hid (fun W => refWeigh_any e W)
      have hel := e.lines_le
      have hel2 := e.live_le
      have He := hid (And.intro he hsn)
      clear he hsn
      obtain ⟨u, hu⟩ : ∃ u, u = e.live := ⟨_, rfl⟩
      obtain ⟨v, hv⟩ : ∃ v, v = e.lines := ⟨_, rfl⟩
      rw [← hu, ← hv] at HW hel
      rw [← hu] at hel2
      have Huv := hid (And.intro hu hv)
      clear hu hv
      repeat' (first | (with_reducible refine stop_region 8 ?_) | (go_at_call 47; go_must ((with_reducible refine Calls.mono (HW.out _) ?_); rintro _ w2 ⟨rfl, hb2⟩; dsimp only)) | go_values | go_skip | go_guarded | go_step | go_upon | go_back)
      refine Stop.go ?_
      have hb3 := bvia hbr hb2
      have eX : Below w2.heap.size w2 (w2.alloc (.cells #[.int .i64 u, .int .i64 v] 40)) := balloc (Below.refl _ _)
      have hb4 := bvia hb3 eX
      generalize w2.alloc (.cells #[.int .i64 u, .int .i64 v] 40) = W2 at *
      by_cases h0 : v = 0
      · have h0' : ((v : Nat) : Int) = 0 := by omega
        repeat' (first | go_values | go_skip | go_guarded | go_step | go_upon | go_back)
        skip
        go_roundw
        case rel => exact ⟨j + 1, q, by go_num, rfl, by omega, by rw [He.out.2]; have := Huv.out; omega, hb4⟩
        case measure => simp [intOf]; omega
      · have h0' : ¬ (((v : Nat) : Int) = 0) := by omega
        by_cases hq0 : q = 0
        · subst hq0
          repeat' (first | go_values | go_skip | go_guarded | go_step | go_upon | go_back)
          go_ret
          exact ⟨⟨j, e, rfl, He.out.1, by have := Huv.out; omega, by omega⟩, hb4⟩
        · have hq1 : ¬ ((q : Int) = 0) := by omega
          obtain ⟨q', rfl⟩ : ∃ q', q = q' + 1 := ⟨q - 1, by omega⟩
          have hqb : (q' : Int) ≤ 1073741824 := by have := linesOf_le es; omega
          repeat' (first | go_values | go_skip | go_guarded | go_step | go_upon | go_back)
          skip
          go_roundw
          case rel => exact ⟨j + 1, q', by go_num, congrArg _ (by omega), by omega, by rw [He.out.2]; have := Huv.out; omega, hb4⟩
          case measure => simp [intOf]; omega
    · exfalso
      obtain rfl : j = n := by omega
      rw [List.take_of_length_le (by omega)] at hq
      omega
end Go.Proofs.YtfihjajllfihjaaGreatDoor
namespace Go.Proofs.YtfihjajllfihjaaGreatDoor
set_option linter.unusedSimpArgs false
set_option linter.unusedVariables false
open Go Go.RowKit
variable {a : Nat → Addr}
theorem mlive_any (w : World) (S : Nat → Prop) (mb : Nat) (l : List El) (K : Nat) (h : Mdl w S mb l K) : Calls Tryz.prog 11 #[.pointer (some ⟨mb, 0, none⟩)] w fun e w' => e = .returned (.int .i64 (liveOf l)) ∧ Below w.heap.size w w' := by
  obtain ⟨gt, gm, p, T, h1, h2, h3, rfl, h5, h6, h7, h8, h9⟩ := h
  have m0 := h1.cell 0
  simp at m0
  have ml := h1.lt
  have HL := hid (tweight_any T p gt 64 w h2 h3)
  clear h9 h5
  go_enter Tryz.func11, Tryz.ntmps11
  repeat' (first | (go_at_call 46; go_must ((with_reducible refine Calls.mono HL.out ?_); rintro _ w1 ⟨rfl, hb1⟩; dsimp only)) | go_values | go_skip | go_guarded | go_step | go_upon | go_back)
  skip
  go_ret
  exact ⟨rfl, by (repeat' (first | (with_reducible exact Below.refl _ _) | (with_reducible assumption) | (with_reducible refine balloc ?_) | (with_reducible refine bdrew ?_) | (with_reducible refine bset ?_ (by (try dsimp only); omega)) | (with_reducible refine bvia ?_ (by assumption))))⟩
theorem mlines_any (w : World) (S : Nat → Prop) (mb : Nat) (l : List El) (K : Nat) (h : Mdl w S mb l K) : Calls Tryz.prog 48 #[.pointer (some ⟨mb, 0, none⟩)] w fun e w' => e = .returned (.int .i64 (linesOf l)) ∧ Below w.heap.size w w' := by
  obtain ⟨gt, gm, p, T, h1, h2, h3, rfl, h5, h6, h7, h8, h9⟩ := h
  have m0 := h1.cell 0
  simp at m0
  have ml := h1.lt
  have HL := hid (tweight_any T p gt 64 w h2 h3)
  clear h9 h5
  go_enter Tryz.func48, Tryz.ntmps48
  repeat' (first | (go_at_call 46; go_must ((with_reducible refine Calls.mono HL.out ?_); rintro _ w1 ⟨rfl, hb1⟩; dsimp only)) | go_values | go_skip | go_guarded | go_step | go_upon | go_back)
  skip
  go_ret
  exact ⟨rfl, by (repeat' (first | (with_reducible exact Below.refl _ _) | (with_reducible assumption) | (with_reducible refine balloc ?_) | (with_reducible refine bdrew ?_) | (with_reducible refine bset ?_ (by (try dsimp only); omega)) | (with_reducible refine bvia ?_ (by assumption))))⟩
theorem within_no (n m : Int) (w : World) (S' : Nat → Prop) (hs : Sents w S' a) (h : n < 0 ∨ m < n) : Calls Tryz.prog 81 #[.int .i64 n, .int .i64 m] w fun e w' => e = .returned (reason (a 2)) ∧ w = w' := by
  have c2 := hs.cell 2 (by omega) (by omega)
  simp only [gOf, reason] at c2
  by_cases h0 : n < 0
  · go_enter Tryz.func81, Tryz.ntmps81
    repeat' (first | go_values | go_skip | go_guarded | go_step | go_upon | go_back)
    go_ret
    exact ⟨rfl, rfl⟩
  · have h1 : m < n := by omega
    clear h
    go_enter Tryz.func81, Tryz.ntmps81
    repeat' (first | go_values | go_skip | go_guarded | go_step | go_upon | go_back)
    go_ret
    exact ⟨rfl, rfl⟩
set_option maxRecDepth 50000 in
set_option maxHeartbeats 2000000 in
theorem mmodelof_ok (w : World) (S : Nat → Prop) (mb : Nat) (l : List El) (K k : Nat) (h : Mdl w S mb l K) (hl : l.length ≤ 536870912) (hk : k < liveOf l) :
    Calls Tryz.prog 31 #[.pointer (some ⟨mb, 0, none⟩), .int .i64 k] w fun e w' => (∃ m e0, e = .returned (.tuple #[.int .i64 (m : Nat), .nilIface]) ∧ l[m]? = some e0 ∧ e0.live = 1 ∧ liveOf (l.take m) = k) ∧ Below w.heap.size w w' := by
  obtain ⟨gt, gm, p, T, h1, h2, h3, rfl, h5, h6, h7, h8, h9⟩ := h
  have m0 := h1.cell 0
  simp at m0
  have ml := h1.lt
  have HF := hid (find_ok T p gt 64 k _ w h2 h3 (by omega) hk)
  clear h9 h5
  go_enter Tryz.func31, Tryz.ntmps31
  repeat' (first | (go_at_call 78; go_must ((with_reducible refine Calls.mono HF.out ?_); rintro _ w1 ⟨⟨m1, e1, rfl, he1, hv1, hs1⟩, hb1⟩; have H1 := hid (And.intro he1 (And.intro hv1 hs1)); clear he1 hv1 hs1; dsimp only)) | go_values | go_skip | go_guarded | go_step | go_upon | go_back)
  skip
  go_ret2
  exact ⟨⟨m1, e1, rfl, H1.out⟩, hb1⟩
set_option maxRecDepth 50000 in
set_option maxHeartbeats 2000000 in
theorem mmodelof_no (w : World) (S S' : Nat → Prop) (mb : Nat) (l : List El) (K : Nat) (i : Int) (h : Mdl w S mb l K) (hi : i < 0 ∨ (liveOf l : Int) ≤ i) (hs : Sents w S' a) :
    Calls Tryz.prog 31 #[.pointer (some ⟨mb, 0, none⟩), .int .i64 i] w fun e w' => ∃ v, e = .returned (.tuple #[.int .i64 0, v]) ∧ IsErr w' (Fr w S') a [⟨({ data := #[109, 111, 100, 101, 108] } : ByteArray), ({ data := #[77, 111, 100, 101, 108, 79, 102] } : ByteArray), atOf i⟩] 2 v ∧ Below w.heap.size w w' := by
  obtain ⟨gt, gm, p, T, h1, h2, h3, rfl, h5, h6, h7, h8, h9⟩ := h
  have m0 := h1.cell 0
  simp at m0
  have ml := h1.lt
  have HF := hid (find_no T p gt 64 i _ S' w h2 h3 hs hi)
  have HE := hid (fun W => refused_err (S := S') (a := a) ({ data := #[77, 111, 100, 101, 108, 79, 102] } : ByteArray) i [] 2 (reason (a 2)) W ⟨by omega, by omega, rfl⟩)
  clear h9 h5
  go_enter Tryz.func31, Tryz.ntmps31
  repeat' (first | (go_at_call 78; go_must ((with_reducible refine Calls.mono HF.out ?_); rintro _ w1 ⟨v1, rfl, he1, hb1⟩; obtain ⟨tv, xv, rfl⟩ := he1.notNil; have c2 := (hs.step hb1).cell 2 (by omega) (by omega); simp only [gOf, reason] at c2; dsimp only)) | (go_at_call 79; go_must ((with_reducible refine Calls.mono (HE.out _) ?_); rintro _ w4 ⟨v, rfl, hv, hb4⟩; dsimp only)) | go_values | go_skip | go_guarded | go_step | go_upon | go_back)
  skip
  go_ret2
  exact ⟨v, rfl, hv.cut hb1.size, bvia hb1 hb4⟩
set_option maxRecDepth 50000 in
set_option maxHeartbeats 2000000 in
theorem mplace_ok (w : World) (S : Nat → Prop) (mb : Nat) (l : List El) (K k : Nat) (h : Mdl w S mb l K) (hl : l.length ≤ 536870912) (hk : k ≤ liveOf l) :
    Calls Tryz.prog 94 #[.pointer (some ⟨mb, 0, none⟩), .int .i64 k] w fun e w' => (∃ m : Nat, e = .returned (.tuple #[.int .i64 m, .nilIface]) ∧ (k = 0 ∧ m = 0 ∨ ∃ q j e0, k = q + 1 ∧ m = j + 1 ∧ l[j]? = some e0 ∧ e0.live = 1 ∧ liveOf (l.take j) = q)) ∧ Below w.heap.size w w' := by
  have HL := hid (mlive_any w S mb l K h)
  have HW := hid (fun W => within_ok k (liveOf l) W (by omega) (by omega))
  have hle := liveOf_le l
  by_cases h0 : k = 0
  · subst h0
    go_enter Tryz.func94, Tryz.ntmps94
    repeat' (first | (go_at_call 11; go_must ((with_reducible refine Calls.mono HL.out ?_); rintro _ w1 ⟨rfl, hb1⟩; dsimp only)) | (go_at_call 81; go_must ((with_reducible refine Calls.mono (HW.out _) ?_); rintro _ _ ⟨rfl, rfl⟩; dsimp only)) | go_values | go_skip | go_guarded | go_step | go_upon | go_back)
    skip
    go_ret2
    exact ⟨⟨0, rfl, by simp⟩, hb1⟩
  · obtain ⟨q, rfl⟩ : ∃ q, k = q + 1 := ⟨k - 1, by omega⟩
    obtain ⟨gt, gm, p, T, h1, h2, h3, rfl, h5, h6, h7, h8, h9⟩ := h
    clear h9 h5
    have HF := hid (fun W (hb : Below w.heap.size w W) => find_ok T p gt 64 q _ W (h2.step hb) (h3.step hb) (by omega) (by omega))
    have h0' : ¬ ((q : Int) + 1 = 0) := by omega
    have HW2 := hid (fun W => within_ok ((q : Int) + 1) (liveOf T.all) W (by omega) (by omega))
    go_enter Tryz.func94, Tryz.ntmps94
    repeat' (first | (go_at_call 11; go_must ((with_reducible refine Calls.mono HL.out ?_); rintro _ w1 ⟨rfl, hb1⟩; have m0 := (h1.step hb1).cell 0; have ml := (h1.step hb1).lt; simp at m0; dsimp only)) | (go_at_call 81; go_must ((with_reducible refine Calls.mono (HW2.out _) ?_); rintro _ _ ⟨rfl, rfl⟩; dsimp only)) | (go_at_call 78; go_must ((with_reducible refine Calls.mono (HF.out _ hb1) ?_); rintro _ w2 ⟨⟨m1, e1, rfl, he1, hv1, hs1⟩, hb2⟩; have H1 := hid (And.intro he1 (And.intro hv1 hs1)); have hm1 : m1 < T.all.length := (List.getElem?_eq_some_iff.1 he1).1; clear he1 hv1 hs1; dsimp only)) | go_values | go_skip | go_guarded | go_step | go_upon | go_back)
    skip
    go_ret2
    exact ⟨⟨m1 + 1, rfl, .inr ⟨q, m1, e1, rfl, rfl, H1.out⟩⟩, bvia hb1 hb2⟩
set_option maxRecDepth 50000 in
set_option maxHeartbeats 2000000 in
theorem mplace_no (w : World) (S S' : Nat → Prop) (mb : Nat) (l : List El) (K : Nat) (i : Int) (h : Mdl w S mb l K) (hi : i < 0 ∨ (liveOf l : Int) < i) (hs : Sents w S' a) :
    Calls Tryz.prog 94 #[.pointer (some ⟨mb, 0, none⟩), .int .i64 i] w fun e w' => ∃ v, e = .returned (.tuple #[.int .i64 0, v]) ∧ IsErr w' (Fr w S') a [⟨({ data := #[109, 111, 100, 101, 108] } : ByteArray), ({ data := #[80, 108, 97, 99, 101] } : ByteArray), atOf i⟩] 2 v ∧ Below w.heap.size w w' := by
  have HL := hid (mlive_any w S mb l K h)
  have HW := hid (fun W (hb : Below w.heap.size w W) => within_no i (liveOf l) W S' (hs.step hb) hi)
  have HE := hid (fun W => refused_err (S := S') (a := a) ({ data := #[80, 108, 97, 99, 101] } : ByteArray) i [] 2 (reason (a 2)) W ⟨by omega, by omega, rfl⟩)
  unfold reason at HW
  go_enter Tryz.func94, Tryz.ntmps94
  repeat' (first | (go_at_call 11; go_must ((with_reducible refine Calls.mono HL.out ?_); rintro _ w1 ⟨rfl, hb1⟩; dsimp only)) | (go_at_call 81; go_must ((with_reducible refine Calls.mono (HW.out _ hb1) ?_); rintro _ _ ⟨rfl, rfl⟩; dsimp only)) | (go_at_call 79; go_must ((with_reducible refine Calls.mono (HE.out _) ?_); rintro _ w4 ⟨v, rfl, hv, hb4⟩; dsimp only)) | go_values | go_skip | go_guarded | go_step | go_upon | go_back)
  skip
  go_ret2
  exact ⟨v, rfl, hv.cut hb1.size, bvia hb1 hb4⟩
end Go.Proofs.YtfihjajllfihjaaGreatDoor
