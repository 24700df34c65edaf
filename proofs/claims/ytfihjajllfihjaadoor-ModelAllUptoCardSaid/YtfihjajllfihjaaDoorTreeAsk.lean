/- What a tree's Before, Find and FindLine refuse; the document's Find: the walks. Conditions: tree, row and reasons lie in memory, fewer than 2^30 elements. -/
import Derived.Test.YtfihjajllfihjaaDoorTreeNo
import Derived.Test.YtfihjajllfihjaaDoorBefore
namespace Go.Proofs.YtfihjajllfihjaaDoor
set_option linter.unusedSimpArgs false
set_option linter.unusedVariables false
open Go Go.RowKit
variable {a : Nat → Addr}
set_option maxRecDepth 20000 in
theorem before_no (T : Tr) (p : Option Addr) (bt chunk : Nat) (i : Int) (S S' : Nat → Prop) (w : World) (hblk : Blk w bt 181 #[.int .i64 chunk, .pointer p]) (hT : IsTree w S T p) (hs : Sents w S' a) (hi : i < 0 ∨ T.all.length < i) :
    Calls Tryd.prog 84 #[.pointer (some ⟨bt, 0, none⟩), .int .i64 i] w fun r w' => ∃ v, r = .returned (.tuple #[.agg #[.int .i64 0, .int .i64 0], v]) ∧ IsErr w' (Fr w S') a [⟨({ data := #[116, 114, 101, 101] } : ByteArray), ({ data := #[66, 101, 102, 111, 114, 101] } : ByteArray), atOf i⟩] 2 v ∧ Below w.heap.size w w' := by
  have b1 : Below w.heap.size w (w.alloc (.cells #[.int .i64 0, .int .i64 0] 54)) := balloc (Below.refl _ _)
  have hB := Blk.new w 54 #[.int .i64 0, .int .i64 0]
  have c1 := (hs.step b1).cell 2 (by omega) (by omega)
  simp only [gOf, reason] at c1
  have HL := hid (fun W (hb : Below w.heap.size w W) => tlen_any T p bt chunk W (hblk.step hb) (hT.step hb))
  clear hblk hT
  by_cases h1 : i < 0
  · go_enter Tryd.func84, Tryd.ntmps84
    repeat' (first | (go_at_call 78; go_must ((with_reducible refine Calls.mono (HL.out _ (by (repeat' (first | (with_reducible exact Below.refl _ _) | (with_reducible assumption) | (with_reducible refine balloc ?_) | (with_reducible refine bdrew ?_) | (with_reducible refine bset ?_ (by (try dsimp only); omega)) | (with_reducible refine bvia ?_ (by assumption)))))) ?_); rintro _ _ ⟨rfl, rfl⟩; dsimp only)) | (go_at_call 87; go_must ((with_reducible refine (new_any _ _ i _ _ _).mono ?_); rintro _ w1 ⟨g, rfl, hg, hb, hbb⟩; rw [atOf_new] at hb; have hB1 := hB.step hbb; have g0 := hB1.cell 0; have g1 := hB1.cell 1; have f0 := hB1.frozen 0; have f1 := hB1.frozen 1; have gl := hB1.lt; simp at g0 g1; dsimp only)) | (with_reducible refine Keep.last ?_) | (with_reducible refine Keep.below (by assumption) ?_) | (with_reducible refine Keep.kept (by assumption) ?_) | (with_reducible refine Keep.alloc ?_) | (with_reducible refine Keep.same ?_) | ((with_reducible refine WpH.here ?_); first | (refine WpH.nil ?_; refine NoP.normal ?_) | (refine WpH.load (by rfl) (by rfl) (by go_simp; rfl) ?_; simp only [Act.put, List.setIfInBounds_toArray, List.set_cons_zero, List.set_cons_succ]) | (refine WpH.loadT (by rfl) (by rfl) (by go_simp; rfl) (by rintro _ _ ⟨⟩; exact ⟨_, _, _, _, _, _, by rfl, by assumption, by assumption⟩) ?_; simp only [Act.put, List.setIfInBounds_toArray, List.set_cons_zero, List.set_cons_succ]) | (refine WpH.pure (by rfl) (fun w_ => by go_simp; (try go_bits); rfl) ?_; simp only [Act.put, List.setIfInBounds_toArray, List.set_cons_zero, List.set_cons_succ]) | (refine WpH.wild1 (by rfl) (fun _ _ => ?_)) | (refine WpH.skip (by rfl) ?_; simp only [Act.put, List.setIfInBounds_toArray, List.set_cons_zero, List.set_cons_succ])) | go_values | go_skip | go_guarded | go_step | go_upon | go_back)
    skip
    have hne : g ≠ w.heap.size := fun e => by have := hB.lt; (try clear hi); omega
    refine bodyPost_ret (v := .tuple #[.agg #[.int .i64 0, .int .i64 0], .iface 191 (.pointer (some ⟨g, 0, none⟩))]) (by simp [results, Tryd.results84, go_sem, g0, g1, gl, size_set]) rfl ⟨_, rfl, ?_, ?_⟩
    · have hb' := (hb.far (p := ⟨w.heap.size, 0, none⟩) hne (.int .i64 0)).far (p := ⟨w.heap.size, 1, none⟩) hne (.int .i64 0)
      exact IsErr.tree1 b1 hg hb'
    · exact bset (bset (bvia b1 hbb) (Nat.le_refl _)) (Nat.le_refl _)
  · have h2 : (T.all.length : Int) < i := by omega
    clear hi
    go_enter Tryd.func84, Tryd.ntmps84
    repeat' (first | (go_at_call 78; go_must ((with_reducible refine Calls.mono (HL.out _ (by (repeat' (first | (with_reducible exact Below.refl _ _) | (with_reducible assumption) | (with_reducible refine balloc ?_) | (with_reducible refine bdrew ?_) | (with_reducible refine bset ?_ (by (try dsimp only); omega)) | (with_reducible refine bvia ?_ (by assumption)))))) ?_); rintro _ _ ⟨rfl, rfl⟩; dsimp only)) | (go_at_call 87; go_must ((with_reducible refine (new_any _ _ i _ _ _).mono ?_); rintro _ w1 ⟨g, rfl, hg, hb, hbb⟩; rw [atOf_new] at hb; have hB1 := hB.step hbb; have g0 := hB1.cell 0; have g1 := hB1.cell 1; have f0 := hB1.frozen 0; have f1 := hB1.frozen 1; have gl := hB1.lt; simp at g0 g1; dsimp only)) | (with_reducible refine Keep.last ?_) | (with_reducible refine Keep.below (by assumption) ?_) | (with_reducible refine Keep.kept (by assumption) ?_) | (with_reducible refine Keep.alloc ?_) | (with_reducible refine Keep.same ?_) | ((with_reducible refine WpH.here ?_); first | (refine WpH.nil ?_; refine NoP.normal ?_) | (refine WpH.load (by rfl) (by rfl) (by go_simp; rfl) ?_; simp only [Act.put, List.setIfInBounds_toArray, List.set_cons_zero, List.set_cons_succ]) | (refine WpH.loadT (by rfl) (by rfl) (by go_simp; rfl) (by rintro _ _ ⟨⟩; exact ⟨_, _, _, _, _, _, by rfl, by assumption, by assumption⟩) ?_; simp only [Act.put, List.setIfInBounds_toArray, List.set_cons_zero, List.set_cons_succ]) | (refine WpH.pure (by rfl) (fun w_ => by go_simp; (try go_bits); rfl) ?_; simp only [Act.put, List.setIfInBounds_toArray, List.set_cons_zero, List.set_cons_succ]) | (refine WpH.wild1 (by rfl) (fun _ _ => ?_)) | (refine WpH.skip (by rfl) ?_; simp only [Act.put, List.setIfInBounds_toArray, List.set_cons_zero, List.set_cons_succ])) | go_values | go_skip | go_guarded | go_step | go_upon | go_back)
    skip
    have hne : g ≠ w.heap.size := fun e => by have := hB.lt; (try clear hi); omega
    refine bodyPost_ret (v := .tuple #[.agg #[.int .i64 0, .int .i64 0], .iface 191 (.pointer (some ⟨g, 0, none⟩))]) (by simp [results, Tryd.results84, go_sem, g0, g1, gl, size_set]) rfl ⟨_, rfl, ?_, ?_⟩
    · have hb' := (hb.far (p := ⟨w.heap.size, 0, none⟩) hne (.int .i64 0)).far (p := ⟨w.heap.size, 1, none⟩) hne (.int .i64 0)
      exact IsErr.tree1 b1 hg hb'
    · exact bset (bset (bvia b1 hbb) (Nat.le_refl _)) (Nat.le_refl _)
set_option maxRecDepth 200000 in
set_option maxHeartbeats 2000000 in
theorem FindNM (T : Tr) (p : Option Addr) (bt chunk : Nat) (i : Int) (call : ByteArray) (S S' : Nat → Prop) (w : World) (hblk : Blk w bt 181 #[.int .i64 chunk, .pointer p]) (hT : IsTree w S T p) (hs : Sents w S' a) (hi : i < 0 ∨ liveOf T.all ≤ i) :
    Calls Tryd.prog 130 #[.pointer (some ⟨bt, 0, none⟩), .string call, .int .i64 i, .func (.func 131) #[] #[]] w fun r w' => ∃ v, r = .returned (.tuple #[.int .i64 0, v]) ∧ IsErr w' (Fr w S') a [⟨({ data := #[116, 114, 101, 101] } : ByteArray), call, atOf i⟩] 2 v ∧ Below w.heap.size w w' := by
  have c1 := hs.cell 2 (by omega) (by omega)
  simp only [gOf, reason] at c1
  by_cases h1 : i < 0
  · have h1' : ¬ (i ≥ 0) := by omega
    go_enter Tryd.func130, Tryd.ntmps130
    repeat' (first | (go_at_call 87; go_must ((with_reducible refine (new_any _ _ i _ _ w).mono ?_); rintro _ w1 ⟨g, rfl, hg, hb, hbb⟩; rw [atOf_new] at hb; dsimp only)) | (with_reducible refine Keep.last ?_) | (with_reducible refine Keep.below (by assumption) ?_) | (with_reducible refine Keep.kept (by assumption) ?_) | (with_reducible refine Keep.alloc ?_) | (with_reducible refine Keep.same ?_) | ((with_reducible refine WpH.here ?_); first | (refine WpH.nil ?_; refine NoP.normal ?_) | (refine WpH.load (by rfl) (by rfl) (by go_simp; rfl) ?_; simp only [Act.put, List.setIfInBounds_toArray, List.set_cons_zero, List.set_cons_succ]) | (refine WpH.loadT (by rfl) (by rfl) (by go_simp; rfl) (by rintro _ _ ⟨⟩; exact ⟨_, _, _, _, _, _, by rfl, by assumption, by assumption⟩) ?_; simp only [Act.put, List.setIfInBounds_toArray, List.set_cons_zero, List.set_cons_succ]) | (refine WpH.pure (by rfl) (fun w_ => by go_simp; (try go_bits); rfl) ?_; simp only [Act.put, List.setIfInBounds_toArray, List.set_cons_zero, List.set_cons_succ]) | (refine WpH.wild1 (by rfl) (fun _ _ => ?_)) | (refine WpH.skip (by rfl) ?_; simp only [Act.put, List.setIfInBounds_toArray, List.set_cons_zero, List.set_cons_succ])) | go_values | go_skip | go_guarded | go_step | go_upon | go_back)
    skip
    go_ret2
    exact ⟨_, rfl, IsErr.tree1 (Below.refl _ _) hg hb, hbb⟩
  · have h1' : i ≥ 0 := by omega
    have h2 : ¬ (i < liveOf T.all) := by omega
    clear hi
    go_enter Tryd.func130, Tryd.ntmps130
    repeat' (first | (go_at_call 77; go_must ((with_reducible refine (tweight_any T p bt chunk w hblk hT).mono ?_); rintro _ w1 ⟨rfl, hb1⟩; dsimp only)) | (go_at_call 131; go_must ((with_reducible refine (find1 _ _ w1).mono ?_); rintro _ w2 ⟨rfl, hb2⟩; have hbb2 := bvia hb1 hb2; have c2 := (hs.step hbb2).cell 2 (by omega) (by omega); simp only [gOf, reason] at c2; dsimp only)) | (go_at_call 87; go_must ((with_reducible refine (new_any _ _ i _ _ _).mono ?_); rintro _ w3 ⟨g, rfl, hg, hb, hbb⟩; rw [atOf_new] at hb; dsimp only)) | (with_reducible refine Keep.last ?_) | (with_reducible refine Keep.below (by assumption) ?_) | (with_reducible refine Keep.kept (by assumption) ?_) | (with_reducible refine Keep.alloc ?_) | (with_reducible refine Keep.same ?_) | ((with_reducible refine WpH.here ?_); first | (refine WpH.nil ?_; refine NoP.normal ?_) | (refine WpH.load (by rfl) (by rfl) (by go_simp; rfl) ?_; simp only [Act.put, List.setIfInBounds_toArray, List.set_cons_zero, List.set_cons_succ]) | (refine WpH.loadT (by rfl) (by rfl) (by go_simp; rfl) (by rintro _ _ ⟨⟩; exact ⟨_, _, _, _, _, _, by rfl, by assumption, by assumption⟩) ?_; simp only [Act.put, List.setIfInBounds_toArray, List.set_cons_zero, List.set_cons_succ]) | (refine WpH.pure (by rfl) (fun w_ => by go_simp; (try go_bits); rfl) ?_; simp only [Act.put, List.setIfInBounds_toArray, List.set_cons_zero, List.set_cons_succ]) | (refine WpH.wild1 (by rfl) (fun _ _ => ?_)) | (refine WpH.skip (by rfl) ?_; simp only [Act.put, List.setIfInBounds_toArray, List.set_cons_zero, List.set_cons_succ])) | go_values | go_skip | go_guarded | go_step | go_upon | go_back)
    skip
    go_ret2
    exact ⟨_, rfl, IsErr.tree1 hbb2 hg hb, bvia hbb2 hbb⟩
theorem find_no (T : Tr) (p : Option Addr) (bt chunk : Nat) (i : Int) (S S' : Nat → Prop) (w : World) (hblk : Blk w bt 181 #[.int .i64 chunk, .pointer p]) (hT : IsTree w S T p) (hs : Sents w S' a) (hi : i < 0 ∨ liveOf T.all ≤ i) :
    Calls Tryd.prog 82 #[.pointer (some ⟨bt, 0, none⟩), .int .i64 i] w fun r w' => ∃ v, r = .returned (.tuple #[.int .i64 0, v]) ∧ IsErr w' (Fr w S') a [⟨({ data := #[116, 114, 101, 101] } : ByteArray), ({ data := #[70, 105, 110, 100] } : ByteArray), atOf i⟩] 2 v ∧ Below w.heap.size w w' := by
  go_enter Tryd.func82, Tryd.ntmps82
  repeat' (first | (go_at_call 130; go_must ((with_reducible refine (FindNM T p bt chunk i _ S S' w hblk hT hs hi).mono ?_); rintro _ w1 ⟨v, rfl, hv, hb1⟩; dsimp only)) | (with_reducible refine Keep.last ?_) | (with_reducible refine Keep.below (by assumption) ?_) | (with_reducible refine Keep.kept (by assumption) ?_) | (with_reducible refine Keep.alloc ?_) | (with_reducible refine Keep.same ?_) | ((with_reducible refine WpH.here ?_); first | (refine WpH.nil ?_; refine NoP.normal ?_) | (refine WpH.load (by rfl) (by rfl) (by go_simp; rfl) ?_; simp only [Act.put, List.setIfInBounds_toArray, List.set_cons_zero, List.set_cons_succ]) | (refine WpH.loadT (by rfl) (by rfl) (by go_simp; rfl) (by rintro _ _ ⟨⟩; exact ⟨_, _, _, _, _, _, by rfl, by assumption, by assumption⟩) ?_; simp only [Act.put, List.setIfInBounds_toArray, List.set_cons_zero, List.set_cons_succ]) | (refine WpH.pure (by rfl) (fun w_ => by go_simp; (try go_bits); rfl) ?_; simp only [Act.put, List.setIfInBounds_toArray, List.set_cons_zero, List.set_cons_succ]) | (refine WpH.wild1 (by rfl) (fun _ _ => ?_)) | (refine WpH.skip (by rfl) ?_; simp only [Act.put, List.setIfInBounds_toArray, List.set_cons_zero, List.set_cons_succ])) | go_values | go_skip | go_guarded | go_step | go_upon | go_back)
  go_ret2
  exact ⟨v, rfl, hv, hb1⟩
set_option maxRecDepth 200000 in
set_option maxHeartbeats 2000000 in
theorem FindLineNM (T : Tr) (p : Option Addr) (bt chunk : Nat) (i : Int) (call : ByteArray) (S S' : Nat → Prop) (w : World) (hblk : Blk w bt 181 #[.int .i64 chunk, .pointer p]) (hT : IsTree w S T p) (hs : Sents w S' a) (hi : i < 0 ∨ linesOf T.all ≤ i) :
    Calls Tryd.prog 130 #[.pointer (some ⟨bt, 0, none⟩), .string call, .int .i64 i, .func (.func 161) #[] #[]] w fun r w' => ∃ v, r = .returned (.tuple #[.int .i64 0, v]) ∧ IsErr w' (Fr w S') a [⟨({ data := #[116, 114, 101, 101] } : ByteArray), call, atOf i⟩] 2 v ∧ Below w.heap.size w w' := by
  have c1 := hs.cell 2 (by omega) (by omega)
  simp only [gOf, reason] at c1
  by_cases h1 : i < 0
  · have h1' : ¬ (i ≥ 0) := by omega
    go_enter Tryd.func130, Tryd.ntmps130
    repeat' (first | (go_at_call 87; go_must ((with_reducible refine (new_any _ _ i _ _ w).mono ?_); rintro _ w1 ⟨g, rfl, hg, hb, hbb⟩; rw [atOf_new] at hb; dsimp only)) | (with_reducible refine Keep.last ?_) | (with_reducible refine Keep.below (by assumption) ?_) | (with_reducible refine Keep.kept (by assumption) ?_) | (with_reducible refine Keep.alloc ?_) | (with_reducible refine Keep.same ?_) | ((with_reducible refine WpH.here ?_); first | (refine WpH.nil ?_; refine NoP.normal ?_) | (refine WpH.load (by rfl) (by rfl) (by go_simp; rfl) ?_; simp only [Act.put, List.setIfInBounds_toArray, List.set_cons_zero, List.set_cons_succ]) | (refine WpH.loadT (by rfl) (by rfl) (by go_simp; rfl) (by rintro _ _ ⟨⟩; exact ⟨_, _, _, _, _, _, by rfl, by assumption, by assumption⟩) ?_; simp only [Act.put, List.setIfInBounds_toArray, List.set_cons_zero, List.set_cons_succ]) | (refine WpH.pure (by rfl) (fun w_ => by go_simp; (try go_bits); rfl) ?_; simp only [Act.put, List.setIfInBounds_toArray, List.set_cons_zero, List.set_cons_succ]) | (refine WpH.wild1 (by rfl) (fun _ _ => ?_)) | (refine WpH.skip (by rfl) ?_; simp only [Act.put, List.setIfInBounds_toArray, List.set_cons_zero, List.set_cons_succ])) | go_values | go_skip | go_guarded | go_step | go_upon | go_back)
    skip
    go_ret2
    exact ⟨_, rfl, IsErr.tree1 (Below.refl _ _) hg hb, hbb⟩
  · have h1' : i ≥ 0 := by omega
    have h2 : ¬ (i < linesOf T.all) := by omega
    clear hi
    go_enter Tryd.func130, Tryd.ntmps130
    repeat' (first | (go_at_call 77; go_must ((with_reducible refine (tweight_any T p bt chunk w hblk hT).mono ?_); rintro _ w1 ⟨rfl, hb1⟩; dsimp only)) | (go_at_call 161; go_must ((with_reducible refine (findLine1 _ _ w1).mono ?_); rintro _ w2 ⟨rfl, hb2⟩; have hbb2 := bvia hb1 hb2; have c2 := (hs.step hbb2).cell 2 (by omega) (by omega); simp only [gOf, reason] at c2; dsimp only)) | (go_at_call 87; go_must ((with_reducible refine (new_any _ _ i _ _ _).mono ?_); rintro _ w3 ⟨g, rfl, hg, hb, hbb⟩; rw [atOf_new] at hb; dsimp only)) | (with_reducible refine Keep.last ?_) | (with_reducible refine Keep.below (by assumption) ?_) | (with_reducible refine Keep.kept (by assumption) ?_) | (with_reducible refine Keep.alloc ?_) | (with_reducible refine Keep.same ?_) | ((with_reducible refine WpH.here ?_); first | (refine WpH.nil ?_; refine NoP.normal ?_) | (refine WpH.load (by rfl) (by rfl) (by go_simp; rfl) ?_; simp only [Act.put, List.setIfInBounds_toArray, List.set_cons_zero, List.set_cons_succ]) | (refine WpH.loadT (by rfl) (by rfl) (by go_simp; rfl) (by rintro _ _ ⟨⟩; exact ⟨_, _, _, _, _, _, by rfl, by assumption, by assumption⟩) ?_; simp only [Act.put, List.setIfInBounds_toArray, List.set_cons_zero, List.set_cons_succ]) | (refine WpH.pure (by rfl) (fun w_ => by go_simp; (try go_bits); rfl) ?_; simp only [Act.put, List.setIfInBounds_toArray, List.set_cons_zero, List.set_cons_succ]) | (refine WpH.wild1 (by rfl) (fun _ _ => ?_)) | (refine WpH.skip (by rfl) ?_; simp only [Act.put, List.setIfInBounds_toArray, List.set_cons_zero, List.set_cons_succ])) | go_values | go_skip | go_guarded | go_step | go_upon | go_back)
    skip
    go_ret2
    exact ⟨_, rfl, IsErr.tree1 hbb2 hg hb, bvia hbb2 hbb⟩
theorem findLine_no (T : Tr) (p : Option Addr) (bt chunk : Nat) (i : Int) (S S' : Nat → Prop) (w : World) (hblk : Blk w bt 181 #[.int .i64 chunk, .pointer p]) (hT : IsTree w S T p) (hs : Sents w S' a) (hi : i < 0 ∨ linesOf T.all ≤ i) :
    Calls Tryd.prog 144 #[.pointer (some ⟨bt, 0, none⟩), .int .i64 i] w fun r w' => ∃ v, r = .returned (.tuple #[.int .i64 0, v]) ∧ IsErr w' (Fr w S') a [⟨({ data := #[116, 114, 101, 101] } : ByteArray), ({ data := #[70, 105, 110, 100, 76, 105, 110, 101] } : ByteArray), atOf i⟩] 2 v ∧ Below w.heap.size w w' := by
  go_enter Tryd.func144, Tryd.ntmps144
  repeat' (first | (go_at_call 130; go_must ((with_reducible refine (FindLineNM T p bt chunk i _ S S' w hblk hT hs hi).mono ?_); rintro _ w1 ⟨v, rfl, hv, hb1⟩; dsimp only)) | (with_reducible refine Keep.last ?_) | (with_reducible refine Keep.below (by assumption) ?_) | (with_reducible refine Keep.kept (by assumption) ?_) | (with_reducible refine Keep.alloc ?_) | (with_reducible refine Keep.same ?_) | ((with_reducible refine WpH.here ?_); first | (refine WpH.nil ?_; refine NoP.normal ?_) | (refine WpH.load (by rfl) (by rfl) (by go_simp; rfl) ?_; simp only [Act.put, List.setIfInBounds_toArray, List.set_cons_zero, List.set_cons_succ]) | (refine WpH.loadT (by rfl) (by rfl) (by go_simp; rfl) (by rintro _ _ ⟨⟩; exact ⟨_, _, _, _, _, _, by rfl, by assumption, by assumption⟩) ?_; simp only [Act.put, List.setIfInBounds_toArray, List.set_cons_zero, List.set_cons_succ]) | (refine WpH.pure (by rfl) (fun w_ => by go_simp; (try go_bits); rfl) ?_; simp only [Act.put, List.setIfInBounds_toArray, List.set_cons_zero, List.set_cons_succ]) | (refine WpH.wild1 (by rfl) (fun _ _ => ?_)) | (refine WpH.skip (by rfl) ?_; simp only [Act.put, List.setIfInBounds_toArray, List.set_cons_zero, List.set_cons_succ])) | go_values | go_skip | go_guarded | go_step | go_upon | go_back)
  go_ret2
  exact ⟨v, rfl, hv, hb1⟩
set_option maxRecDepth 50000 in
set_option maxHeartbeats 2000000 in
theorem refFind_live (A : Option Addr) (n c k : Nat) (es : List El) (S : Nat → Prop) (w : World) (h : Row w S A n c es) (hn : n ≤ 1073741824) (hk : k < liveOf es) :
    Calls Tryd.prog 95 #[.slice A n c, .int .i64 k, .bool false] w fun r w' => (∃ m e0, r = .returned (.int .i64 (m : Nat)) ∧ es[m]? = some e0 ∧ e0.live = 1 ∧ liveOf (es.take m) = k) ∧ Below w.heap.size w w' := by
  have Hr := hid h
  have hl := h.1
  clear h
  go_enter Tryd.func95, Tryd.ntmps95
  repeat' (first | (with_reducible refine Keep.last ?_) | (with_reducible refine Keep.below (by assumption) ?_) | (with_reducible refine Keep.kept (by assumption) ?_) | (with_reducible refine Keep.alloc ?_) | (with_reducible refine Keep.same ?_) | ((with_reducible refine WpH.here ?_); first | (refine WpH.nil ?_; refine NoP.normal ?_) | (refine WpH.load (by rfl) (by rfl) (by go_simp; rfl) ?_; simp only [Act.put, List.setIfInBounds_toArray, List.set_cons_zero, List.set_cons_succ]) | (refine WpH.loadT (by rfl) (by rfl) (by go_simp; rfl) (by rintro _ _ ⟨⟩; exact ⟨_, _, _, _, _, _, by rfl, by assumption, by assumption⟩) ?_; simp only [Act.put, List.setIfInBounds_toArray, List.set_cons_zero, List.set_cons_succ]) | (refine WpH.pure (by rfl) (fun w_ => by go_simp; (try go_bits); rfl) ?_; simp only [Act.put, List.setIfInBounds_toArray, List.set_cons_zero, List.set_cons_succ]) | (refine WpH.wild1 (by rfl) (fun _ _ => ?_)) | (refine WpH.skip (by rfl) ?_; simp only [Act.put, List.setIfInBounds_toArray, List.set_cons_zero, List.set_cons_succ])) | go_values | go_skip | go_guarded | go_step | go_upon | go_back)
  go_loopw [1, 7] (fun r i wr => ∃ (j q : Nat), i = .int .i64 j ∧ r = .int .i64 q ∧ j ≤ n ∧ q + liveOf (es.take j) = k ∧ Below w.heap.size w wr) (fun _ i wr => n - (intOf i).toNat)
  case atStart => exact ⟨0, k, rfl, rfl, Nat.zero_le _, by simp [liveOf], Below.refl _ _⟩
  case round =>
    obtain ⟨j, q, rfl, rfl, hj, hq, hbr⟩ := hrel
    by_cases hlt : j < n
    · obtain ⟨b, off, e, rfl, hS, he, c0, c1, c2, c3, c4⟩ := (Hr.out.step hbr).at_ hlt
      have hb := lt_of_cell' c0
      have hsn := liveOf_snoc he
      have HW := hid (fun W => refWeigh_any e W)
      have hel := e.lines_le
      have hel2 := e.live_le
      have He := hid (And.intro he hsn)
      clear he hsn
      obtain ⟨u, hu⟩ : ∃ u, u = e.live := ⟨_, rfl⟩
      obtain ⟨v, hv⟩ : ∃ v, v = e.lines := ⟨_, rfl⟩
      rw [← hu, ← hv] at HW hel
      rw [← hu] at hel2
      have Huv := hid (And.intro hu hv)
      clear hu hv
      repeat' (first | (with_reducible refine stop_region 8 ?_) | (go_at_call 49; go_must ((with_reducible refine Calls.mono (HW.out _) ?_); rintro _ w2 ⟨rfl, hb2⟩; dsimp only)) | (with_reducible refine Keep.last ?_) | (with_reducible refine Keep.below (by assumption) ?_) | (with_reducible refine Keep.kept (by assumption) ?_) | (with_reducible refine Keep.alloc ?_) | (with_reducible refine Keep.same ?_) | ((with_reducible refine WpH.here ?_); first | (refine WpH.nil ?_; refine NoP.normal ?_) | (refine WpH.load (by rfl) (by rfl) (by go_simp; rfl) ?_; simp only [Act.put, List.setIfInBounds_toArray, List.set_cons_zero, List.set_cons_succ]) | (refine WpH.loadT (by rfl) (by rfl) (by go_simp; rfl) (by rintro _ _ ⟨⟩; exact ⟨_, _, _, _, _, _, by rfl, by assumption, by assumption⟩) ?_; simp only [Act.put, List.setIfInBounds_toArray, List.set_cons_zero, List.set_cons_succ]) | (refine WpH.pure (by rfl) (fun w_ => by go_simp; (try go_bits); rfl) ?_; simp only [Act.put, List.setIfInBounds_toArray, List.set_cons_zero, List.set_cons_succ]) | (refine WpH.wild1 (by rfl) (fun _ _ => ?_)) | (refine WpH.skip (by rfl) ?_; simp only [Act.put, List.setIfInBounds_toArray, List.set_cons_zero, List.set_cons_succ])) | go_values | go_skip | go_guarded | go_step | go_upon | go_back)
      refine Stop.go ?_
      have hb3 := bvia hbr hb2
      have eX : Below w2.heap.size w2 (w2.alloc (.cells #[.int .i64 u, .int .i64 v] 54)) := balloc (Below.refl _ _)
      have hb4 := bvia hb3 eX
      generalize w2.alloc (.cells #[.int .i64 u, .int .i64 v] 54) = W2 at *
      by_cases h0 : u = 0
      · have h0' : ((u : Nat) : Int) = 0 := by omega
        repeat' (first | (with_reducible refine Keep.last ?_) | (with_reducible refine Keep.below (by assumption) ?_) | (with_reducible refine Keep.kept (by assumption) ?_) | (with_reducible refine Keep.alloc ?_) | (with_reducible refine Keep.same ?_) | ((with_reducible refine WpH.here ?_); first | (refine WpH.nil ?_; refine NoP.normal ?_) | (refine WpH.load (by rfl) (by rfl) (by go_simp; rfl) ?_; simp only [Act.put, List.setIfInBounds_toArray, List.set_cons_zero, List.set_cons_succ]) | (refine WpH.loadT (by rfl) (by rfl) (by go_simp; rfl) (by rintro _ _ ⟨⟩; exact ⟨_, _, _, _, _, _, by rfl, by assumption, by assumption⟩) ?_; simp only [Act.put, List.setIfInBounds_toArray, List.set_cons_zero, List.set_cons_succ]) | (refine WpH.pure (by rfl) (fun w_ => by go_simp; (try go_bits); rfl) ?_; simp only [Act.put, List.setIfInBounds_toArray, List.set_cons_zero, List.set_cons_succ]) | (refine WpH.wild1 (by rfl) (fun _ _ => ?_)) | (refine WpH.skip (by rfl) ?_; simp only [Act.put, List.setIfInBounds_toArray, List.set_cons_zero, List.set_cons_succ])) | go_values | go_skip | go_guarded | go_step | go_upon | go_back)
        skip
        go_roundw
        case rel => exact ⟨j + 1, q, by go_num, rfl, by omega, by rw [He.out.2]; have := Huv.out; omega, hb4⟩
        case measure => simp [intOf]; omega
      · have h0' : ¬ (((u : Nat) : Int) = 0) := by omega
        by_cases hq0 : q = 0
        · subst hq0
          repeat' (first | (with_reducible refine Keep.last ?_) | (with_reducible refine Keep.below (by assumption) ?_) | (with_reducible refine Keep.kept (by assumption) ?_) | (with_reducible refine Keep.alloc ?_) | (with_reducible refine Keep.same ?_) | ((with_reducible refine WpH.here ?_); first | (refine WpH.nil ?_; refine NoP.normal ?_) | (refine WpH.load (by rfl) (by rfl) (by go_simp; rfl) ?_; simp only [Act.put, List.setIfInBounds_toArray, List.set_cons_zero, List.set_cons_succ]) | (refine WpH.loadT (by rfl) (by rfl) (by go_simp; rfl) (by rintro _ _ ⟨⟩; exact ⟨_, _, _, _, _, _, by rfl, by assumption, by assumption⟩) ?_; simp only [Act.put, List.setIfInBounds_toArray, List.set_cons_zero, List.set_cons_succ]) | (refine WpH.pure (by rfl) (fun w_ => by go_simp; (try go_bits); rfl) ?_; simp only [Act.put, List.setIfInBounds_toArray, List.set_cons_zero, List.set_cons_succ]) | (refine WpH.wild1 (by rfl) (fun _ _ => ?_)) | (refine WpH.skip (by rfl) ?_; simp only [Act.put, List.setIfInBounds_toArray, List.set_cons_zero, List.set_cons_succ])) | go_values | go_skip | go_guarded | go_step | go_upon | go_back)
          go_ret
          exact ⟨⟨j, e, rfl, He.out.1, by have := Huv.out; omega, by omega⟩, hb4⟩
        · have hq1 : ¬ ((q : Int) = 0) := by omega
          obtain ⟨q', rfl⟩ : ∃ q', q = q' + 1 := ⟨q - 1, by omega⟩
          have hqb : (q' : Int) ≤ 1073741824 := by have := liveOf_le es; omega
          repeat' (first | (with_reducible refine Keep.last ?_) | (with_reducible refine Keep.below (by assumption) ?_) | (with_reducible refine Keep.kept (by assumption) ?_) | (with_reducible refine Keep.alloc ?_) | (with_reducible refine Keep.same ?_) | ((with_reducible refine WpH.here ?_); first | (refine WpH.nil ?_; refine NoP.normal ?_) | (refine WpH.load (by rfl) (by rfl) (by go_simp; rfl) ?_; simp only [Act.put, List.setIfInBounds_toArray, List.set_cons_zero, List.set_cons_succ]) | (refine WpH.loadT (by rfl) (by rfl) (by go_simp; rfl) (by rintro _ _ ⟨⟩; exact ⟨_, _, _, _, _, _, by rfl, by assumption, by assumption⟩) ?_; simp only [Act.put, List.setIfInBounds_toArray, List.set_cons_zero, List.set_cons_succ]) | (refine WpH.pure (by rfl) (fun w_ => by go_simp; (try go_bits); rfl) ?_; simp only [Act.put, List.setIfInBounds_toArray, List.set_cons_zero, List.set_cons_succ]) | (refine WpH.wild1 (by rfl) (fun _ _ => ?_)) | (refine WpH.skip (by rfl) ?_; simp only [Act.put, List.setIfInBounds_toArray, List.set_cons_zero, List.set_cons_succ])) | go_values | go_skip | go_guarded | go_step | go_upon | go_back)
          skip
          go_roundw
          case rel => exact ⟨j + 1, q', by go_num, congrArg _ (by omega), by omega, by rw [He.out.2]; have := Huv.out; omega, hb4⟩
          case measure => simp [intOf]; omega
    · exfalso
      obtain rfl : j = n := by omega
      rw [List.take_of_length_le (by omega)] at hq
      omega
set_option maxRecDepth 50000 in
set_option maxHeartbeats 2000000 in
theorem refFind_line (A : Option Addr) (n c k : Nat) (es : List El) (S : Nat → Prop) (w : World) (h : Row w S A n c es) (hn : n ≤ 1073741824) (hk : k < linesOf es) :
    Calls Tryd.prog 95 #[.slice A n c, .int .i64 k, .bool true] w fun r w' => (∃ m e0, r = .returned (.int .i64 (m : Nat)) ∧ es[m]? = some e0 ∧ e0.lines = 1 ∧ linesOf (es.take m) = k) ∧ Below w.heap.size w w' := by
  have Hr := hid h
  have hl := h.1
  clear h
  go_enter Tryd.func95, Tryd.ntmps95
  repeat' (first | (with_reducible refine Keep.last ?_) | (with_reducible refine Keep.below (by assumption) ?_) | (with_reducible refine Keep.kept (by assumption) ?_) | (with_reducible refine Keep.alloc ?_) | (with_reducible refine Keep.same ?_) | ((with_reducible refine WpH.here ?_); first | (refine WpH.nil ?_; refine NoP.normal ?_) | (refine WpH.load (by rfl) (by rfl) (by go_simp; rfl) ?_; simp only [Act.put, List.setIfInBounds_toArray, List.set_cons_zero, List.set_cons_succ]) | (refine WpH.loadT (by rfl) (by rfl) (by go_simp; rfl) (by rintro _ _ ⟨⟩; exact ⟨_, _, _, _, _, _, by rfl, by assumption, by assumption⟩) ?_; simp only [Act.put, List.setIfInBounds_toArray, List.set_cons_zero, List.set_cons_succ]) | (refine WpH.pure (by rfl) (fun w_ => by go_simp; (try go_bits); rfl) ?_; simp only [Act.put, List.setIfInBounds_toArray, List.set_cons_zero, List.set_cons_succ]) | (refine WpH.wild1 (by rfl) (fun _ _ => ?_)) | (refine WpH.skip (by rfl) ?_; simp only [Act.put, List.setIfInBounds_toArray, List.set_cons_zero, List.set_cons_succ])) | go_values | go_skip | go_guarded | go_step | go_upon | go_back)
  go_loopw [1, 7] (fun r i wr => ∃ (j q : Nat), i = .int .i64 j ∧ r = .int .i64 q ∧ j ≤ n ∧ q + linesOf (es.take j) = k ∧ Below w.heap.size w wr) (fun _ i wr => n - (intOf i).toNat)
  case atStart => exact ⟨0, k, rfl, rfl, Nat.zero_le _, by simp [linesOf], Below.refl _ _⟩
  case round =>
    obtain ⟨j, q, rfl, rfl, hj, hq, hbr⟩ := hrel
    by_cases hlt : j < n
    · obtain ⟨b, off, e, rfl, hS, he, c0, c1, c2, c3, c4⟩ := (Hr.out.step hbr).at_ hlt
      have hb := lt_of_cell' c0
      have hsn := linesOf_snoc he
      have HW := hid (fun W => refWeigh_any e W)
      have hel := e.lines_le
      have hel2 := e.live_le
      have He := hid (And.intro he hsn)
      clear he hsn
      obtain ⟨u, hu⟩ : ∃ u, u = e.live := ⟨_, rfl⟩
      obtain ⟨v, hv⟩ : ∃ v, v = e.lines := ⟨_, rfl⟩
      rw [← hu, ← hv] at HW hel
      rw [← hu] at hel2
      have Huv := hid (And.intro hu hv)
      clear hu hv
      repeat' (first | (with_reducible refine stop_region 8 ?_) | (go_at_call 49; go_must ((with_reducible refine Calls.mono (HW.out _) ?_); rintro _ w2 ⟨rfl, hb2⟩; dsimp only)) | (with_reducible refine Keep.last ?_) | (with_reducible refine Keep.below (by assumption) ?_) | (with_reducible refine Keep.kept (by assumption) ?_) | (with_reducible refine Keep.alloc ?_) | (with_reducible refine Keep.same ?_) | ((with_reducible refine WpH.here ?_); first | (refine WpH.nil ?_; refine NoP.normal ?_) | (refine WpH.load (by rfl) (by rfl) (by go_simp; rfl) ?_; simp only [Act.put, List.setIfInBounds_toArray, List.set_cons_zero, List.set_cons_succ]) | (refine WpH.loadT (by rfl) (by rfl) (by go_simp; rfl) (by rintro _ _ ⟨⟩; exact ⟨_, _, _, _, _, _, by rfl, by assumption, by assumption⟩) ?_; simp only [Act.put, List.setIfInBounds_toArray, List.set_cons_zero, List.set_cons_succ]) | (refine WpH.pure (by rfl) (fun w_ => by go_simp; (try go_bits); rfl) ?_; simp only [Act.put, List.setIfInBounds_toArray, List.set_cons_zero, List.set_cons_succ]) | (refine WpH.wild1 (by rfl) (fun _ _ => ?_)) | (refine WpH.skip (by rfl) ?_; simp only [Act.put, List.setIfInBounds_toArray, List.set_cons_zero, List.set_cons_succ])) | go_values | go_skip | go_guarded | go_step | go_upon | go_back)
      refine Stop.go ?_
      have hb3 := bvia hbr hb2
      have eX : Below w2.heap.size w2 (w2.alloc (.cells #[.int .i64 u, .int .i64 v] 54)) := balloc (Below.refl _ _)
      have hb4 := bvia hb3 eX
      generalize w2.alloc (.cells #[.int .i64 u, .int .i64 v] 54) = W2 at *
      by_cases h0 : v = 0
      · have h0' : ((v : Nat) : Int) = 0 := by omega
        repeat' (first | (with_reducible refine Keep.last ?_) | (with_reducible refine Keep.below (by assumption) ?_) | (with_reducible refine Keep.kept (by assumption) ?_) | (with_reducible refine Keep.alloc ?_) | (with_reducible refine Keep.same ?_) | ((with_reducible refine WpH.here ?_); first | (refine WpH.nil ?_; refine NoP.normal ?_) | (refine WpH.load (by rfl) (by rfl) (by go_simp; rfl) ?_; simp only [Act.put, List.setIfInBounds_toArray, List.set_cons_zero, List.set_cons_succ]) | (refine WpH.loadT (by rfl) (by rfl) (by go_simp; rfl) (by rintro _ _ ⟨⟩; exact ⟨_, _, _, _, _, _, by rfl, by assumption, by assumption⟩) ?_; simp only [Act.put, List.setIfInBounds_toArray, List.set_cons_zero, List.set_cons_succ]) | (refine WpH.pure (by rfl) (fun w_ => by go_simp; (try go_bits); rfl) ?_; simp only [Act.put, List.setIfInBounds_toArray, List.set_cons_zero, List.set_cons_succ]) | (refine WpH.wild1 (by rfl) (fun _ _ => ?_)) | (refine WpH.skip (by rfl) ?_; simp only [Act.put, List.setIfInBounds_toArray, List.set_cons_zero, List.set_cons_succ])) | go_values | go_skip | go_guarded | go_step | go_upon | go_back)
        skip
        go_roundw
        case rel => exact ⟨j + 1, q, by go_num, rfl, by omega, by rw [He.out.2]; have := Huv.out; omega, hb4⟩
        case measure => simp [intOf]; omega
      · have h0' : ¬ (((v : Nat) : Int) = 0) := by omega
        by_cases hq0 : q = 0
        · subst hq0
          repeat' (first | (with_reducible refine Keep.last ?_) | (with_reducible refine Keep.below (by assumption) ?_) | (with_reducible refine Keep.kept (by assumption) ?_) | (with_reducible refine Keep.alloc ?_) | (with_reducible refine Keep.same ?_) | ((with_reducible refine WpH.here ?_); first | (refine WpH.nil ?_; refine NoP.normal ?_) | (refine WpH.load (by rfl) (by rfl) (by go_simp; rfl) ?_; simp only [Act.put, List.setIfInBounds_toArray, List.set_cons_zero, List.set_cons_succ]) | (refine WpH.loadT (by rfl) (by rfl) (by go_simp; rfl) (by rintro _ _ ⟨⟩; exact ⟨_, _, _, _, _, _, by rfl, by assumption, by assumption⟩) ?_; simp only [Act.put, List.setIfInBounds_toArray, List.set_cons_zero, List.set_cons_succ]) | (refine WpH.pure (by rfl) (fun w_ => by go_simp; (try go_bits); rfl) ?_; simp only [Act.put, List.setIfInBounds_toArray, List.set_cons_zero, List.set_cons_succ]) | (refine WpH.wild1 (by rfl) (fun _ _ => ?_)) | (refine WpH.skip (by rfl) ?_; simp only [Act.put, List.setIfInBounds_toArray, List.set_cons_zero, List.set_cons_succ])) | go_values | go_skip | go_guarded | go_step | go_upon | go_back)
          go_ret
          exact ⟨⟨j, e, rfl, He.out.1, by have := Huv.out; omega, by omega⟩, hb4⟩
        · have hq1 : ¬ ((q : Int) = 0) := by omega
          obtain ⟨q', rfl⟩ : ∃ q', q = q' + 1 := ⟨q - 1, by omega⟩
          have hqb : (q' : Int) ≤ 1073741824 := by have := linesOf_le es; omega
          repeat' (first | (with_reducible refine Keep.last ?_) | (with_reducible refine Keep.below (by assumption) ?_) | (with_reducible refine Keep.kept (by assumption) ?_) | (with_reducible refine Keep.alloc ?_) | (with_reducible refine Keep.same ?_) | ((with_reducible refine WpH.here ?_); first | (refine WpH.nil ?_; refine NoP.normal ?_) | (refine WpH.load (by rfl) (by rfl) (by go_simp; rfl) ?_; simp only [Act.put, List.setIfInBounds_toArray, List.set_cons_zero, List.set_cons_succ]) | (refine WpH.loadT (by rfl) (by rfl) (by go_simp; rfl) (by rintro _ _ ⟨⟩; exact ⟨_, _, _, _, _, _, by rfl, by assumption, by assumption⟩) ?_; simp only [Act.put, List.setIfInBounds_toArray, List.set_cons_zero, List.set_cons_succ]) | (refine WpH.pure (by rfl) (fun w_ => by go_simp; (try go_bits); rfl) ?_; simp only [Act.put, List.setIfInBounds_toArray, List.set_cons_zero, List.set_cons_succ]) | (refine WpH.wild1 (by rfl) (fun _ _ => ?_)) | (refine WpH.skip (by rfl) ?_; simp only [Act.put, List.setIfInBounds_toArray, List.set_cons_zero, List.set_cons_succ])) | go_values | go_skip | go_guarded | go_step | go_upon | go_back)
          skip
          go_roundw
          case rel => exact ⟨j + 1, q', by go_num, congrArg _ (by omega), by omega, by rw [He.out.2]; have := Huv.out; omega, hb4⟩
          case measure => simp [intOf]; omega
    · exfalso
      obtain rfl : j = n := by omega
      rw [List.take_of_length_le (by omega)] at hq
      omega
end Go.Proofs.YtfihjajllfihjaaDoor
