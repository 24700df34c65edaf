/- The document's Insert and Add refused for a place that there is not, and for what is neither one more nor one less: the walks. Conditions: the row lies in memory. -/
import Derived.Test.YtfihjajllfihjaaGreatDoorSRefApply
namespace Go.Proofs.YtfihjajllfihjaaGreatDoor
set_option linter.unusedSimpArgs false
set_option linter.unusedVariables false
open Go Go.RowKit
set_option maxRecDepth 20000 in
set_option maxHeartbeats 1000000 in
theorem refInsert_range (A : Option Addr) (n c : Nat) (i : Int) (es : List El) (S S' : Nat → Prop) (e : El) (w : World) (h : Row w S A n c es) (hi : i < 0 ∨ (n : Int) < i) :
    Calls Tryz.prog 33 #[.slice A n c, .int .i64 i, .agg #[.int .i64 e.epoch, .int .i64 e.rep, .int .i64 e.num, .int .i32 e.char, .int .i64 e.hides]] w fun r w' => ∃ v, r = .returned (.tuple #[.slice A n c, v]) ∧ IsNo w' (Fr w S') [⟨({ data := #[109, 111, 100, 101, 108] } : ByteArray), ({ data := #[73, 110, 115, 101, 114, 116] } : ByteArray), atOf i⟩] 2 v ∧ Below w.heap.size w w' := by
  obtain ⟨hX, hR, hb⟩ := boxes2 w 32 69 #[.int .i64 e.epoch, .int .i64 e.rep, .int .i64 e.num, .int .i32 e.char, .int .i64 e.hides] #[.int .i64 0, .slice none 0 0, .slice none 0 0]
  have HS := hid (fun W => say_any ({ data := #[109, 111, 100, 101, 108] } : ByteArray) ({ data := #[73, 110, 115, 101, 114, 116] } : ByteArray) i 2 (by omega) (by omega) (fun b => S' b ∧ b < w.heap.size) W)
  rw [show ((2 : Nat) : Int) = 2 from rfl] at HS
  have hRl := hR.lt
  have hz2 := hb.size
  have key : i < 0 ∨ (¬ i < 0 ∧ i > (n : Int)) := by omega
  clear h hi
  rcases key with h0 | ⟨h0, h1⟩
  all_goals
    go_enter Tryz.func33, Tryz.ntmps33
    repeat' (first | (go_at_call 67; go_must ((with_reducible refine Calls.mono (HS.out _) ?_); rintro _ w3 ⟨v, rfl, ⟨g1, B, m, d, C, k, rfl, hr1, hr2⟩, hb3⟩; have hR3 := (hR).step hb3; have r0 := hR3.cell 0; have r1 := hR3.cell 1; have r2 := hR3.cell 2; have f0 := hR3.frozen 0; have f1 := hR3.frozen 1; have f2 := hR3.frozen 2; have rl := hR3.lt; simp at r0 r1 r2; dsimp only)) | go_values | go_skip | go_guarded | go_step | go_upon | go_back)
    refine bodyPost_ret (v := .tuple #[.slice A n c, .agg #[.int .i64 2, .slice B m d, .slice C 1 k]]) (by simp [results, Tryz.results33, go_sem, r0, r1, r2, rl, size_set]) rfl ⟨_, rfl, ?_, ?_⟩
    · exact IsNo.boxed ⟨g1, B, m, d, C, k, rfl, hr1, hr2⟩ (Nat.le_succ _) hRl hz2 _ _ _
    · exact bset (bset (bset (bvia hb hb3) (Nat.le_succ _)) (Nat.le_succ _)) (Nat.le_succ _)
set_option maxRecDepth 20000 in
set_option maxHeartbeats 1000000 in
theorem refAdd_range (A : Option Addr) (n c : Nat) (i d0 : Int) (es : List El) (S S' : Nat → Prop) (w : World) (h : Row w S A n c es) (hi : i < 0 ∨ (n : Int) ≤ i) :
    Calls Tryz.prog 35 #[.slice A n c, .int .i64 i, .int .i64 d0] w fun r w' => ∃ v, r = .returned (.tuple #[.slice A n c, v]) ∧ IsNo w' (Fr w S') [⟨({ data := #[109, 111, 100, 101, 108] } : ByteArray), ({ data := #[65, 100, 100] } : ByteArray), atOf i⟩] 2 v ∧ Below w.heap.size w w' := by
  have hb : Below w.heap.size w (w.alloc (.cells #[.int .i64 0, .slice none 0 0, .slice none 0 0] 69)) := balloc (Below.refl _ _)
  have hR := Blk.new w 69 #[.int .i64 0, .slice none 0 0, .slice none 0 0]
  have HS := hid (fun W => say_any ({ data := #[109, 111, 100, 101, 108] } : ByteArray) ({ data := #[65, 100, 100] } : ByteArray) i 2 (by omega) (by omega) (fun b => S' b ∧ b < w.heap.size) W)
  rw [show ((2 : Nat) : Int) = 2 from rfl] at HS
  have hRl := hR.lt
  have hz2 := hb.size
  have key : i < 0 ∨ (¬ i < 0 ∧ i ≥ (n : Int)) := by omega
  clear h hi
  rcases key with h0 | ⟨h0, h1⟩
  all_goals
    go_enter Tryz.func35, Tryz.ntmps35
    repeat' (first | (go_at_call 67; go_must ((with_reducible refine Calls.mono (HS.out _) ?_); rintro _ w3 ⟨v, rfl, ⟨g1, B, m, d, C, k, rfl, hr1, hr2⟩, hb3⟩; have hR3 := (hR).step hb3; have r0 := hR3.cell 0; have r1 := hR3.cell 1; have r2 := hR3.cell 2; have f0 := hR3.frozen 0; have f1 := hR3.frozen 1; have f2 := hR3.frozen 2; have rl := hR3.lt; simp at r0 r1 r2; dsimp only)) | go_values | go_skip | go_guarded | go_step | go_upon | go_back)
    skip
    refine bodyPost_ret (v := .tuple #[.slice A n c, .agg #[.int .i64 2, .slice B m d, .slice C 1 k]]) (by simp [results, Tryz.results35, go_sem, r0, r1, r2, rl, size_set]) rfl ⟨_, rfl, ?_, ?_⟩
    · exact IsNo.boxed ⟨g1, B, m, d, C, k, rfl, hr1, hr2⟩ (Nat.le_refl _) hRl hz2 _ _ _
    · exact bset (bset (bset (bvia hb hb3) (Nat.le_refl _)) (Nat.le_refl _)) (Nat.le_refl _)
set_option maxRecDepth 20000 in
set_option maxHeartbeats 1000000 in
theorem refAdd_by (A : Option Addr) (n c i : Nat) (d0 : Int) (es : List El) (S S' : Nat → Prop) (w : World) (h : Row w S A n c es) (hi : i < n) (h1' : ¬ d0 = 1) (h2' : ¬ d0 = -1) :
    Calls Tryz.prog 35 #[.slice A n c, .int .i64 i, .int .i64 d0] w fun r w' => ∃ v, r = .returned (.tuple #[.slice A n c, v]) ∧ IsNo w' (Fr w S') [⟨({ data := #[109, 111, 100, 101, 108] } : ByteArray), ({ data := #[65, 100, 100] } : ByteArray), atOf i⟩] 1 v ∧ Below w.heap.size w w' := by
  have hb : Below w.heap.size w (w.alloc (.cells #[.int .i64 0, .slice none 0 0, .slice none 0 0] 69)) := balloc (Below.refl _ _)
  have hR := Blk.new w 69 #[.int .i64 0, .slice none 0 0, .slice none 0 0]
  have HS := hid (fun W => say_any ({ data := #[109, 111, 100, 101, 108] } : ByteArray) ({ data := #[65, 100, 100] } : ByteArray) i 1 (by omega) (by omega) (fun b => S' b ∧ b < w.heap.size) W)
  rw [show ((1 : Nat) : Int) = 1 from rfl] at HS
  have hRl := hR.lt
  have hz2 := hb.size
  have n1 : ¬ ((i : Int) ≥ n) := by omega
  have n2 : ¬ ((i : Int) < 0) := by omega
  clear h hi
  go_enter Tryz.func35, Tryz.ntmps35
  repeat' (first | (go_at_call 67; go_must ((with_reducible refine Calls.mono (HS.out _) ?_); rintro _ w3 ⟨v, rfl, ⟨g1, B, m, d, C, k, rfl, hr1, hr2⟩, hb3⟩; have hR3 := (hR).step hb3; have r0 := hR3.cell 0; have r1 := hR3.cell 1; have r2 := hR3.cell 2; have f0 := hR3.frozen 0; have f1 := hR3.frozen 1; have f2 := hR3.frozen 2; have rl := hR3.lt; simp at r0 r1 r2; dsimp only)) | go_values | go_skip | go_guarded | go_step | go_upon | go_back)
  skip
  refine bodyPost_ret (v := .tuple #[.slice A n c, .agg #[.int .i64 1, .slice B m d, .slice C 1 k]]) (by simp [results, Tryz.results35, go_sem, r0, r1, r2, rl, size_set]) rfl ⟨_, rfl, ?_, ?_⟩
  · exact IsNo.boxed ⟨g1, B, m, d, C, k, rfl, hr1, hr2⟩ (Nat.le_refl _) hRl hz2 _ _ _
  · exact bset (bset (bset (bvia hb hb3) (Nat.le_refl _)) (Nat.le_refl _)) (Nat.le_refl _)
end Go.Proofs.YtfihjajllfihjaaGreatDoor
