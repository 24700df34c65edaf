/- A stable sort of at most 30 anchors: the walks of stableCmpFunc and SortStableFunc. Conditions: the row is the call's own, of at most 30. The model's Purge: the walk. Conditions: the model lies in memory, its names are apart, fewer than 2^29 elements. The model's Index: the walk. Conditions: the model lies in memory, the name's numbers fit their kind, fewer than 2^29 elements. What a model refuses: the walks. Conditions: the model and the reasons lie in memory, fewer than 2^29 elements. What a tree refuses: the walks of Remove, Set, At, Before, Find and FindLine out of range. Conditions: the tree and the reasons lie in memory, fewer than 2^30 elements. What a tree's Before, Find and FindLine refuse; the document's Find: the walks. Conditions: tree, row and reasons lie in memory, fewer than 2^30 elements. -/
import Derived.Test.YtnpbbidiloahdaaDoorSSymM13
import Derived.Test.YtnpbbidiloahdaaDoorP15
import Derived.Test.YtnpbbidiloahdaaDoorP14
import Derived.Test.YtnpbbidiloahdaaDoorP10
namespace Go.Proofs.YtnpbbidiloahdaaDoor
set_option linter.unusedSimpArgs false
set_option linter.unusedVariables false
open Go Go.RowKit
set_option maxRecDepth 50000 in
theorem insertion_none (w : World) (A : Option Addr) (c : Nat) :
    Calls Tryd.prog 59 #[.slice A 0 c, .int .i64 0, .int .i64 0, .func (.func 18) #[] #[]] w fun e w' => e = .returned (.tuple #[]) ∧ w' = w := by
  go_enter Tryd.func59, Tryd.ntmps59
  repeat' (first | go_values | go_skip | go_guarded | go_step | go_upon | go_back)
  go_loopw [8] (fun i wr => i = .int .i64 1 ∧ wr = w) (fun _ _ => 0)
  case atStart => exact ⟨rfl, rfl⟩
  case round =>
    obtain ⟨rfl, rfl⟩ := hrel
    repeat' (first | go_values | go_skip | go_guarded | go_step | go_upon | go_back)
    skip
    go_end0
    exact ⟨rfl, rfl⟩
set_option maxRecDepth 50000 in
theorem stable_none (w : World) (A : Option Addr) (c : Nat) :
    Calls Tryd.prog 33 #[.slice A 0 c, .int .i64 0, .func (.func 18) #[] #[]] w fun e w' => e = .returned (.tuple #[]) ∧ w' = w := by
  have HI := hid (insertion_none w A c)
  go_enter Tryd.func33, Tryd.ntmps33
  repeat' (first | go_values | go_skip | go_guarded | go_step | go_upon | go_back)
  go_loopw [7, 8] (fun i j wr => i = .int .i64 0 ∧ j = .int .i64 20 ∧ wr = w) (fun _ _ _ => 0)
  case atStart => exact ⟨rfl, rfl, rfl⟩
  case round =>
    obtain ⟨rfl, rfl, rfl⟩ := hrel
    repeat' (first | (go_at_call 59; go_must ((with_reducible refine Calls.mono HI.out ?_); rintro _ w2 ⟨rfl, rfl⟩; dsimp only)) | go_values | go_skip | go_guarded | go_step | go_upon | go_back)
    go_loopw [6] (fun i wr => i = .int .i64 20 ∧ wr = w2) (fun _ _ => 0)
    case atStart => exact ⟨rfl, rfl⟩
    case round =>
      obtain ⟨rfl, rfl⟩ := hrel
      repeat' (first | go_values | go_skip | go_guarded | go_step | go_upon | go_back)
      skip
      go_end0
      exact ⟨rfl, rfl⟩
set_option maxRecDepth 50000 in
set_option maxHeartbeats 4000000 in
theorem stable_few (w : World) (base g n c : Nat) (L : List Pl) (h : PR w base g n c L) (hb : base ≤ w.heap.size) (hn : n < 20) :
    Calls Tryd.prog 33 #[.slice (some ⟨g, 0, none⟩) n c, .int .i64 n, .func (.func 18) #[] #[]] w fun e w' => e = .returned (.tuple #[]) ∧ (∃ X, StSort Pl.p L X ∧ PR w' base g n c X) ∧ Out (fun k => k = g) w w' := by
  have hl := h.1
  have HI := hid (insertion_any w base g n c 0 n [] L [] (by simpa using h) hb (by omega) rfl (by omega))
  have hn1 : ¬ (20 : Int) ≤ n := by omega
  have hn2 : ¬ (20 : Int) < n := by omega
  rw [show ((0 : Nat) : Int) = 0 from rfl] at HI
  clear h hl
  go_enter Tryd.func33, Tryd.ntmps33
  repeat' (first | go_values | go_skip | go_guarded | go_step | go_upon | go_back)
  go_loopw [7, 8] (fun i j wr => i = .int .i64 0 ∧ j = .int .i64 20 ∧ wr = w) (fun _ _ _ => 0)
  case atStart => exact ⟨rfl, rfl, rfl⟩
  case round =>
    obtain ⟨rfl, rfl, rfl⟩ := hrel
    repeat' (first | (go_at_call 59; go_must ((with_reducible refine Calls.mono HI.out ?_); rintro _ w2 ⟨rfl, ⟨X, hs, hown⟩, hO⟩; dsimp only)) | go_values | go_skip | go_guarded | go_step | go_upon | go_back)
    have Hs := hid (And.intro hs (And.intro hown hO))
    clear hs hown hO
    go_loopw [6] (fun i wr => i = .int .i64 20 ∧ wr = w2) (fun _ _ => 0)
    case atStart => exact ⟨rfl, rfl⟩
    case round =>
      obtain ⟨rfl, rfl⟩ := hrel
      repeat' (first | go_values | go_skip | go_guarded | go_step | go_upon | go_back)
      skip
      go_end0
      exact ⟨rfl, ⟨X, Hs.out.1, by simpa using Hs.out.2.1⟩, Hs.out.2.2⟩
set_option maxRecDepth 50000 in
set_option maxHeartbeats 4000000 in
theorem stable_more (w : World) (base g n c : Nat) (L : List Pl) (h : PR w base g n c L) (hb : base ≤ w.heap.size) (hn : n ≤ 30) (hn0 : 20 ≤ n) :
    Calls Tryd.prog 33 #[.slice (some ⟨g, 0, none⟩) n c, .int .i64 n, .func (.func 18) #[] #[]] w fun e w' => e = .returned (.tuple #[]) ∧ (∃ X, StSort Pl.p L X ∧ PR w' base g n c X) ∧ Out (fun k => k = g) w w' := by
  have hl := h.1
  have hn1 : (20 : Int) ≤ n := by omega
  have hn2 : ¬ (40 : Int) ≤ n := by omega
  have hn3 : ¬ (40 : Int) < n := by omega
  have hl1 : (L.take 20).length = 20 := by simp; omega
  have hl2 : (L.drop 20).length = n - 20 := by simp; omega
  have H0 : Hid (PR w base g n c (L.take 20 ++ L.drop 20)) := hid (by rw [List.take_append_drop]; exact h)
  have HL := hid (And.intro hl1 hl2)
  have HL1 : Hid (L.take 20 ++ L.drop 20 = L) := hid (List.take_append_drop _ _)
  generalize L.take 20 = A at *
  generalize L.drop 20 = B at *
  have HI := hid (insertion_any w base g n c 0 20 [] A B (by simpa using H0.out) hb (by omega) rfl (by omega))
  rw [show ((0 : Nat) : Int) = 0 from rfl, show ((20 : Nat) : Int) = 20 from rfl] at HI
  clear h hl hl1 hl2
  go_enter Tryd.func33, Tryd.ntmps33
  repeat' (first | go_values | go_skip | go_guarded | go_step | go_upon | go_back)
  go_loopw [7, 8] (fun i j wr => (i = .int .i64 0 ∧ j = .int .i64 20 ∧ wr = w) ∨ (i = .int .i64 20 ∧ j = .int .i64 40 ∧ (∃ X, StSort Pl.p A X ∧ PR wr base g n c (X ++ B)) ∧ Out (fun k => k = g) w wr)) (fun i _ _ => 40 - (intOf i).toNat)
  case atStart => exact .inl ⟨rfl, rfl, rfl⟩
  case round =>
    rcases hrel with ⟨rfl, rfl, rfl⟩ | ⟨rfl, rfl, ⟨X, hs, hown⟩, hO⟩
    · repeat' (first | (go_at_call 59; go_must ((with_reducible refine Calls.mono HI.out ?_); rintro _ w2 ⟨rfl, ⟨X, hs, hown⟩, hO⟩; dsimp only)) | go_values | go_skip | go_guarded | go_step | go_upon | go_back)
      go_roundw
      case rel => exact .inr ⟨rfl, rfl, ⟨X, hs, by simpa using hown⟩, hO⟩
      case measure => simp [intOf]
    · have HI2 := hid (insertion_any wr base g n c 20 n X B [] (by simpa using hown) (by have := hO.size; omega) (by omega) (by have := HL.out; have := hs.length; omega) (by have := HL.out; omega))
      rw [show ((20 : Nat) : Int) = 20 from rfl] at HI2
      have Hs := hid hs
      clear HI hs hown
      repeat' (first | (go_at_call 59; go_must ((with_reducible refine Calls.mono HI2.out ?_); rintro _ w2 ⟨rfl, ⟨Y, hs2, hown2⟩, hO2⟩; dsimp only)) | go_values | go_skip | go_guarded | go_step | go_upon | go_back)
      have Hs2 := hid (And.intro hs2 (And.intro hown2 (hO.trans hO2 fun _ _ h => h)))
      clear hs2 hown2 hO2 hO
      go_loopw [6] (fun i wr => (i = .int .i64 20 ∧ wr = w2) ∨ (i = .int .i64 40 ∧ (∃ X, StSort Pl.p L X ∧ PR wr base g n c X) ∧ Out (fun k => k = g) w wr)) (fun i _ => 40 - (intOf i).toNat)
      case atStart => exact .inl ⟨rfl, rfl⟩
      case round =>
        rcases hrel with ⟨rfl, rfl⟩ | ⟨rfl, ⟨Z, hs3, hown3⟩, hO3⟩
        · by_cases h20 : n = 20
          · have h20I : ¬ (20 : Int) < n := by omega
            have Hn := hid h20
            clear h20
            repeat' (first | go_values | go_skip | go_guarded | go_step | go_upon | go_back)
            skip
            go_end0
            refine ⟨rfl, ⟨X ++ Y, ?_, by simpa using Hs2.out.2.1⟩, Hs2.out.2.2⟩
            have hB : B = [] := List.eq_nil_of_length_eq_zero (by have := HL.out.2; have := Hn.out; omega)
            have hY : Y = [] := List.eq_nil_of_length_eq_zero (by rw [Hs2.out.1.length, hB]; rfl)
            rw [← HL1.out, hB, hY, List.append_nil, List.append_nil]
            exact Hs.out
          · have h20I : (20 : Int) < n := by omega
            have HM := hid (symMerge_any 30 wr base g n c 0 20 n [] X Y [] (by simpa using Hs2.out.2.1) (by have := Hs2.out.2.2.size; omega) (by omega) rfl (by have := Hs.out.length; have := HL.out; omega) (by have := Hs2.out.1.length; have := HL.out; omega) (by have := Hs.out.length; have := HL.out; omega) (by have := Hs2.out.1.length; have := HL.out; omega) Hs.out.ord Hs2.out.1.ord (by omega))
            rw [show ((0 : Nat) : Int) = 0 from rfl, show ((20 : Nat) : Int) = 20 from rfl] at HM
            clear h20
            repeat' (first | go_values | go_skip | go_guarded | go_step | go_upon | go_back)
            skip
            go_loopw [7, 8] (fun i j wq => i = .int .i64 0 ∧ j = .int .i64 40 ∧ wq = wr) (fun _ _ _ => 0)
            case atStart => exact ⟨rfl, rfl, rfl⟩
            case round =>
              obtain ⟨rfl, rfl, rfl⟩ := hrel
              repeat' (first | (go_at_call 60; go_must ((with_reducible refine Calls.mono HM.out ?_); rintro _ w3 ⟨rfl, ⟨Z, hs3, hown3⟩, hO3⟩; dsimp only)) | go_values | go_skip | go_guarded | go_step | go_upon | go_back)
              skip
              go_roundw
              case rel =>
                refine .inr ⟨rfl, ⟨Z, ?_, by simpa using hown3⟩, Hs2.out.2.2.trans hO3 fun _ _ h => h⟩
                have := StSort.both Hs.out Hs2.out.1 hs3
                rwa [HL1.out] at this
              case measure => simp [intOf]
        · have Hs3 := hid (And.intro hs3 (And.intro hown3 hO3))
          clear hs3 hown3 hO3
          repeat' (first | go_values | go_skip | go_guarded | go_step | go_upon | go_back)
          skip
          go_end0
          exact ⟨rfl, ⟨Z, Hs3.out.1, Hs3.out.2.1⟩, Hs3.out.2.2⟩
theorem sortStable_none (w : World) (A : Option Addr) (c : Nat) :
    Calls Tryd.prog 17 #[.slice A 0 c, .func (.func 18) #[] #[]] w fun e w' => e = .returned (.tuple #[]) ∧ w' = w := by
  have HI := hid (stable_none w A c)
  go_enter Tryd.func17, Tryd.ntmps17
  repeat' (first | (go_at_call 33; go_must ((with_reducible refine Calls.mono HI.out ?_); rintro _ w2 ⟨rfl, rfl⟩; dsimp only)) | go_values | go_skip | go_guarded | go_step | go_upon | go_back)
  skip
  go_end0
  exact ⟨rfl, rfl⟩
theorem sortStable_any (w : World) (base g n c : Nat) (L : List Pl) (h : PR w base g n c L) (hb : base ≤ w.heap.size) (hn : n ≤ 30) :
    Calls Tryd.prog 17 #[.slice (some ⟨g, 0, none⟩) n c, .func (.func 18) #[] #[]] w fun e w' => e = .returned (.tuple #[]) ∧ (∃ X, StSort Pl.p L X ∧ PR w' base g n c X) ∧ Out (fun k => k = g) w w' := by
  have HI : Hid (Calls Tryd.prog 33 #[.slice (some ⟨g, 0, none⟩) n c, .int .i64 n, .func (.func 18) #[] #[]] w fun e w' => e = .returned (.tuple #[]) ∧ (∃ X, StSort Pl.p L X ∧ PR w' base g n c X) ∧ Out (fun k => k = g) w w') := by
    rcases Nat.lt_or_ge n 20 with h20 | h20
    · exact hid (stable_few w base g n c L h hb h20)
    · exact hid (stable_more w base g n c L h hb hn h20)
  clear h
  go_enter Tryd.func17, Tryd.ntmps17
  repeat' (first | (go_at_call 33; go_must ((with_reducible refine Calls.mono HI.out ?_); rintro _ w2 ⟨rfl, hX, hO⟩; dsimp only)) | go_values | go_skip | go_guarded | go_step | go_upon | go_back)
  skip
  go_end0
  exact ⟨rfl, hX, hO⟩
end Go.Proofs.YtnpbbidiloahdaaDoor
namespace Go.Proofs.YtnpbbidiloahdaaDoor
set_option linter.unusedSimpArgs false
set_option linter.unusedVariables false
open Go Go.RowKit
theorem But.turn_ {w A B : World} {x base : Nat} {t : TypeId} (h : But x w A) (hT : Turn t base A B) (hb : w.heap.size ≤ base) : But x w B :=
  ⟨hT.os.trans h.os, hT.tape.trans h.tape, hT.output.trans h.output, Nat.le_trans h.size hT.size, fun k hk h1 => (hT.low k (Nat.lt_of_lt_of_le hk h.size) (by omega)).trans (h.block k hk h1)⟩
/-- the names that are left -/
def leftNm (l : List El) (pre : List El) : List Nm := (l.map El.nm).filter fun j => decide (j ∉ (deadOf pre).map El.nm)
/-- what the loop keeps -/
def PurgeAt (w Z : World) (mb gm K : Nat) (l pre : List El) (W : World) : Prop :=
  ∃ A c, Blk W w.heap.size 24 #[.pointer (some ⟨mb, 0, none⟩)] ∧ Blk W (w.heap.size + 1) 22 #[.slice A (purgeOf pre).length c] ∧ Own W Z.heap.size A (purgeOf pre).length c (purgeOf pre) ∧ IsIds W gm K (leftNm l pre) ∧ But gm w W
theorem PurgeAt.turn {w Z A B : World} {mb gm K : Nat} {l pre : List El} (h : PurgeAt w Z mb gm K l pre A) (hT : Turn 3 Z.heap.size A B) (hz : w.heap.size + 1 < Z.heap.size) (hg : gm < w.heap.size) : PurgeAt w Z mb gm K l pre B := by
  obtain ⟨A', c, g0, g1, g2, g3, g4⟩ := h
  exact ⟨A', c, g0.turn hT (by omega), g1.turn hT hz, g2.turn hT, g3.heap (hT.low _ g3.lt (by omega)), g4.turn_ hT (by omega)⟩
end Go.Proofs.YtnpbbidiloahdaaDoor
namespace Go.Proofs.YtnpbbidiloahdaaDoor
set_option linter.unusedSimpArgs false
set_option linter.unusedVariables false
open Go Go.RowKit
/-- what the loop keeps: the boxes of the name and of the two results -/
def IxAt (w : World) (id : Nm) (k : Int) (b : Bool) (W : World) : Prop :=
  Blk W w.heap.size 30 #[.int .i64 id.epoch, .int .i64 id.rep, .int .i64 id.num] ∧ Blk W (w.heap.size + 1) 3 #[.int .i64 k] ∧ Blk W (w.heap.size + 2) 4 #[.bool b] ∧ Below w.heap.size w W
theorem IxAt.turn {w A B : World} {id : Nm} {k : Int} {b : Bool} {base : Nat} (h : IxAt w id k b A) (hT : Turn 3 base A B) (hz : w.heap.size + 2 < base) : IxAt w id k b B :=
  ⟨h.1.turn hT (by omega), h.2.1.turn hT (by omega), h.2.2.1.turn hT hz, below_turn h.2.2.2 hT (by omega) (Nat.le_refl _)⟩
theorem IxAt.step {w A B : World} {id : Nm} {k : Int} {b : Bool} (h : IxAt w id k b A) (hb : Below A.heap.size A B) : IxAt w id k b B :=
  ⟨h.1.step hb, h.2.1.step hb, h.2.2.1.step hb, bvia h.2.2.2 hb⟩
theorem IxAt.begun {w A B : World} {id : Nm} {k : Int} {b : Bool} {l : Nat} (h : IxAt w id k b A) (hB : Begun l A B) (hl : w.heap.size + 2 < l) : IxAt w id k b B :=
  ⟨hB.blk h.1, hB.blk h.2.1, hB.blk h.2.2.1, below_begun h.2.2.2 hB (by omega)⟩
def IX_W0 (w : World) (id : Nm) : World := ((w.alloc (.cells #[.int .i64 id.epoch, .int .i64 id.rep, .int .i64 id.num] 30)).alloc (.cells #[.int .i64 0] 3)).alloc (.cells #[.bool false] 4)
theorem ix_w0 (w : World) (id : Nm) : IxAt w id 0 false (IX_W0 w id) ∧ (IX_W0 w id).heap.size = w.heap.size + 3 := by
  have s0 : (w.alloc (.cells #[.int .i64 id.epoch, .int .i64 id.rep, .int .i64 id.num] 30)).heap.size = w.heap.size + 1 := Array.size_push _
  have s1 : ((w.alloc (.cells #[.int .i64 id.epoch, .int .i64 id.rep, .int .i64 id.num] 30)).alloc (.cells #[.int .i64 0] 3)).heap.size = w.heap.size + 2 := by rw [show ((w.alloc (.cells #[.int .i64 id.epoch, .int .i64 id.rep, .int .i64 id.num] 30)).alloc (.cells #[.int .i64 0] 3)).heap.size = (w.alloc (.cells #[.int .i64 id.epoch, .int .i64 id.rep, .int .i64 id.num] 30)).heap.size + 1 from Array.size_push _, s0]
  have s2 : (IX_W0 w id).heap.size = w.heap.size + 3 := by rw [show (IX_W0 w id).heap.size = ((w.alloc (.cells #[.int .i64 id.epoch, .int .i64 id.rep, .int .i64 id.num] 30)).alloc (.cells #[.int .i64 0] 3)).heap.size + 1 from Array.size_push _, s1]
  have e0 := balloc (o := .cells #[.int .i64 0] 3) (Below.refl _ (w.alloc (.cells #[.int .i64 id.epoch, .int .i64 id.rep, .int .i64 id.num] 30)))
  have e1 := balloc (o := .cells #[.bool false] 4) (Below.refl _ ((w.alloc (.cells #[.int .i64 id.epoch, .int .i64 id.rep, .int .i64 id.num] 30)).alloc (.cells #[.int .i64 0] 3)))
  have h0 := ((Blk.new w 30 #[.int .i64 id.epoch, .int .i64 id.rep, .int .i64 id.num]).step e0).step e1
  have h1 := (Blk.new (w.alloc (.cells #[.int .i64 id.epoch, .int .i64 id.rep, .int .i64 id.num] 30)) 3 #[.int .i64 0]).step e1
  have h2 := Blk.new ((w.alloc (.cells #[.int .i64 id.epoch, .int .i64 id.rep, .int .i64 id.num] 30)).alloc (.cells #[.int .i64 0] 3)) 4 #[.bool false]
  rw [s0] at h1
  rw [s1] at h2
  exact ⟨⟨h0, h1, h2, balloc (balloc (balloc (Below.refl _ _)))⟩, s2⟩
set_option maxRecDepth 50000 in
set_option maxHeartbeats 4000000 in
theorem mindex_no (w : World) (S : Nat → Prop) (mb : Nat) (l : List El) (K : Nat) (id : Nm) (h : Mdl w S mb l K) (hid_ : id.In) (hno : id ∉ l.map El.nm) :
    Calls Tryd.prog 31 #[.pointer (some ⟨mb, 0, none⟩), .agg #[.int .i64 id.epoch, .int .i64 id.rep, .int .i64 id.num]] w fun r w' => r = .returned (.tuple #[.int .i64 0, .bool false]) ∧ Below w.heap.size w w' := by
  obtain ⟨gt, gm, p, T, h1, h2, h3, rfl, h5, h6, h7, h8, h9⟩ := h
  obtain ⟨h0, s0⟩ := ix_w0 w id
  have hb0 := h0.2.2.2
  have m1 := (h1.step hb0).cell 1
  have ml := (h1.step hb0).lt
  simp at m1
  have hI0 := h5.heap (hb0.block _ h5.lt)
  have q1 := hI0.drew.ask id hid_
  have q2 := (hI0.heap (w' := ((IX_W0 w id).alloc (.cells #[] 74)).drew) (Below.heap_alloc _ _ _ hI0.lt)).ask id hid_
  rw [decide_eq_false hno] at q1 q2
  simp only [Nm.val] at q1 q2
  have H0 := hid h0
  have x0 := h0.1.cell 0
  have x1 := h0.1.cell 1
  have x2 := h0.1.cell 2
  have k0 := h0.2.1.cell 0
  have b0 := h0.2.2.1.cell 0
  have kf := h0.2.1.frozen 0
  have bf := h0.2.2.1.frozen 0
  simp at x0 x1 x2 k0 b0
  clear h9 h5 hI0 hno
  go_enter Tryd.func31, Tryd.ntmps31
  repeat' (first | (with_reducible refine stop_region 1 ?_) | go_values | go_skip | go_guarded | go_step | go_upon | go_back)
  refine Stop.go ?_
  change Code.wp _ _ _ _ (IX_W0 w id)
  rw [show w.heap.size + 1 + 1 = w.heap.size + 2 from rfl]
  generalize IX_W0 w id = W0 at *
  have hl3 : w.heap.size + 2 < W0.heap.size := by omega
  have hl4 : w.heap.size + 1 < W0.heap.size := by omega
  have hl5 : w.heap.size < W0.heap.size := by omega
  repeat' (first | ((with_reducible refine region_at 1 ?_); refine wp_region_ordT (fun _ => True) (.one 0 true false (.one 1 true false (.one 2 true false (.one 3 true false (.one 4 true false (.one 5 true false (.two 6 10 (.one 7 true false (.one 8 true false (.one 9 true false (.one 10 false false (.one 11 false true (.one 12 true false .nil)))))) (.one 6 false false (.one 7 true false (.one 8 true false (.one 9 true false (.one 11 false true (.one 12 true false .nil))))))))))))) (by kernel_rfl) (by kernel_rfl) (by kernel_rfl) rfl rfl ?_) | (with_reducible refine Keep.allocD ?_) | (with_reducible refine Keep.last ?_) | (with_reducible refine Keep.below (by assumption) ?_) | (with_reducible refine Keep.kept (by assumption) ?_) | (with_reducible refine Keep.alloc ?_) | (with_reducible refine Keep.same ?_) | ((with_reducible refine WpH.here ?_); first | (refine WpH.nil ?_; refine NoP.normal ?_) | (refine WpH.load (by rfl) (by rfl) (by go_simp; rfl) ?_; simp only [Act.put, List.setIfInBounds_toArray, List.set_cons_zero, List.set_cons_succ]) | (refine WpH.loadT (by rfl) (by rfl) (by go_simp; rfl) (by rintro _ _ ⟨⟩; exact ⟨_, _, _, _, _, _, by rfl, by assumption, by assumption⟩) ?_; simp only [Act.put, List.setIfInBounds_toArray, List.set_cons_zero, List.set_cons_succ]) | (refine WpH.pure (by rfl) (fun w_ => by go_simp; (try go_bits); rfl) ?_; simp only [Act.put, List.setIfInBounds_toArray, List.set_cons_zero, List.set_cons_succ]) | (refine WpH.wild1 (by rfl) (fun _ _ => ?_)) | (refine WpH.skip (by rfl) ?_; simp only [Act.put, List.setIfInBounds_toArray, List.set_cons_zero, List.set_cons_succ])) | ((with_reducible refine WpO.here ?_); first | (refine WpO.done ?_; first | refine NoP.normal ?_ | refine NoO.normal ?_) | (refine WpO.load (by rfl) (by rfl) (by go_simp; rfl) ?_; simp only [Act.put, List.setIfInBounds_toArray, List.set_cons_zero, List.set_cons_succ]) | (refine WpO.loadT (by rfl) (by rfl) (by go_simp; rfl) (by rintro _ _ ⟨⟩; exact ⟨_, _, _, _, _, _, by rfl, by assumption, by assumption⟩) ?_; simp only [Act.put, List.setIfInBounds_toArray, List.set_cons_zero, List.set_cons_succ]) | (refine WpO.pure (by rfl) (fun w_ => by go_simp; (try go_bits); rfl) ?_; simp only [Act.put, List.setIfInBounds_toArray, List.set_cons_zero, List.set_cons_succ]) | (refine WpO.skip (by rfl) ?_; simp only [Act.put, List.setIfInBounds_toArray, List.set_cons_zero, List.set_cons_succ]) | refine WpO.wild ?_ | refine WpO.two ?_ ?_ | refine WpO.three ?_ ?_ ?_) | ((with_reducible refine wildO.here ?_); first | (refine wildO.go (by rfl) (fun _ _ => ?_)) | (refine wildO.skip (by rfl) ?_; simp only [Act.put, List.setIfInBounds_toArray, List.set_cons_zero, List.set_cons_succ])) | go_values | go_skip | go_guarded | go_step | go_upon | go_back)
  skip
  all_goals
    refine bodyPost_ret (v := .tuple #[.int .i64 0, .bool false]) (by simp [results, Tryd.results31, go_sem, k0, b0, hl3, hl4, size_set]) rfl ⟨rfl, ?_⟩
    exact (balloc (bset (bset hb0 (Nat.le_succ _)) (by show w.heap.size ≤ w.heap.size + 2; omega))).drew
/-- a name that is there: where the iterator is -/
def IxDone (w : World) (id : Nm) (l : List El) (c : Code) (pre : List (El × Nat)) (W : World) : Prop :=
  c = .ret ∧ ∃ k : Nat, ixOf l id = some k ∧ IxAt w id k true W
set_option maxRecDepth 50000 in
set_option maxHeartbeats 8000000 in
theorem mindex_ok (w : World) (S : Nat → Prop) (mb : Nat) (l : List El) (K : Nat) (id : Nm) (h : Mdl w S mb l K) (hl : l.length ≤ 536870912) (hid_ : id.In) (hyes : id ∈ l.map El.nm) :
    Calls Tryd.prog 31 #[.pointer (some ⟨mb, 0, none⟩), .agg #[.int .i64 id.epoch, .int .i64 id.rep, .int .i64 id.num]] w fun r w' => (∃ k : Nat, r = .returned (.tuple #[.int .i64 k, .bool true]) ∧ ixOf l id = some k) ∧ Below w.heap.size w w' := by
  obtain ⟨gt, gm, p, T, h1, h2, h3, rfl, h5, h6, h7, h8, h9⟩ := h
  obtain ⟨h0, s0⟩ := ix_w0 w id
  have hb0 := h0.2.2.2
  have m1 := (h1.step hb0).cell 1
  have ml := (h1.step hb0).lt
  simp at m1
  have hI0 := h5.heap (hb0.block _ h5.lt)
  have q1 := hI0.drew.ask id hid_
  have q2 := (hI0.heap (w' := ((IX_W0 w id).alloc (.cells #[] 74)).drew) (Below.heap_alloc _ _ _ hI0.lt)).ask id hid_
  rw [decide_eq_true hyes] at q1 q2
  simp only [Nm.val] at q1 q2
  have H0 := hid h0
  have x0 := h0.1.cell 0
  have x1 := h0.1.cell 1
  have x2 := h0.1.cell 2
  simp at x0 x1 x2
  have Hyes := hid hyes
  have hb00 := hid hb0
  clear h9 h5 hI0 hyes
  refine calls_of_marks Tryd.func31 rfl ?_
  simp only [Tryd.ntmps31, List.size_toArray, List.length_cons, List.length_nil, Nat.reduceAdd, Nat.reduceSub, Array.replicate_succ, Array.replicate_zero, List.push_toArray, List.append_toArray, List.nil_append, List.cons_append]
  repeat' (first | (with_reducible refine stop_region 1 ?_) | go_values | go_skip | go_guarded | go_step | go_upon | go_back)
  refine Stop.go ?_
  change Code.wp _ _ _ _ (IX_W0 w id)
  rw [show w.heap.size + 1 + 1 = w.heap.size + 2 from rfl]
  generalize IX_W0 w id = W0 at *
  have hl3 : w.heap.size + 2 < W0.heap.size := by omega
  have hl4 : w.heap.size + 1 < W0.heap.size := by omega
  have hl5 : w.heap.size < W0.heap.size := by omega
  have eS : Below W0.heap.size W0 (W0.alloc (.cells #[] 74)).drew := (balloc (Below.refl _ _)).drew
  have sS : (W0.alloc (.cells #[] 74)).drew.heap.size = W0.heap.size + 1 := Array.size_push _
  have m0 := ((h1.step hb0).step eS).cell 0
  have ml2 := ((h1.step hb0).step eS).lt
  simp at m0
  repeat' (first | ((with_reducible refine region_at 1 ?_); refine wp_region_ordT (fun _ => True) (.one 0 true false (.one 1 true false (.one 2 true false (.one 3 true false (.one 4 true false (.one 5 true false (.two 6 10 (.one 7 true false (.one 8 true false (.one 9 true false (.one 10 false false (.one 11 false true (.one 12 true false .nil)))))) (.one 6 false false (.one 7 true false (.one 8 true false (.one 9 true false (.one 11 false true (.one 12 true false .nil))))))))))))) (by kernel_rfl) (by kernel_rfl) (by kernel_rfl) rfl rfl ?_) | (with_reducible refine Keep.allocD ?_) | (go_at_call 55; go_must ((with_reducible refine Calls.mono (all_any gt _) ?_); rintro _ _ ⟨rfl, rfl⟩; dsimp only)) | (with_reducible refine stop_block 0 ?_) | (with_reducible refine Keep.last ?_) | (with_reducible refine Keep.below (by assumption) ?_) | (with_reducible refine Keep.kept (by assumption) ?_) | (with_reducible refine Keep.alloc ?_) | (with_reducible refine Keep.same ?_) | ((with_reducible refine WpH.here ?_); first | (refine WpH.nil ?_; refine NoP.normal ?_) | (refine WpH.load (by rfl) (by rfl) (by go_simp; rfl) ?_; simp only [Act.put, List.setIfInBounds_toArray, List.set_cons_zero, List.set_cons_succ]) | (refine WpH.loadT (by rfl) (by rfl) (by go_simp; rfl) (by rintro _ _ ⟨⟩; exact ⟨_, _, _, _, _, _, by rfl, by assumption, by assumption⟩) ?_; simp only [Act.put, List.setIfInBounds_toArray, List.set_cons_zero, List.set_cons_succ]) | (refine WpH.pure (by rfl) (fun w_ => by go_simp; (try go_bits); rfl) ?_; simp only [Act.put, List.setIfInBounds_toArray, List.set_cons_zero, List.set_cons_succ]) | (refine WpH.wild1 (by rfl) (fun _ _ => ?_)) | (refine WpH.skip (by rfl) ?_; simp only [Act.put, List.setIfInBounds_toArray, List.set_cons_zero, List.set_cons_succ])) | ((with_reducible refine WpO.here ?_); first | (refine WpO.done ?_; first | refine NoP.normal ?_ | refine NoO.normal ?_) | (refine WpO.load (by rfl) (by rfl) (by go_simp; rfl) ?_; simp only [Act.put, List.setIfInBounds_toArray, List.set_cons_zero, List.set_cons_succ]) | (refine WpO.loadT (by rfl) (by rfl) (by go_simp; rfl) (by rintro _ _ ⟨⟩; exact ⟨_, _, _, _, _, _, by rfl, by assumption, by assumption⟩) ?_; simp only [Act.put, List.setIfInBounds_toArray, List.set_cons_zero, List.set_cons_succ]) | (refine WpO.pure (by rfl) (fun w_ => by go_simp; (try go_bits); rfl) ?_; simp only [Act.put, List.setIfInBounds_toArray, List.set_cons_zero, List.set_cons_succ]) | (refine WpO.skip (by rfl) ?_; simp only [Act.put, List.setIfInBounds_toArray, List.set_cons_zero, List.set_cons_succ]) | refine WpO.wild ?_ | refine WpO.two ?_ ?_ | refine WpO.three ?_ ?_ ?_) | ((with_reducible refine wildO.here ?_); first | (refine wildO.go (by rfl) (fun _ _ => ?_)) | (refine wildO.skip (by rfl) ?_; simp only [Act.put, List.setIfInBounds_toArray, List.set_cons_zero, List.set_cons_succ])) | go_values | go_skip | go_guarded | go_step | go_upon | go_back)
  all_goals
    refine Stop.go ?_
    have H0Z := hid (H0.out.step eS)
    have htS := (h2.step hb0).step eS
    have hTS := ((h3.more (S' := fun b => b < w.heap.size) fun b hl _ => hl).step hb0).step eS
    clear m1 ml x0 x1 x2 q1 q2 m0 ml2
    generalize (W0.alloc (.cells #[] 74)).drew = Z0 at *
    have hga := Blk.new Z0 75 #[.pointer (some ⟨gt, 0, none⟩)]
    have eZ := balloc (o := .cells #[.pointer (some ⟨gt, 0, none⟩)] 75) (Below.refl _ Z0)
    have h0Z := H0Z.out.step eZ
    have htZ := htS.step eZ
    have hTZ := hTS.step eZ
    have hgaZ := hga.lt
    generalize Z0.alloc (.cells #[.pointer (some ⟨gt, 0, none⟩)] 75) = Z at *
    have hzz : w.heap.size + 2 < Z.heap.size := by omega
    clear htS hTS eZ eS H0Z
    refine wp_block (wp_rangeFunc 3 (gf := 75) (lb := #[.pointer (some ⟨Z0.heap.size, 0, none⟩)]) rfl (enters_fn Tryd.func75 (by kernel_rfl) rfl)
      (allSeq T p gt Z0.heap.size 64 (fun b => b < w.heap.size) Z hga htZ hTZ (by omega)) (fun h k => h.trans k) (fun W l o o' hl h hc => KpT.putObj W l o o' hl h hc) (fun _ => rfl)
      (fun (pre : List (El × Nat)) W => id ∉ (pre.map Prod.fst).map El.nm ∧ IxAt w id 0 false W)
      (IxDone w id T.all)
      (fun s A B h hT => ⟨h.1, h.2.turn hT hzz⟩)
      (fun c s A B h hT => ⟨h.1, h.2.imp fun k hk => ⟨hk.1, hk.2.turn hT hzz⟩⟩)
      ⟨by simp, h0Z⟩ ?round ?done ?stop)
    case round =>
      rintro ll pre ⟨e, i⟩ W hll ⟨rc, hrc⟩ ⟨g0, g1⟩ hG
      obtain ⟨hi, he, hlt⟩ := zipIdx_prefix hG
      simp only at hi he
      subst hi
      simp only [elNum, El.agg, putArgs2, List.setIfInBounds_toArray, List.set_cons_zero, List.set_cons_succ]
      repeat' (first | ((with_reducible refine regionIn_ff ?_); refine wpIn_region_r rfl ?_) | go_values | go_skip | go_guarded | go_step | go_upon | go_back | (with_reducible refine NoO.normal ?_) | gi_step | gi_upon)
      have eW : Below W.heap.size W (W.alloc (.cells #[.int .i64 e.epoch, .int .i64 e.rep, .int .i64 e.num, .int .i32 e.char, .int .i64 e.hides] 48)) := (Below.refl _ _).alloc (Nat.le_refl _) _
      refine ⟨KeepN.of_below eW, KpT.of_below eW, fun W2 hB2 => ?_⟩
      have k1 := (g1.step eW).begun hB2 (by omega)
      have hx2 := hB2.blk (Blk.new W 48 #[.int .i64 e.epoch, .int .i64 e.rep, .int .i64 e.num, .int .i32 e.char, .int .i64 e.hides])
      generalize W.heap.size = xb at *
      have hmap : (pre ++ [(e, pre.length)]).map Prod.fst = pre.map Prod.fst ++ [e] := by simp
      have htk : T.all.take pre.length = pre.map Prod.fst := by
        obtain ⟨r, hr⟩ := hG
        have h1 := congrArg (List.map Prod.fst) hr
        rw [List.map_append, List.map_append, List.append_assoc] at h1
        rw [show T.all.zipIdx.map Prod.fst = T.all from by simp] at h1
        rw [← h1, List.take_append_of_le_length (by simp), List.take_of_length_le (by simp)]
      have Hm := hid (And.intro hmap (And.intro htk (And.intro g0 (And.intro he k1))))
      obtain ⟨x0, x1, x2, x3, x4, xl⟩ := Blk.five hx2
      have y0 := k1.1.cell 0
      have y1 := k1.1.cell 1
      have y2 := k1.1.cell 2
      have yl := k1.1.lt
      have r0 := k1.2.1.cell 0
      have r1 := k1.2.2.1.cell 0
      have f0 := k1.2.1.frozen 0
      have f1 := k1.2.2.1.frozen 0
      have rl0 := k1.2.1.lt
      have rl1 := k1.2.2.1.lt
      simp at y0 y1 y2 r0 r1
      clear hmap htk hG g0 g1 eW hB2 hrc he hx2 k1
      have hnext : ¬ e.nm = id → id ∉ ((pre ++ [(e, pre.length)]).map Prod.fst).map El.nm := fun hn hmem => by
        rw [Hm.out.1, List.map_append, List.mem_append] at hmem
        rcases hmem with hmem | hmem
        · exact Hm.out.2.2.1 hmem
        · have h' : id = e.nm := by simpa using hmem
          exact hn h'.symm
      have Hnext := hid hnext
      clear hnext
      by_cases h0 : e.epoch = id.epoch
      · by_cases h1 : e.rep = id.rep
        · by_cases h2 : e.num = id.num
          · have hin : e.nm = id := by cases id; simp only [El.nm] at *; rw [h0, h1, h2]
            have Hin := hid hin
            clear hin Hnext
            rw [h0] at x0
            rw [h1] at x1
            rw [h2] at x2
            clear h0 h1 h2
            repeat' (first | ((with_reducible refine regionIn_ff ?_); refine wpIn_region_r rfl ?_) | go_values | go_skip | go_guarded | go_step | go_upon | go_back | (with_reducible refine NoO.normal ?_) | gi_step | gi_upon)
            skip
            refine ⟨(KeepN.setCell r0).trans (KeepN.setCell (v := .bool false) (by simpa [go_sem] using r1)), rfl, pre.length, ?_, ?_⟩
            · exact ixOf_some Hm.out.2.2.2.1 Hin.out (by rw [Hm.out.2.1]; exact Hm.out.2.2.1)
            · obtain ⟨j0, j1, j2, j3⟩ := Hm.out.2.2.2.2
              exact ⟨((j0.far (show w.heap.size ≠ w.heap.size + 1 by omega) _).far (show w.heap.size ≠ w.heap.size + 2 by omega) _), (j1.set_ 0 _).far (show w.heap.size + 1 ≠ w.heap.size + 2 by omega) _, (j2.far (show w.heap.size + 2 ≠ w.heap.size + 1 by omega) _).set_ 0 _, bset (bset j3 (by show w.heap.size ≤ w.heap.size + 1; omega)) (by show w.heap.size ≤ w.heap.size + 2; omega)⟩
          · have hmm := hid (Hnext.out fun h => h2 (congrArg Nm.num h))
            rw [h0] at x0
            rw [h1] at x1
            clear h0 h1 Hnext
            have h2' : (e.num == id.num) = false := by simpa using h2
            repeat' (first | ((with_reducible refine regionIn_ff ?_); refine wpIn_region_r rfl ?_) | go_values | go_skip | go_guarded | go_step | go_upon | go_back | (with_reducible refine NoO.normal ?_) | gi_step | gi_upon)
            exact ⟨KeepN.refl _ _, KpT.refl _ _ _, hmm.out, Hm.out.2.2.2.2⟩
        · have hmm := hid (Hnext.out fun h => h1 (congrArg Nm.rep h))
          rw [h0] at x0
          clear h0 Hnext
          have h1' : (e.rep == id.rep) = false := by simpa using h1
          repeat' (first | ((with_reducible refine regionIn_ff ?_); refine wpIn_region_r rfl ?_) | go_values | go_skip | go_guarded | go_step | go_upon | go_back | (with_reducible refine NoO.normal ?_) | gi_step | gi_upon)
          exact ⟨KeepN.refl _ _, KpT.refl _ _ _, hmm.out, Hm.out.2.2.2.2⟩
      · have hmm := hid (Hnext.out fun h => h0 (congrArg Nm.epoch h))
        clear Hnext
        have h0' : (e.epoch == id.epoch) = false := by simpa using h0
        repeat' (first | ((with_reducible refine regionIn_ff ?_); refine wpIn_region_r rfl ?_) | go_values | go_skip | go_guarded | go_step | go_upon | go_back | (with_reducible refine NoO.normal ?_) | gi_step | gi_upon)
        exact ⟨KeepN.refl _ _, KpT.refl _ _ _, hmm.out, Hm.out.2.2.2.2⟩
    case done =>
      rintro D xs W hD rfl ⟨g0, g1⟩ hK
      rw [show T.all.zipIdx.map Prod.fst = T.all from by simp] at g0
      exact absurd Hyes.out g0
    case stop =>
      rintro D c pre W hD ⟨rfl, k, hk, g1⟩ hK
      have r0 := g1.2.1.cell 0
      have r1 := g1.2.2.1.cell 0
      have rl0 := g1.2.1.lt
      have rl1 := g1.2.2.1.lt
      simp at r0 r1
      repeat' (first | go_values | go_skip | go_guarded | go_step | go_upon | go_back)
      have p1 : (W.putObj D (.deferred none)).cell? ⟨w.heap.size + 1, 0, none⟩ = some (.int .i64 k) := (World.cell?_of_block (World.putObj_heap_other (by show w.heap.size + 1 ≠ D; omega))).trans r0
      have p2 : (W.putObj D (.deferred none)).cell? ⟨w.heap.size + 2, 0, none⟩ = some (.bool true) := (World.cell?_of_block (World.putObj_heap_other (by show w.heap.size + 2 ≠ D; omega))).trans r1
      refine leaves1 hK (v := .tuple #[.int .i64 k, .bool true]) (by rintro w' rfl; simp [results, Tryd.results31, go_sem, p1, p2]) ⟨⟨k, rfl, hk⟩, ?_⟩
      have g3 := g1.2.2.2
      exact ⟨g3.os, g3.tape, g3.output, by simpa using g3.size, fun b hb => (World.putObj_heap_other (by omega)).trans (g3.block b hb)⟩
end Go.Proofs.YtnpbbidiloahdaaDoor
namespace Go.Proofs.YtnpbbidiloahdaaDoor
set_option linter.unusedSimpArgs false
set_option linter.unusedVariables false
open Go Go.RowKit
variable {S : Nat → Prop} {a : Nat → Addr}
/-- one place laid ahead of a refusal -/
theorem new_err (l c : ByteArray) (n : Int) (ch : List Lk) (code : Nat) (e : Value) (w : World) (h : IsErr w S a ch code e) :
    Calls Tryd.prog 28 #[.string l, .string c, .int .i64 n, e] w fun r w' => ∃ v, r = .returned v ∧ IsErr w' (Fr w S) a (⟨l, c, atOf n⟩ :: ch) code v ∧ Below w.heap.size w w' := by
  obtain ⟨t, x, rfl⟩ := h.notNil
  refine (new_any l c n t (some x) w).mono ?_
  rintro _ w' ⟨g, rfl, hg, hb, hbb⟩
  rw [atOf_new] at hb
  exact ⟨_, rfl, ⟨g, _, rfl, .inr hg, hb, (h.step hbb).more fun _ _ h => .inl h⟩, hbb⟩
end Go.Proofs.YtnpbbidiloahdaaDoor
namespace Go.Proofs.YtnpbbidiloahdaaDoor
set_option linter.unusedSimpArgs false
set_option linter.unusedVariables false
open Go Go.RowKit
variable {S' : Nat → Prop} {a : Nat → Addr}
end Go.Proofs.YtnpbbidiloahdaaDoor
namespace Go.Proofs.YtnpbbidiloahdaaDoor
set_option linter.unusedSimpArgs false
set_option linter.unusedVariables false
open Go Go.RowKit
variable {a : Nat → Addr}
theorem KeepT.set5 (w : World) (g : Nat) (x0 x1 x2 x3 x4 : Value) : KeepT (fun b => b ≠ g) w (((((w.setCell ⟨g, 0, none⟩ x0).setCell ⟨g, 1, none⟩ x1).setCell ⟨g, 2, none⟩ x2).setCell ⟨g, 3, none⟩ x3).setCell ⟨g, 4, none⟩ x4) :=
  ⟨by simp [World.setCell], fun b _ hb => (Below.heap_setCell _ _ _ _ hb).trans ((Below.heap_setCell _ _ _ _ hb).trans ((Below.heap_setCell _ _ _ _ hb).trans ((Below.heap_setCell _ _ _ _ hb).trans (Below.heap_setCell _ _ _ _ hb))))⟩
end Go.Proofs.YtnpbbidiloahdaaDoor
namespace Go.Proofs.YtnpbbidiloahdaaDoor
set_option linter.unusedSimpArgs false
set_option linter.unusedVariables false
open Go Go.RowKit
variable {a : Nat → Addr}
end Go.Proofs.YtnpbbidiloahdaaDoor
