/- Chapter 13's At, Where, Rebase over a model: the walks. Conditions: the model and the reasons lie in memory, the anchor's numbers fit their kinds, fewer than 2^29 elements. Chapter 13's start: a model of those elements that it takes; its wakes. Conditions: the row and the reasons lie in memory, names' numbers fit their kind. -/
import Derived.Test.YtnpbbidiloahdaaDoorP20
import Derived.Test.YtnpbbidiloahdaaDoorP21
namespace Go.Proofs.YtnpbbidiloahdaaDoor
set_option linter.unusedSimpArgs false
set_option linter.unusedVariables false
open Go Go.RowKit
variable {a : Nat → Addr}
def ancAgg (x : Anc) : Value := .agg #[.bool x.front, .int .i64 x.id.epoch, .int .i64 x.id.rep, .int .i64 x.id.num]
theorem gapOf_zero (l : List El) : gapOf l 0 = ⟨true, ⟨0, 0, 0⟩⟩ := if_pos rfl
set_option maxRecDepth 50000 in
set_option maxHeartbeats 2000000 in
theorem gap_any (w : World) (S : Nat → Prop) (mb : Nat) (l : List El) (K p : Nat) (h : Mdl w S mb l K) (hl : l.length ≤ 536870912) (hp : p ≤ liveOf l) :
    Calls Tryd.prog 36 #[.pointer (some ⟨mb, 0, none⟩), .int .i64 p] w fun e w' => e = .returned (ancAgg (gapOf l p)) ∧ Below w.heap.size w w' := by
  by_cases h0 : p = 0
  · subst h0
    rw [gapOf_zero]
    clear h hp
    go_enter Tryd.func36, Tryd.ntmps36
    repeat' (first | go_values | go_skip | go_guarded | go_step | go_upon | go_back)
    skip
    refine bodyPost_ret (v := .agg #[.bool true, .int .i64 0, .int .i64 0, .int .i64 0]) (by simp [results, Tryd.results36, go_sem]) rfl ⟨rfl, by (repeat' (first | (with_reducible exact Below.refl _ _) | (with_reducible assumption) | (with_reducible refine balloc ?_) | (with_reducible refine bdrew ?_) | (with_reducible refine bset ?_ (by (try dsimp only); omega)) | (with_reducible refine bvia ?_ (by assumption))))⟩
  · obtain ⟨q, rfl⟩ : ∃ q, p = q + 1 := ⟨p - 1, by omega⟩
    have b0 : Below w.heap.size w (w.alloc (.cells #[.bool false, .int .i64 0, .int .i64 0, .int .i64 0] 32)) := balloc (Below.refl _ _)
    have hB := Blk.new w 32 #[.bool false, .int .i64 0, .int .i64 0, .int .i64 0]
    have hle := liveOf_le l
    have HO := hid (mmodelof_ok _ S mb l K q (h.step b0) hl (by omega))
    have HA := hid (fun W m e0 (hb : Below w.heap.size w W) he => mat_ok W S mb l K m e0 (h.step hb) hl he)
    have h0' : ¬ ((q : Int) + 1 = 0) := by omega
    have hq0 : (q : Int) ≤ 536870912 := by omega
    clear h hp h0
    go_enter Tryd.func36, Tryd.ntmps36
    repeat' (first | (go_at_call 62; go_must ((with_reducible refine Calls.mono HO.out ?_); rintro _ w2 ⟨⟨m, e0, rfl, he0, hv0, hs0⟩, hb2⟩; have hm := (List.getElem?_eq_some_iff.1 he0).1; have B2 := bvia b0 hb2; have HA2 := hid (HA.out w2 m e0 B2 he0); have Hg := hid (gapOf_live he0 hv0 hs0); clear he0 hv0 hs0; dsimp only)) | (go_at_call 63; go_must ((with_reducible refine Calls.mono HA2.out ?_); rintro _ w3 ⟨rfl, hb3⟩; have hE := Blk.new w3 48 #[.int .i64 e0.epoch, .int .i64 e0.rep, .int .i64 e0.num, .int .i32 e0.char, .int .i64 e0.hides]; obtain ⟨x0, x1, x2, x3, x4, xl⟩ := hE.five; have hB1 := ((hB.step hb2).step hb3).alloc (.cells #[.int .i64 e0.epoch, .int .i64 e0.rep, .int .i64 e0.num, .int .i32 e0.char, .int .i64 e0.hides] 48); have g0 := hB1.cell 0; have g1 := hB1.cell 1; have g2 := hB1.cell 2; have g3 := hB1.cell 3; have f0 := hB1.frozen 0; have f1 := hB1.frozen 1; have f2 := hB1.frozen 2; have f3 := hB1.frozen 3; have gl := hB1.lt; simp at g0 g1 g2 g3; dsimp only)) | go_values | go_skip | go_guarded | go_step | go_upon | go_back)
    skip
    rw [Hg.out]
    refine bodyPost_ret (v := .agg #[.bool false, .int .i64 e0.epoch, .int .i64 e0.rep, .int .i64 e0.num]) (by simp [results, Tryd.results36, go_sem, g0, g1, g2, g3, gl, size_set]) rfl ⟨rfl, ?_⟩
    have hB3 := bvia B2 hb3
    have := balloc (o := .cells #[.int .i64 e0.epoch, .int .i64 e0.rep, .int .i64 e0.num, .int .i32 e0.char, .int .i64 e0.hides] 48) hB3
    exact bset (bset (bset (bset this (Nat.le_refl _)) (Nat.le_refl _)) (Nat.le_refl _)) (Nat.le_refl _)
/-- an anchor's value -/
theorem liveOf_next {l : List El} {k : Nat} {e : El} (he : l[k]? = some e) : liveOf (l.take (k + 1)) = liveOf (l.take k) + e.live := by
  rw [take_snoc_el he, liveOf_append]
  simp [liveOf]
set_option maxRecDepth 50000 in
set_option maxHeartbeats 2000000 in
theorem awhere_any (w : World) (S : Nat → Prop) (mb : Nat) (l : List El) (K : Nat) (x : Anc) (h : Mdl w S mb l K) (hl : l.length ≤ 536870912) (hx : x.id.In) :
    Calls Tryd.prog 16 #[.pointer (some ⟨mb, 0, none⟩), .agg #[.bool x.front, .int .i64 x.id.epoch, .int .i64 x.id.rep, .int .i64 x.id.num]] w fun e w' => e = .returned (.tuple #[.int .i64 (whereOf l x).1, .bool (whereOf l x).2]) ∧ Below w.heap.size w w' := by
  have b1 : Below w.heap.size w (w.alloc (.cells #[.bool x.front, .int .i64 x.id.epoch, .int .i64 x.id.rep, .int .i64 x.id.num] 32)) := balloc (Below.refl _ _)
  obtain ⟨fr, id⟩ := x
  dsimp only at hx b1 ⊢
  cases fr
  · by_cases hm : id ∈ l.map El.nm
    · have HI := hid (mindex_ok _ S mb l K id (h.step b1) hl hx hm)
      have HV := hid (fun W k e0 (hb : Below w.heap.size w W) he => mviewof_in W S mb l K k e0 (h.step hb) hl he)
      have hle := liveOf_le l
      clear h hm
      go_enter Tryd.func16, Tryd.ntmps16
      repeat' (first | (go_at_call 31; go_must ((with_reducible refine Calls.mono HI.out ?_); rintro _ w2 ⟨⟨k, rfl, hk⟩, hb2⟩; have B2 := bvia b1 hb2; obtain ⟨e0, he0, hn0, -⟩ := ixOf_get hk; have Hk := hid (And.intro hk he0); have HV2 := hid (HV.out w2 k e0 B2 he0); have hkl := (List.getElem?_eq_some_iff.1 he0).1; have hlk := liveOf_le (l.take k); rw [List.length_take] at hlk; have hlb : (liveOf (l.take k) : Int) ≤ 536870912 := (by omega); clear hk he0 hn0 hlk; dsimp only)) | (go_at_call 32; go_must ((with_reducible refine Calls.mono HV2.out ?_); rintro _ w3 ⟨rfl, hb3⟩; dsimp only)) | go_values | go_skip | go_guarded | go_step | go_upon | go_back)
      all_goals
        skip
        have hw := whereOf_some (x := ⟨false, id⟩) rfl Hk.out.1
        rw [liveOf_next Hk.out.2] at hw
        rw [hw]
        have hev : e0.live = 1 ∨ e0.live = 0 := by unfold El.live; split <;> simp
        go_ret2
        refine ⟨?_, bvia B2 hb3⟩
        first
          | (have hv : e0.live = 1 := (by assumption); rw [hv]; rfl)
          | (have hv : e0.live = 0 := hev.resolve_left (by assumption); rw [hv]; rfl)
    · have HI := hid (mindex_no _ S mb l K id (h.step b1) hx hm)
      have hw := whereOf_none (x := ⟨false, id⟩) rfl (ixOf_none hm)
      rw [hw]
      clear h hm hw
      go_enter Tryd.func16, Tryd.ntmps16
      repeat' (first | (go_at_call 31; go_must ((with_reducible refine Calls.mono HI.out ?_); rintro _ w2 ⟨rfl, hb2⟩; dsimp only)) | go_values | go_skip | go_guarded | go_step | go_upon | go_back)
      skip
      go_ret2
      exact ⟨rfl, bvia b1 hb2⟩
  · have hw := whereOf_front (l := l) (x := ⟨true, id⟩) rfl
    rw [hw]
    clear h hw
    go_enter Tryd.func16, Tryd.ntmps16
    repeat' (first | go_values | go_skip | go_guarded | go_step | go_upon | go_back)
    skip
    go_ret2
    exact ⟨rfl, b1⟩
theorem awhere_nil (w : World) (x : Anc) : Calls Tryd.prog 16 #[.pointer none, .agg #[.bool x.front, .int .i64 x.id.epoch, .int .i64 x.id.rep, .int .i64 x.id.num]] w fun e w' => e = .returned (.tuple #[.int .i64 0, .bool false]) ∧ Below w.heap.size w w' := by
  have b1 : Below w.heap.size w (w.alloc (.cells #[.bool x.front, .int .i64 x.id.epoch, .int .i64 x.id.rep, .int .i64 x.id.num] 32)) := balloc (Below.refl _ _)
  go_enter Tryd.func16, Tryd.ntmps16
  repeat' (first | go_values | go_skip | go_guarded | go_step | go_upon | go_back)
  go_ret2
  exact ⟨rfl, b1⟩
theorem whereOf_le {l : List El} {x : Anc} : (whereOf l x).1 ≤ liveOf l := by
  unfold whereOf
  split
  · exact Nat.zero_le _
  · split
    · next k _ =>
      have h := live_mono l (Nat.le_max_left (k + 1) l.length)
      rwa [List.take_of_length_le (Nat.le_max_right _ _)] at h
    · exact Nat.zero_le _
set_option maxRecDepth 50000 in
set_option maxHeartbeats 2000000 in
theorem aat_ok (w : World) (S : Nat → Prop) (mb : Nat) (l : List El) (K p : Nat) (h : Mdl w S mb l K) (hl : l.length ≤ 536870912) (hp : p ≤ liveOf l) :
    Calls Tryd.prog 20 #[.pointer (some ⟨mb, 0, none⟩), .int .i64 p] w fun e w' => e = .returned (.tuple #[.agg #[.bool (gapOf l p).front, .int .i64 (gapOf l p).id.epoch, .int .i64 (gapOf l p).id.rep, .int .i64 (gapOf l p).id.num], .nilIface]) ∧ Below w.heap.size w w' := by
  have b0 : Below w.heap.size w (w.alloc (.cells #[.bool false, .int .i64 0, .int .i64 0, .int .i64 0] 32)) := balloc (Below.refl _ _)
  have hB := Blk.new w 32 #[.bool false, .int .i64 0, .int .i64 0, .int .i64 0]
  have HL := hid (mlive_any _ S mb l K (h.step b0))
  have HG := hid (fun W (hb : Below w.heap.size w W) => gap_any W S mb l K p (h.step hb) hl hp)
  unfold ancAgg at HG
  have hle := liveOf_le l
  have hpn : ¬ (p : Int) < 0 := by omega
  have hpg : ¬ (p : Int) > liveOf l := by omega
  clear h hp
  generalize gapOf l p = g at *
  go_enter Tryd.func20, Tryd.ntmps20
  repeat' (first | (go_at_call 35; go_must ((with_reducible refine Calls.mono HL.out ?_); rintro _ w2 ⟨rfl, hb2⟩; have B2 := bvia b0 hb2; dsimp only)) | (go_at_call 36; go_must ((with_reducible refine Calls.mono (HG.out _ B2) ?_); rintro _ w3 ⟨rfl, hb3⟩; have hB1 := (hB.step hb2).step hb3; have g0 := hB1.cell 0; have g1 := hB1.cell 1; have g2 := hB1.cell 2; have g3 := hB1.cell 3; have f0 := hB1.frozen 0; have f1 := hB1.frozen 1; have f2 := hB1.frozen 2; have f3 := hB1.frozen 3; have gl := hB1.lt; simp at g0 g1 g2 g3; dsimp only)) | go_values | go_skip | go_guarded | go_step | go_upon | go_back)
  skip
  refine bodyPost_ret (v := .tuple #[.agg #[.bool g.front, .int .i64 g.id.epoch, .int .i64 g.id.rep, .int .i64 g.id.num], .nilIface]) (by simp [results, Tryd.results20, go_sem, g0, g1, g2, g3, gl, size_set]) rfl ⟨rfl, ?_⟩
  exact bset (bset (bset (bset (bvia B2 hb3) (Nat.le_refl _)) (Nat.le_refl _)) (Nat.le_refl _)) (Nat.le_refl _)
set_option maxRecDepth 50000 in
set_option maxHeartbeats 2000000 in
theorem aat_nil (w : World) (S' : Nat → Prop) (i : Int) (hs : Sents w S' a) :
    Calls Tryd.prog 20 #[.pointer none, .int .i64 i] w fun e w' => ∃ v, e = .returned (.tuple #[.agg #[.bool false, .int .i64 0, .int .i64 0, .int .i64 0], v]) ∧ IsErr w' (Fr w S') a [⟨({ data := #[97, 110, 99, 104, 111, 114] } : ByteArray), ({ data := #[65, 116] } : ByteArray), atOf i⟩] 1 v ∧ Below w.heap.size w w' := by
  have b0 : Below w.heap.size w (w.alloc (.cells #[.bool false, .int .i64 0, .int .i64 0, .int .i64 0] 32)) := balloc (Below.refl _ _)
  have hB := Blk.new w 32 #[.bool false, .int .i64 0, .int .i64 0, .int .i64 0]
  have HE := hid (fun W => new_err (S := fun b => S' b ∧ b < w.heap.size) (a := a) ({ data := #[97, 110, 99, 104, 111, 114] } : ByteArray) ({ data := #[65, 116] } : ByteArray) i [] 1 (reason (a 1)) W ⟨by omega, by omega, rfl⟩)
  have c2 := (hs.step b0).cell 1 (by omega) (by omega)
  simp only [gOf, reason] at c2
  go_enter Tryd.func20, Tryd.ntmps20
  repeat' (first | (go_at_call 28; go_must ((with_reducible refine Calls.mono (HE.out _) ?_); rintro _ w4 ⟨v, rfl, hv, hb4⟩; have hB1 := hB.step hb4; have g0 := hB1.cell 0; have g1 := hB1.cell 1; have g2 := hB1.cell 2; have g3 := hB1.cell 3; have f0 := hB1.frozen 0; have f1 := hB1.frozen 1; have f2 := hB1.frozen 2; have f3 := hB1.frozen 3; have gl := hB1.lt; simp at g0 g1 g2 g3; dsimp only)) | go_values | go_skip | go_guarded | go_step | go_upon | go_back)
  skip
  have hbw := bvia b0 hb4
  refine bodyPost_ret (v := .tuple #[.agg #[.bool false, .int .i64 0, .int .i64 0, .int .i64 0], v]) (by simp [results, Tryd.results20, go_sem, g0, g1, g2, g3, gl, size_set]) rfl ⟨v, rfl, ?_, ?_⟩
  · have ns : ¬ Fr (w.alloc (.cells #[.bool false, .int .i64 0, .int .i64 0, .int .i64 0] 32)) (fun b => S' b ∧ b < w.heap.size) w.heap.size := fun h => by
      have := hB.lt
      rcases h with h | h <;> omega
    refine (hv.keep ((((Same.setCell w4 ns _).trans (by simp [World.setCell]) (Same.setCell _ ns _)).trans (by simp [World.setCell]) (Same.setCell _ ns _)).trans (by simp [World.setCell]) (Same.setCell _ ns _))).more fun b _ h => ?_
    rcases h with h | h
    · exact .inl h.1
    · exact .inr (Nat.le_trans b0.size h)
  · exact bset (bset (bset (bset hbw (Nat.le_refl _)) (Nat.le_refl _)) (Nat.le_refl _)) (Nat.le_refl _)
end Go.Proofs.YtnpbbidiloahdaaDoor
namespace Go.Proofs.YtnpbbidiloahdaaDoor
set_option linter.unusedSimpArgs false
set_option linter.unusedVariables false
open Go Go.RowKit
variable {a : Nat → Addr}
theorem AllRight.snoc {l : List El} {e : El} (h : AllRight l) (hw : wrongS (l.map El.nm) e = 0) : AllRight (l ++ [e]) := by
  intro k x hx
  by_cases hk : k < l.length
  · rw [List.getElem?_append_left hk] at hx
    rw [List.take_append_of_le_length (by omega)]
    exact h k x hx
  · rw [List.getElem?_append_right (by omega)] at hx
    have hk0 : k - l.length = 0 := by
      have := (List.getElem?_eq_some_iff.1 hx).1
      simpa using this
    rw [hk0] at hx
    have he : x = e := by simpa using hx.symm
    subst he
    have hkl : k = l.length := by omega
    subst hkl
    rw [List.take_append_of_le_length (Nat.le_refl _), List.take_length]
    exact hw
theorem AllRight.nil : AllRight [] := fun k e h => by simp at h
def accStep (X : List El) (e : El) : List El := if X.length < 80 ∧ wrongS (X.map El.nm) e = 0 then X ++ [e] else X
/-- those that the model takes -/
def accOf (l : List El) : List El := l.foldl accStep []
theorem accOf_snoc (l : List El) (e : El) : accOf (l ++ [e]) = accStep (accOf l) e := by simp [accOf]
theorem accStep_full {X : List El} (h : ¬ X.length < 80) (l : List El) : l.foldl accStep X = X := by
  induction l with
  | nil => rfl
  | cons e l ih =>
    rw [List.foldl_cons]
    unfold accStep
    rw [if_neg (fun h' => h h'.1)]
    exact ih
theorem accOf_full {l : List El} {k : Nat} (h : ¬ (accOf (l.take k)).length < 80) : accOf l = accOf (l.take k) := by
  conv => lhs; rw [← List.take_append_drop k l]
  unfold accOf at h ⊢
  rw [List.foldl_append, accStep_full h]
set_option maxRecDepth 100000 in
set_option maxHeartbeats 4000000 in
theorem begun13_any (w : World) (A : Option Addr) (n c : Nat) (ls : List El) (S : Nat → Prop) (h : Row w S A n c ls) (hin : ∀ e ∈ ls, e.In) :
    Calls Tryd.prog 4 #[.slice A n c] w fun e w' => (∃ mb A' c' X n1, X = accOf ls ∧ e = .returned (.tuple #[.pointer (some ⟨mb, 0, none⟩), .slice A' X.length c']) ∧ Mdl w' (fun b => n1 ≤ b) mb X X.length ∧ Row w' (fun b => w.heap.size ≤ b ∧ b < n1) A' X.length c' X ∧ w.heap.size ≤ n1 ∧ AllRight X ∧ X.length ≤ 80 ∧ ∀ e ∈ X, e.In) ∧ Below w.heap.size w w' := by
  have Hr := hid h
  have hnl := h.1
  have hnm := h.len_le
  unfold maxLen at hnm
  have Hin := hid hin
  clear h hin
  go_enter Tryd.func4, Tryd.ntmps4
  repeat' (first | go_values | go_skip | go_guarded | go_step | go_upon | go_back)
  go_loopw [4, 5] (fun o i wr => ∃ (k : Nat) (A' : Option Addr) (c' : Nat) (X : List El), X = accOf (ls.take k) ∧ i = .int .i64 k ∧ o = .slice A' X.length c' ∧ k ≤ n ∧ X.length ≤ 80 ∧ AllRight X ∧ (∀ e ∈ X, e.In) ∧ Own wr w.heap.size A' X.length c' X ∧ Below w.heap.size w wr) (fun _ i _ => n - (intOf i).toNat)
  case atStart => exact ⟨0, none, 0, [], rfl, rfl, rfl, Nat.zero_le _, by decide, AllRight.nil, (fun e he => absurd he (by simp)), Own.nil _ _, Below.refl _ _⟩
  case round =>
    obtain ⟨k, A', c', X, hXe, rfl, rfl, hk, hX, hR, hXin, hown, hbr⟩ := hrel
    have HXe := hid hXe
    clear hXe
    by_cases hlt : k < n
    · by_cases h80 : X.length < 80
      · obtain ⟨b, off, e, rfl, hS, he, c0, c1, c2, c3, c4⟩ := (Hr.out.step hbr).at_ hlt
        have hbl := lt_of_cell' c0
        dsimp only at hbl
        have Hsn := hid (take_snoc_el he)
        have hein := Hin.out e (List.mem_of_getElem? he)
        have hcl := wrongS_le (X.map El.nm) e
        have hrow := hown.row (S := fun _ => True) fun _ _ _ => trivial
        have Hs := hid (And.intro hR (And.intro hXin (And.intro hown hein)))
        clear hR hXin hein he
        by_cases hw0 : wrongS (X.map El.nm) e = 0
        · have HI := hid (refInsert_ok A' X.length c' 0 X _ e wr hrow (by omega) (Nat.zero_le _) hw0)
          rw [show ((0 : Nat) : Int) = 0 from rfl] at HI
          unfold noNone at HI
          have Hw := hid hw0
          clear hw0 hrow hown hcl
          repeat' (first | (go_at_call 12; go_must ((with_reducible refine Calls.mono HI.out ?_); rintro _ w2 ⟨A2, c2', rfl, hO2, hb2⟩; clear hO2; have eN : Below w2.heap.size w2 (w2.alloc (.cells #[.int .i64 0, .slice none 0 0, .slice none 0 0] 44)) := balloc (Below.refl _ _); have B3 := bvia (bvia hbr hb2) eN; have c0 := kc (bvia hb2 eN) c0; have c1 := kc (bvia hb2 eN) c1; have c2 := kc (bvia hb2 eN) c2; have c3 := kc (bvia hb2 eN) c3; have c4 := kc (bvia hb2 eN) c4; have hbl := Nat.lt_of_lt_of_le hbl (bvia hb2 eN).size; have eX : Below (w2.alloc (.cells #[.int .i64 0, .slice none 0 0, .slice none 0 0] 44)).heap.size (w2.alloc (.cells #[.int .i64 0, .slice none 0 0, .slice none 0 0] 44)) ((w2.alloc (.cells #[.int .i64 0, .slice none 0 0, .slice none 0 0] 44)).alloc (.cells #[.int .i64 e.epoch, .int .i64 e.rep, .int .i64 e.num, .int .i32 e.char, .int .i64 e.hides] 48)) := balloc (Below.refl _ _); have hownX := ((Hs.out.2.2.1.step hb2).step eN).step eX; have hrow1 := Row.one (w2.alloc (.cells #[.int .i64 0, .slice none 0 0, .slice none 0 0] 44)) e; rw [boxSz] at hrow1; have hbX := bvia B3 eX; dsimp only)) | ((with_reducible refine append_here ?_); refine wp_append_el w.heap.size A' _ X.length c' 1 1 X [e] (fun _ => True) (by rfl) (by rfl) hownX hrow1 (by have := hbX.size; omega) (by omega) ?_; intro A4 c4' w4 hown4 hb4 hsm4 hat4 hz4) | go_values | go_skip | go_guarded | go_step | go_upon | go_back)
          skip
          go_roundw
          case rel =>
            refine ⟨k + 1, A4, c4', X ++ [e], by rw [Hsn.out, accOf_snoc, ← HXe.out]; unfold accStep; rw [if_pos ⟨h80, Hw.out⟩], by go_num, by simp, by omega, by simp; omega, Hs.out.1.snoc Hw.out, fun x hx => ?_, by simpa using hown4, hbX.trans hb4⟩
            rcases List.mem_append.1 hx with hx | hx
            · exact Hs.out.2.1 x hx
            · have : x = e := by simpa using hx
              subst this
              exact Hs.out.2.2.2
          case measure => simp [intOf]; omega
        · have HI := hid (refInsert_no A' X.length c' 0 (wrongS (X.map El.nm) e) X _ (fun _ => False) e wr hrow (by omega) (Nat.zero_le _) rfl (by omega) hcl)
          rw [show ((0 : Nat) : Int) = 0 from rfl] at HI
          have HXn := hid (show X = accOf (ls.take (k + 1)) by rw [Hsn.out, accOf_snoc, ← HXe.out]; unfold accStep; rw [if_neg (fun h => hw0 h.2)])
          generalize wrongS (X.map El.nm) e = code at *
          have hc0 : ¬ ((code : Int) = 0) := by omega
          clear hrow hown
          repeat' (first | (go_at_call 12; go_must ((with_reducible refine Calls.mono HI.out ?_); rintro _ w2 ⟨v, rfl, ⟨g1, B, m, d, C, q, rfl, hr1, hr2⟩, hb2⟩; clear hr1 hr2; dsimp only)) | go_values | go_skip | go_guarded | go_step | go_upon | go_back)
          skip
          go_roundw
          case rel => exact ⟨k + 1, A', c', X, HXn.out, by go_num, rfl, by omega, hX, Hs.out.1, Hs.out.2.1, (Hs.out.2.2.1.step hb2).step (balloc (Below.refl _ _)), balloc (bvia hbr hb2)⟩
          case measure => simp [intOf]; omega
      · have h80' : ¬ (X.length : Int) < 80 := by omega
        have hrow := hown.row (S := fun b => w.heap.size ≤ b ∧ b < wr.heap.size) fun b h1 h2 => ⟨h1, h2⟩
        have HM := hid (mof_ok wr A' X.length c' X _ hrow (by omega) (hR.good fun e he => ⟨(hXin e he).1, (hXin e he).2.1, (hXin e he).2.2.1⟩) hR.nodup)
        have Hs := hid (And.intro hR (And.intro hXin hrow))
        clear hR hXin hown hrow
        repeat' (first | (go_at_call 13; go_must ((with_reducible refine Calls.mono HM.out ?_); rintro _ w2 ⟨mb, rfl, hM, hb2⟩; dsimp only)) | go_values | go_skip | go_guarded | go_step | go_upon | go_back)
        skip
        go_ret2
        exact ⟨⟨mb, A', c', X, wr.heap.size, by rw [HXe.out]; exact (accOf_full (by rw [← HXe.out]; exact h80)).symm, rfl, hM, Hs.out.2.2.step hb2, hbr.size, Hs.out.1, hX, Hs.out.2.1⟩, bvia hbr hb2⟩
    · obtain rfl : k = n := by omega
      have hrow := hown.row (S := fun b => w.heap.size ≤ b ∧ b < wr.heap.size) fun b h1 h2 => ⟨h1, h2⟩
      have HM := hid (mof_ok wr A' X.length c' X _ hrow (by omega) (hR.good fun e he => ⟨(hXin e he).1, (hXin e he).2.1, (hXin e he).2.2.1⟩) hR.nodup)
      have Hs := hid (And.intro hR (And.intro hXin hrow))
      clear hR hXin hown hrow
      repeat' (first | (go_at_call 13; go_must ((with_reducible refine Calls.mono HM.out ?_); rintro _ w2 ⟨mb, rfl, hM, hb2⟩; dsimp only)) | go_values | go_skip | go_guarded | go_step | go_upon | go_back)
      skip
      go_ret2
      exact ⟨⟨mb, A', c', X, wr.heap.size, by rw [HXe.out, List.take_of_length_le (by omega)], rfl, hM, Hs.out.2.2.step hb2, hbr.size, Hs.out.1, hX, Hs.out.2.1⟩, bvia hbr hb2⟩
def wk13 : List El := [⟨0, 0, 1, 97, 0⟩, ⟨0, 0, 2, 98, 0⟩]
def wk13x : List El := [⟨0, 0, 3, 120, 0⟩, ⟨0, 0, 1, 97, 0⟩, ⟨0, 0, 2, 98, 0⟩]
theorem wk13_row (w : World) : Row (w.alloc (.cells #[.int .i64 0, .int .i64 0, .int .i64 1, .int .i32 97, .int .i64 0, .int .i64 0, .int .i64 0, .int .i64 2, .int .i32 98, .int .i64 0] 48)) (fun _ => True) (some ⟨w.heap.size, 0, none⟩) 2 2 wk13 := Row.lit w _ wk13 2 _ trivial rfl (by decide) rfl
theorem wk13_in : ∀ e ∈ wk13, e.In := by
  intro e he
  simp only [wk13, List.mem_cons, List.not_mem_nil, or_false] at he
  rcases he with rfl | rfl
  · exact ⟨⟨by decide, by decide⟩, ⟨by decide, by decide⟩, ⟨by decide, by decide⟩, ⟨by decide, by decide⟩, ⟨by decide, by decide⟩⟩
  · exact ⟨⟨by decide, by decide⟩, ⟨by decide, by decide⟩, ⟨by decide, by decide⟩, ⟨by decide, by decide⟩, ⟨by decide, by decide⟩⟩
theorem wk13_acc : accOf wk13 = wk13 := by rfl
theorem wk13_gap : gapOf wk13 1 = ⟨false, ⟨0, 0, 1⟩⟩ := by rfl
theorem wk13_where : whereOf wk13x ⟨false, ⟨0, 0, 1⟩⟩ = (2, true) := by rfl
set_option maxRecDepth 100000 in
set_option maxHeartbeats 4000000 in
theorem wakes13_any (w : World) (S' : Nat → Prop) (hs : Sents w S' a) : Calls Tryd.prog 11 #[] w fun e w' => e = .returned (.bool true) ∧ Below w.heap.size w w' := by
  have b0 : Below w.heap.size w (w.alloc (.cells #[.int .i64 0, .int .i64 0, .int .i64 1, .int .i32 97, .int .i64 0, .int .i64 0, .int .i64 0, .int .i64 2, .int .i32 98, .int .i64 0] 48)) := balloc (Below.refl _ _)
  have HB := hid (begun13_any _ _ 2 2 wk13 _ (wk13_row w) wk13_in)
  have hs0 := hs.narrow
  have Hs := hid hs0
  clear hs hs0
  have HF := hid (fun W e v (he : IsErr W (fun _ => True) a [⟨({ data := #[97, 110, 99, 104, 111, 114] } : ByteArray), ({ data := #[65, 116] } : ByteArray), atOf 4⟩] 1 e) (hno : IsNo W (fun _ => True) [⟨({ data := #[97, 110, 99, 104, 111, 114] } : ByteArray), ({ data := #[65, 116] } : ByteArray), atOf 4⟩] 1 v) (hs : Sents W (fun _ => True) a) => refused_any (a := a) _ 1 e v _ _ W he hno hs (by simp))
  have HY := hid (fun W => say_any ({ data := #[97, 110, 99, 104, 111, 114] } : ByteArray) ({ data := #[65, 116] } : ByteArray) 4 1 (by omega) (by omega) (fun _ => True) W)
  rw [show ((1 : Nat) : Int) = 1 from rfl] at HY
  go_enter Tryd.func11, Tryd.ntmps11
  repeat' (first | (go_at_call 4; go_must ((with_reducible refine Calls.mono HB.out ?_); rintro _ w1 ⟨⟨mb, A1, c1, X, n1, hX, rfl, hM, -, hn1, -⟩, hb1⟩; rw [wk13_acc] at hX; subst hX; have B1 := bvia b0 hb1; have hM1 := hM.more (S' := fun b => n1 ≤ b ∧ b < w1.heap.size) (fun b h1 h2 => ⟨h2, h1⟩); have HA := hid (aat_ok w1 _ mb wk13 _ 1 hM1 (by decide) (by decide)); rw [wk13_gap, show ((1 : Nat) : Int) = 1 from rfl] at HA; dsimp only at HA; dsimp only)) | (go_at_call 20; go_must (first | ((with_reducible refine Calls.mono HA.out ?_); rintro _ w2 ⟨rfl, hb2⟩; have eB : Below w2.heap.size w2 (w2.alloc (.cells #[.bool false, .int .i64 0, .int .i64 0, .int .i64 1] 32)) := balloc (Below.refl _ _); have hXb := Blk.new w2 32 #[.bool false, .int .i64 0, .int .i64 0, .int .i64 1]; have B2 := bvia (bvia B1 hb2) eB; have z1 := hb2.size; have z2 := eB.size; have HI := hid (minsert_ok _ _ mb wk13 _ 0 ⟨0, 0, 3, 120, 0⟩ ((hM1.step hb2).step eB) (by decide) (by decide) (by decide) ⟨by decide, by decide, ⟨by decide, by decide⟩, ⟨by decide, by decide⟩, ⟨by decide, by decide⟩⟩ (by decide)); rw [show ((0 : Nat) : Int) = 0 from rfl] at HI; dsimp only at HI; dsimp only) | ((with_reducible refine Calls.mono HA4.out ?_); rintro _ w5 ⟨v5, rfl, he5, hb5⟩; have kk := hXb.step (bvia hb4 hb5); have g0 := kk.cell 0; have g1 := kk.cell 1; have g2 := kk.cell 2; have g3 := kk.cell 3; have gl := kk.lt; simp at g0 g1 g2 g3; clear kk; dsimp only))) | (go_at_call 21; go_must ((with_reducible refine Calls.mono HI.out ?_); rintro _ w3 ⟨rfl, hM3, hO3⟩; have B3 := hO3.below B2 (by have := b0.size; omega) (fun b h => by have := b0.size; omega); have hXb := hO3.blk hXb (fun h => by omega); have HW := hid (awhere_any w3 _ mb wk13x _ ⟨false, ⟨0, 0, 1⟩⟩ hM3 (by decide) ⟨⟨by decide, by decide⟩, ⟨by decide, by decide⟩, ⟨by decide, by decide⟩⟩); rw [wk13_where, show ((2 : Nat) : Int) = 2 from rfl] at HW; dsimp only at HW; have g0 := hXb.cell 0; have g1 := hXb.cell 1; have g2 := hXb.cell 2; have g3 := hXb.cell 3; have gl := hXb.lt; simp at g0 g1 g2 g3; dsimp only)) | (go_at_call 16; go_must (first | ((with_reducible refine Calls.mono HW.out ?_); rintro _ w4 ⟨rfl, hb4⟩; have HA4 := hid (aat_nil w4 _ 4 (((Hs.out.step B3).step hb4))); have kk := hXb.step (hb4); have g0 := kk.cell 0; have g1 := kk.cell 1; have g2 := kk.cell 2; have g3 := kk.cell 3; have gl := kk.lt; simp at g0 g1 g2 g3; clear kk; dsimp only) | ((with_reducible refine Calls.mono (awhere_nil _ ⟨false, ⟨0, 0, 1⟩⟩) ?_); rintro _ w6 ⟨rfl, hb6⟩; dsimp only))) | (go_at_call 23; go_must ((with_reducible refine Calls.mono (HY.out _) ?_); rintro _ w7 ⟨v7, rfl, hno, hb7⟩; dsimp only)) | (go_at_call 22; go_must (have e5 := balloc (o := .cells #[.bool false, .int .i64 0, .int .i64 0, .int .i64 0] 32) (Below.refl _ w5); have B57 := bvia (bvia e5 hb6) hb7; have HR := hid (HF.out w7 v5 v7 ((he5.step B57).more (fun _ _ _ => trivial)) (hno.re (Nat.le_refl _) (Same.refl _ _) (fun _ _ => trivial)) (((((Hs.out.step B3).step hb4).step hb5).step B57).wide)); (with_reducible refine Calls.mono HR.out ?_); rintro _ w8 ⟨rfl, hb8⟩; dsimp only)) | go_values | go_skip | go_guarded | go_step | go_upon | go_back)
  skip
  go_ret
  exact ⟨rfl, bvia (bvia (bvia (bvia B3 hb4) hb5) B57) hb8⟩
end Go.Proofs.YtnpbbidiloahdaaDoor
