/- Chapter 5's start: the base, and the pair of a model and its plain row. Conditions: the row and the reasons lie in memory, names' numbers fit their kind. What a Purge leaves: plain; the document's Purge: the walk. Conditions: the row lies in memory, fewer than 2^30 elements. -/
import Derived.Test.YtfihjajllfihjaaGreatDoorP22
import Derived.Test.YtfihjajllfihjaaGreatDoorP25
import Derived.Test.YtfihjajllfihjaaGreatDoorP28
namespace Go.Proofs.YtfihjajllfihjaaGreatDoor
set_option linter.unusedSimpArgs false
set_option linter.unusedVariables false
open Go Go.RowKit
variable {a : Nat → Addr}
theorem base5_any (w : World) (A : Option Addr) (n c : Nat) (ls : List El) (S : Nat → Prop) (h : Row w S A n c ls) :
    Calls Tryz.prog 25 #[.slice A n c] w fun e w' => (∃ m : Nat, m = min n 100 ∧ e = .returned (.slice A m c)) ∧ w = w' := by
  have hnc := h.2.1
  have hcm := h.2.2.1
  unfold maxLen at hcm
  clear h
  by_cases hn : n > 100
  · have hn' : (n : Int) > 100 := by omega
    have h1 : (100 : Nat) ≤ c := by omega
    go_enter Tryz.func25, Tryz.ntmps25
    repeat' (first | go_values | go_skip | go_guarded | go_step | go_upon | go_back)
    skip
    go_ret
    exact ⟨⟨100, by omega, rfl⟩, rfl⟩
  · have hn' : ¬ (n : Int) > 100 := by omega
    go_enter Tryz.func25, Tryz.ntmps25
    repeat' (first | go_values | go_skip | go_guarded | go_step | go_upon | go_back)
    skip
    go_ret
    exact ⟨⟨n, by omega, rfl⟩, rfl⟩
/-- the model and the plain row at w, in blocks of the call's own -/
def MPair (w : World) (pb mb : Nat) (S : Nat → Prop) (l : List El) (K base : Nat) : Prop :=
  ∃ A c, Blk w pb 37 #[.pointer (some ⟨mb, 0, none⟩), .slice A l.length c] ∧ Row w (fun b => base ≤ b ∧ b ≠ pb ∧ ¬ S b) A l.length c l ∧ Mdl w S mb l K ∧ (∀ b, S b → base ≤ b ∧ b ≠ pb) ∧ base ≤ pb ∧ (l.map El.nm).Nodup
theorem MPair.step {w w' : World} {pb mb K base : Nat} {S : Nat → Prop} {l : List El} (h : MPair w pb mb S l K base) (hb : Below w.heap.size w w') : MPair w' pb mb S l K base := by
  obtain ⟨A, c, h1, h2, h3, h4⟩ := h
  exact ⟨A, c, h1.step hb, h2.step hb, h3.step hb, h4⟩
theorem MPair.cell {w : World} {pb mb K base : Nat} {S : Nat → Prop} {l : List El} (h : MPair w pb mb S l K base) : w.cell? ⟨pb, 0, none⟩ = some (.pointer (some ⟨mb, 0, none⟩)) ∧ pb < w.heap.size := by
  obtain ⟨A, c, h1, -⟩ := h
  exact ⟨h1.cell 0, h1.lt⟩
theorem MPair.mdl {w : World} {pb mb K base : Nat} {S : Nat → Prop} {l : List El} (h : MPair w pb mb S l K base) : Mdl w S mb l K := by
  obtain ⟨A, c, h1, h2, h3, h4⟩ := h
  exact h3
set_option maxRecDepth 100000 in
set_option maxHeartbeats 4000000 in
theorem begun5_ok (w : World) (A : Option Addr) (n c : Nat) (ls : List El) (S : Nat → Prop) (hr : Row w S A n c ls) (hg : AllRight (ls.take (min n 100))) (hin : ∀ e ∈ ls, e.In) :
    Calls Tryz.prog 7 #[.slice A n c] w fun e w' => (∃ pb mb SM, e = .returned (.tuple #[.pointer (some ⟨pb, 0, none⟩), .bool true]) ∧ MPair w' pb mb SM (ls.take (min n 100)) (ls.take (min n 100)).length w.heap.size) ∧ Below w.heap.size w w' := by
  have HB := hid (base5_any w A n c ls S hr)
  have hnm := hr.len_le
  have hr' := hr.take_ (show min n 100 ≤ n by omega)
  have hlm := hr'.1
  have hmle : min n 100 ≤ 100 := Nat.min_le_right _ _
  have hin' : ∀ e ∈ ls.take (min n 100), e.In := fun e he => hin e (List.mem_of_mem_take he)
  generalize hLq : ls.take (min n 100) = L at *
  clear hLq hin hr
  generalize hmq : min n 100 = m at *
  have HLn := hid (lend_any A m c L S w hr' (by omega))
  have hgood := hg.good (fun e he => ⟨(hin' e he).1, (hin' e he).2.1, (hin' e he).2.2.1⟩)
  have hnd := hg.nodup
  have HF := hid refused_none
  unfold noNone at HF
  go_enter Tryz.func7, Tryz.ntmps7
  repeat' (first | (go_at_call 25; go_must ((with_reducible refine Calls.mono HB.out ?_); rintro _ _ ⟨⟨m', hm', rfl⟩, rfl⟩; rw [hm']; dsimp only)) | (go_at_call 26; go_must ((with_reducible refine Calls.mono HLn.out ?_); rintro _ w1 ⟨A1, c1, rfl, hO1, ⟨g1, rfl, hg1⟩, hb1⟩; have hg1l : g1 < w1.heap.size := (hO1.block _ rfl).2; have hcap := hO1.cap_le; have hrow1 := (hO1.row (S := fun _ => True) fun _ _ _ => trivial).take_ (show m ≤ m + 4 by omega); rw [List.take_append_of_le_length (by omega), List.take_of_length_le (by omega)] at hrow1; have HM := hid (mof_ok w1 _ m c1 L _ hrow1 (by omega) hgood hnd); clear hrow1; dsimp only)) | (go_at_call 27; go_must ((with_reducible refine Calls.mono HM.out ?_); rintro _ w2 ⟨mb, rfl, hM, hb2⟩; have hb12 := bvia hb1 hb2; have HR := hid (refOf_ok A m c L S w2 (hr'.step hb12) (by omega) hg); unfold noNone at HR; have HI := hid (fun W (hb : Below w1.heap.size w1 W) => intact_any g1 m c1 A c w.heap.size L S W (hO1.step hb) (hr'.step (bvia hb1 hb)) (by omega) (Nat.le_trans hb1.size hb.size)); dsimp only)) | (go_at_call 28; go_must ((with_reducible refine Calls.mono HR.out ?_); rintro _ w3 ⟨A3, c3, rfl, hO3, hb3⟩; have hX := Blk.new w3 69 #[.int .i64 0, .slice none 0 0, .slice none 0 0]; have hb13 := bvia hb2 hb3; dsimp only)) | (go_at_call 29; go_must ((with_reducible refine Calls.mono (HI.out _ (by (repeat' (first | (with_reducible exact Below.refl _ _) | (with_reducible assumption) | (with_reducible refine balloc ?_) | (with_reducible refine bdrew ?_) | (with_reducible refine bset ?_ (by (try dsimp only); omega)) | (with_reducible refine bvia ?_ (by assumption)))))) ?_); rintro _ w4 ⟨rfl, hb4⟩; have hX4 := hb4.blk hX (by have := hb13.size; omega); have x0 := hX4.cell 0; have x1 := hX4.cell 1; have x2 := hX4.cell 2; have xl := hX4.lt; simp at x0 x1 x2; dsimp only)) | (go_at_call 30; go_must ((with_reducible refine Calls.mono (HF.out _) ?_); rintro _ w5 ⟨rfl, hb5⟩; have hX5 := hX4.step hb5; have x0 := hX5.cell 0; have x1 := hX5.cell 1; have x2 := hX5.cell 2; have xl := hX5.lt; simp at x0 x1 x2; dsimp only)) | go_values | go_skip | go_guarded | go_step | go_upon | go_back)
  skip
  go_ret2
  have hb35 : But g1 w3 w5 := (But.of_below (balloc (Below.refl _ _))).trans (hb4.trans (But.of_below hb5))
  have hb15 : But g1 w1 w5 := (But.of_below (bvia hb2 hb3)).trans hb35
  have hbl5 : Below w.heap.size w w5 := hb15.below_new hb1 hg1
  have hz2 := hb2.size
  have hz3 := hb3.size
  have hz5 := hb35.size
  have hz1 := hb1.size
  have eP := balloc (o := .cells #[.pointer (some ⟨mb, 0, none⟩), .slice A3 m c3] 37) (Below.refl _ w5)
  have hP := Blk.new w5 37 #[.pointer (some ⟨mb, 0, none⟩), .slice A3 m c3]
  have hrow3 := hO3.row (S := fun b => w2.heap.size < b ∧ b < w3.heap.size) fun b h1 h2 => ⟨by omega, h2⟩
  have hrow5 := (hrow3.keep (w' := w5) (fun b hb hl => hb35.block b hl (by omega))).step eP
  have hm2 := hM.more (S' := fun b => w1.heap.size ≤ b ∧ b < w2.heap.size) fun b h1 h2 => ⟨h2, h1⟩
  have hm5 := ((hm2.step hb3).keep (w' := w5) (fun b hl hb => hb35.block b hl (by omega))).step eP
  refine ⟨⟨w5.heap.size, mb, fun b => w1.heap.size ≤ b ∧ b < w2.heap.size, rfl, ⟨A3, c3, ?_, ?_, ?_, fun b hb => ⟨by omega, by omega⟩, by omega, hnd⟩⟩, balloc hbl5⟩
  · rw [hlm]; exact hP
  · rw [hlm]; exact hrow5.more fun b hl hb => ⟨by omega, by omega, by omega⟩
  · rw [hlm]; exact hm5
set_option maxRecDepth 100000 in
set_option maxHeartbeats 4000000 in
theorem begun5_no (w : World) (A : Option Addr) (n c j : Nat) (ls : List El) (ej : El) (S S' : Nat → Prop) (hr : Row w S A n c ls) (hg : AllRight ((ls.take (min n 100)).take j)) (hj : (ls.take (min n 100))[j]? = some ej) (hw : wrongS (((ls.take (min n 100)).take j).map El.nm) ej ≠ 0) (hin : ∀ e ∈ ls, e.In) (hs : Sents w S' a) :
    Calls Tryz.prog 7 #[.slice A n c] w fun e w' => e = .returned (.tuple #[.pointer none, .bool true]) ∧ Below w.heap.size w w' := by
  have HB := hid (base5_any w A n c ls S hr)
  have hnm := hr.len_le
  have hr' := hr.take_ (show min n 100 ≤ n by omega)
  have hlm := hr'.1
  have hmle : min n 100 ≤ 100 := Nat.min_le_right _ _
  have hin' : ∀ e ∈ ls.take (min n 100), e.In := fun e he => hin e (List.mem_of_mem_take he)
  have hs' : Sents w (fun b => b < w.heap.size) a := hs.narrow
  generalize hLq : ls.take (min n 100) = L at *
  clear hLq hin hr hs
  generalize hmq : min n 100 = m at *
  have HLn := hid (lend_any A m c L S w hr' (by omega))
  have hgood := hg.good (fun e he => ⟨(hin' e (List.mem_of_mem_take he)).1, (hin' e (List.mem_of_mem_take he)).2.1, (hin' e (List.mem_of_mem_take he)).2.2.1⟩)
  have hnd := hg.nodup
  have hejn : ej.nm.In := ⟨(hin' ej (List.mem_of_getElem? hj)).1, (hin' ej (List.mem_of_getElem? hj)).2.1, (hin' ej (List.mem_of_getElem? hj)).2.2.1⟩
  have hcle := wrongS_le ((L.take j).map El.nm) ej
  generalize hcq : wrongS ((L.take j).map El.nm) ej = code at *
  have n0 : ¬ ((code : Int) = 0) := by omega
  have HF := hid (fun W e v (he : IsErr W (fun _ => True) a [⟨({ data := #[109, 111, 100, 101, 108] } : ByteArray), ({ data := #[79, 102] } : ByteArray), atOf j⟩] code e) (hno : IsNo W (fun _ => True) [⟨({ data := #[109, 111, 100, 101, 108] } : ByteArray), ({ data := #[79, 102] } : ByteArray), atOf j⟩] code v) (hs : Sents W (fun _ => True) a) => refused_any (a := a) _ code e v _ _ W he hno hs (by simp))
  have Hs := hid hs'
  have Hj := hid (And.intro hj (And.intro hcq hw))
  clear hs' hj hcq hw
  go_enter Tryz.func7, Tryz.ntmps7
  repeat' (first | (go_at_call 25; go_must ((with_reducible refine Calls.mono HB.out ?_); rintro _ _ ⟨⟨m', hm', rfl⟩, rfl⟩; rw [hm']; dsimp only)) | (go_at_call 26; go_must ((with_reducible refine Calls.mono HLn.out ?_); rintro _ w1 ⟨A1, c1, rfl, hO1, ⟨g1, rfl, hg1⟩, hb1⟩; have hg1l : g1 < w1.heap.size := (hO1.block _ rfl).2; have hcap := hO1.cap_le; have hrow1 := (hO1.row (S := fun _ => True) fun _ _ _ => trivial).take_ (show m ≤ m + 4 by omega); rw [List.take_append_of_le_length (by omega), List.take_of_length_le (by omega)] at hrow1; have HM := hid (mof_no w1 _ m c1 j code L ej _ (fun b => b < w.heap.size) hrow1 (by omega) hgood hnd Hj.out.1 hejn Hj.out.2.1 Hj.out.2.2 (by omega) (Hs.out.step hb1)); clear hrow1; dsimp only)) | (go_at_call 27; go_must ((with_reducible refine Calls.mono HM.out ?_); rintro _ w2 ⟨ve, rfl, hE, hb2⟩; obtain ⟨tv, xv, rfl⟩ := hE.notNil; have hb12 := bvia hb1 hb2; have HR := hid (refOf_no A m c j code L ej S (fun _ => False) w2 (hr'.step hb12) (by omega) hg Hj.out.1 Hj.out.2.1 Hj.out.2.2 (by omega)); have HI := hid (fun W (hb : Below w1.heap.size w1 W) => intact_any g1 m c1 A c w.heap.size L S W (hO1.step hb) (hr'.step (bvia hb1 hb)) (by omega) (Nat.le_trans hb1.size hb.size)); have HE := hid hE; clear hE; dsimp only)) | (go_at_call 28; go_must ((with_reducible refine Calls.mono HR.out ?_); rintro _ w3 ⟨vn, rfl, hno, hb3⟩; have HNo := hid hno; obtain ⟨-, B, m2, d, C, q, rfl, -, -⟩ := hno; have hX := Blk.new w3 69 #[.int .i64 code, .slice B m2 d, .slice C 1 q]; have hb13 := bvia hb2 hb3; dsimp only)) | (go_at_call 29; go_must ((with_reducible refine Calls.mono (HI.out _ (by (repeat' (first | (with_reducible exact Below.refl _ _) | (with_reducible assumption) | (with_reducible refine balloc ?_) | (with_reducible refine bdrew ?_) | (with_reducible refine bset ?_ (by (try dsimp only); omega)) | (with_reducible refine bvia ?_ (by assumption)))))) ?_); rintro _ w4 ⟨rfl, hb4⟩; have hX4 := hb4.blk hX (by have := hb13.size; omega); have x0 := hX4.cell 0; have x1 := hX4.cell 1; have x2 := hX4.cell 2; have xl := hX4.lt; simp at x0 x1 x2; have hb34 : But g1 w3 w4 := (But.of_below (balloc (Below.refl _ _))).trans hb4; have k1 := hb1.size; have k2 := hb2.size; have k3 := hb3.size; have he4 := ((HE.out.step hb3).keep (w' := w4) (fun b hb hl => hb34.block b hl (fun e => by subst e; rcases hb with hb | hb <;> omega))).more (S' := fun _ => True) (fun _ _ _ => trivial); have hno4 := HNo.out.re hb34.size (fun b hb hl => hb34.block b hl (fun e => by subst e; rcases hb with hb | hb; exact hb; omega)) (S' := fun _ => True) (fun _ _ => trivial); have hs4 := (((Hs.out.step hb1).step (bvia hb2 hb3)).keep (w' := w4) (fun b hb hl => hb34.block b hl (by omega))).wide; have HF4 := hid (HF.out w4 _ _ he4 hno4 hs4); clear he4 hno4 hs4; dsimp only)) | (go_at_call 30; go_must ((with_reducible refine Calls.mono HF4.out ?_); rintro _ w5 ⟨rfl, hb5⟩; have hX5 := hX4.step hb5; have x0 := hX5.cell 0; have x1 := hX5.cell 1; have x2 := hX5.cell 2; have xl := hX5.lt; simp at x0 x1 x2; dsimp only)) | go_values | go_skip | go_guarded | go_step | go_upon | go_back)
  skip
  have n1 : ((code : Int) != 0) = true := by simpa using n0
  rw [n1]
  go_ret2
  have hb15 : But g1 w1 w5 := (But.of_below (bvia hb2 hb3)).trans ((But.of_below (balloc (Below.refl _ _))).trans (hb4.trans (But.of_below hb5)))
  exact ⟨rfl, hb15.below_new hb1 hg1⟩
end Go.Proofs.YtfihjajllfihjaaGreatDoor
namespace Go.Proofs.YtfihjajllfihjaaGreatDoor
set_option linter.unusedSimpArgs false
set_option linter.unusedVariables false
open Go Go.RowKit
/-- the live ones, as they stood -/
def purgeOf (l : List El) : List El := l.filter fun e => decide (e.hides ≤ 0)
/-- the others -/
def deadOf (l : List El) : List El := l.filter fun e => decide (0 < e.hides)
theorem purgeOf_snoc (l : List El) (e : El) : purgeOf (l ++ [e]) = purgeOf l ++ if e.hides ≤ 0 then [e] else [] := by
  unfold purgeOf
  rw [List.filter_append]
  congr 1
  by_cases h : e.hides ≤ 0 <;> simp [h]
theorem deadOf_snoc (l : List El) (e : El) : deadOf (l ++ [e]) = deadOf l ++ if 0 < e.hides then [e] else [] := by
  unfold deadOf
  rw [List.filter_append]
  congr 1
  by_cases h : 0 < e.hides <;> simp [h]
theorem purgeOf_le (l : List El) : (purgeOf l).length ≤ l.length := List.length_filter_le _ _
theorem purgeOf_live (l : List El) : (purgeOf l).length = liveOf l := by
  induction l with
  | nil => rfl
  | cons e l ih =>
    unfold purgeOf at ih ⊢
    by_cases h : e.hides ≤ 0
    · rw [List.filter_cons_of_pos (by simpa using h)]
      have : liveOf (e :: l) = e.live + liveOf l := by simp [liveOf]
      rw [this, List.length_cons, ih]
      unfold El.live
      rw [if_neg (by omega)]
      omega
    · rw [List.filter_cons_of_neg (by simpa using h)]
      have : liveOf (e :: l) = e.live + liveOf l := by simp [liveOf]
      rw [this, ih]
      unfold El.live
      rw [if_pos (by omega)]
      omega
theorem purgeOf_full {l : List El} (h : (purgeOf l).length = l.length) : purgeOf l = l := by
  unfold purgeOf at h ⊢
  exact List.filter_eq_self.2 (List.length_filter_eq_length_iff.1 h)
theorem purgeOf_view (l : List El) : viewOf (purgeOf l) = viewOf l := by
  induction l with
  | nil => rfl
  | cons e l ih =>
    have h : viewOf (e :: l) = e.says ++ viewOf l := rfl
    rw [h, ← ih]
    unfold purgeOf
    by_cases hh : e.hides ≤ 0
    · rw [List.filter_cons_of_pos (by simpa using hh)]
      rfl
    · rw [List.filter_cons_of_neg (by simpa using hh)]
      unfold El.says
      rw [if_pos (by omega)]
      rfl
theorem purgeOf_mem {l : List El} {e : El} (h : e ∈ purgeOf l) : e ∈ l := (List.mem_filter.1 h).1
theorem purgeOf_nodup {l : List El} (h : (l.map El.nm).Nodup) : ((purgeOf l).map El.nm).Nodup := h.sublist (List.filter_sublist.map El.nm)
/-- the names that stay are those of the live ones -/
theorem purge_names {l : List El} (h : (l.map El.nm).Nodup) (j : Nm) : (j ∈ l.map El.nm ∧ j ∉ (deadOf l).map El.nm) ↔ j ∈ (purgeOf l).map El.nm := by
  constructor
  · rintro ⟨h1, h2⟩
    obtain ⟨e, he, rfl⟩ := List.mem_map.1 h1
    refine List.mem_map.2 ⟨e, List.mem_filter.2 ⟨he, ?_⟩, rfl⟩
    by_cases hh : e.hides ≤ 0
    · simpa using hh
    · exact absurd (List.mem_map.2 ⟨e, List.mem_filter.2 ⟨he, by simpa using (by omega : 0 < e.hides)⟩, rfl⟩) h2
  · intro h1
    obtain ⟨e, he, rfl⟩ := List.mem_map.1 h1
    obtain ⟨he, hh⟩ := List.mem_filter.1 he
    refine ⟨List.mem_map.2 ⟨e, he, rfl⟩, fun h2 => ?_⟩
    obtain ⟨f, hf, hn⟩ := List.mem_map.1 h2
    obtain ⟨hf, hd⟩ := List.mem_filter.1 hf
    obtain ⟨i, hi, rfl⟩ := List.getElem_of_mem he
    obtain ⟨k, hk, rfl⟩ := List.getElem_of_mem hf
    have hik : i = k := by
      rcases Nat.lt_trichotomy i k with h5 | h5 | h5
      · have h6 := List.pairwise_iff_getElem.1 h i k (by simpa using hi) (by simpa using hk) h5; simp [hn] at h6
      · exact h5
      · have h6 := List.pairwise_iff_getElem.1 h k i (by simpa using hk) (by simpa using hi) h5; simp [hn] at h6
    subst hik
    have h3 : l[i].hides ≤ 0 := by simpa using hh
    have h4 : 0 < l[i].hides := by simpa using hd
    omega
set_option maxRecDepth 20000 in
set_option maxHeartbeats 2000000 in
theorem refPurge_any (A : Option Addr) (n c : Nat) (ls : List El) (S : Nat → Prop) (w : World) (h : Row w S A n c ls) (hn : n ≤ 1073741824) :
    Calls Tryz.prog 42 #[.slice A n c] w fun r w' => ∃ A' c', r = .returned (.slice A' (purgeOf ls).length c') ∧ Own w' w.heap.size A' (purgeOf ls).length c' (purgeOf ls) ∧ Below w.heap.size w w' := by
  have Hr := hid h
  have hnl := h.1
  have hnm := h.len_le
  unfold maxLen at hnm
  clear h
  go_enter Tryz.func42, Tryz.ntmps42
  repeat' (first | go_values | go_skip | go_guarded | go_step | go_upon | go_back)
  go_loopw [3, 4] (fun o i wr => ∃ (k m : Nat) (A' : Option Addr) (c' : Nat), i = .int .i64 k ∧ o = .slice A' m c' ∧ k ≤ n ∧ m ≤ k ∧ Own wr w.heap.size A' m c' (purgeOf (ls.take k)) ∧ Below w.heap.size w wr) (fun _ i _ => n - (intOf i).toNat)
  case atStart => exact ⟨0, 0, none, 0, rfl, rfl, Nat.zero_le _, Nat.zero_le _, Own.nil _ _, Below.refl _ _⟩
  case round =>
    obtain ⟨k, m, A', c', rfl, rfl, hk, hmk, hown, hbr⟩ := hrel
    by_cases hlt : k < n
    · obtain ⟨b, off, e, rfl, hS, he, c0, c1, c2, c3, c4⟩ := (Hr.out.step hbr).at_ hlt
      have hbl := lt_of_cell' c0
      dsimp only at hbl
      have hsn := take_snoc_el he
      have HL := hid (fun W => refLive_any e W)
      have Hs := hid (And.intro hsn hown)
      clear hsn he hown
      by_cases hh : e.hides ≤ 0
      · have dh : decide (e.hides ≤ 0) = true := decide_eq_true hh
        rw [dh] at HL
        have Hh := hid hh
        clear hh dh
        repeat' (first | (go_at_call 89; go_must ((with_reducible refine Calls.mono (HL.out _) ?_); rintro _ w2 ⟨rfl, hb2⟩; have c0 := kc hb2 c0; have c1 := kc hb2 c1; have c2 := kc hb2 c2; have c3 := kc hb2 c3; have c4 := kc hb2 c4; have hbl := Nat.lt_of_lt_of_le hbl hb2.size; have eX : Below w2.heap.size w2 (w2.alloc (.cells #[.int .i64 e.epoch, .int .i64 e.rep, .int .i64 e.num, .int .i32 e.char, .int .i64 e.hides] 32)) := balloc (Below.refl _ _); have hownX := (Hs.out.2.step hb2).step eX; have hrow1 := Row.one w2 e; have hbX := bvia (bvia hbr hb2) eX; dsimp only)) | ((with_reducible refine append_here ?_); refine wp_append_el w.heap.size A' _ m c' 1 1 (purgeOf (ls.take k)) [e] (fun _ => True) (by rfl) (by rfl) hownX hrow1 (by have := hbX.size; omega) (by omega) ?_; intro A2 c2' w4 hown4 hb4 hsm4 hat4 hz4) | go_values | go_skip | go_guarded | go_step | go_upon | go_back)
        go_roundw
        case rel =>
          refine ⟨k + 1, m + 1, A2, c2', by go_num, rfl, by omega, by omega, ?_, hbX.trans hb4⟩
          rw [Hs.out.1, purgeOf_snoc, if_pos Hh.out]
          exact hown4
        case measure => simp [intOf]; omega
      · have dh : decide (e.hides ≤ 0) = false := decide_eq_false hh
        rw [dh] at HL
        have Hh := hid hh
        clear hh dh
        repeat' (first | (go_at_call 89; go_must ((with_reducible refine Calls.mono (HL.out _) ?_); rintro _ w2 ⟨rfl, hb2⟩; dsimp only)) | go_values | go_skip | go_guarded | go_step | go_upon | go_back)
        go_roundw
        case rel =>
          refine ⟨k + 1, m, A', c', by go_num, rfl, by omega, by omega, ?_, bvia hbr hb2⟩
          rw [Hs.out.1, purgeOf_snoc, if_neg Hh.out, List.append_nil]
          exact Hs.out.2.step hb2
        case measure => simp [intOf]; omega
    · obtain rfl : k = n := by omega
      have hl : ls.take k = ls := List.take_of_length_le (by omega)
      rw [hl] at hown
      obtain rfl := hown.1
      repeat' (first | go_values | go_skip | go_guarded | go_step | go_upon | go_back)
      go_ret
      exact ⟨A', c', rfl, hown, hbr⟩
end Go.Proofs.YtfihjajllfihjaaGreatDoor
