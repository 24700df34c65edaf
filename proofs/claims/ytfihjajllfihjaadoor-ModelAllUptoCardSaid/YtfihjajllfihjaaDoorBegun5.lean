/- Chapter 5's start: the base, and the pair of a model and its plain row. Conditions: the row and the reasons lie in memory, names' numbers fit their kind. -/
import Derived.Test.YtfihjajllfihjaaDoorMOf
import Derived.Test.YtfihjajllfihjaaDoorRe
import Derived.Test.YtfihjajllfihjaaDoorRefOf
import Derived.Test.YtfihjajllfihjaaDoorWakes5
namespace Go.Proofs.YtfihjajllfihjaaDoor
set_option linter.unusedSimpArgs false
set_option linter.unusedVariables false
open Go Go.RowKit
variable {a : Nat → Addr}
theorem base5_any (w : World) (A : Option Addr) (n c : Nat) (ls : List El) (S : Nat → Prop) (h : Row w S A n c ls) :
    Calls Tryd.prog 68 #[.slice A n c] w fun e w' => (∃ m : Nat, m = min n 100 ∧ e = .returned (.slice A m c)) ∧ w = w' := by
  have hnc := h.2.1
  have hcm := h.2.2.1
  unfold maxLen at hcm
  clear h
  by_cases hn : n > 100
  · have hn' : (n : Int) > 100 := by omega
    have h1 : (100 : Nat) ≤ c := by omega
    go_enter Tryd.func68, Tryd.ntmps68
    repeat' (first | (with_reducible refine Keep.last ?_) | (with_reducible refine Keep.below (by assumption) ?_) | (with_reducible refine Keep.kept (by assumption) ?_) | (with_reducible refine Keep.alloc ?_) | (with_reducible refine Keep.same ?_) | ((with_reducible refine WpH.here ?_); first | (refine WpH.nil ?_; refine NoP.normal ?_) | (refine WpH.load (by rfl) (by rfl) (by go_simp; rfl) ?_; simp only [Act.put, List.setIfInBounds_toArray, List.set_cons_zero, List.set_cons_succ]) | (refine WpH.loadT (by rfl) (by rfl) (by go_simp; rfl) (by rintro _ _ ⟨⟩; exact ⟨_, _, _, _, _, _, by rfl, by assumption, by assumption⟩) ?_; simp only [Act.put, List.setIfInBounds_toArray, List.set_cons_zero, List.set_cons_succ]) | (refine WpH.pure (by rfl) (fun w_ => by go_simp; (try go_bits); rfl) ?_; simp only [Act.put, List.setIfInBounds_toArray, List.set_cons_zero, List.set_cons_succ]) | (refine WpH.wild1 (by rfl) (fun _ _ => ?_)) | (refine WpH.skip (by rfl) ?_; simp only [Act.put, List.setIfInBounds_toArray, List.set_cons_zero, List.set_cons_succ])) | go_values | go_skip | go_guarded | go_step | go_upon | go_back)
    skip
    go_ret
    exact ⟨⟨100, by omega, rfl⟩, rfl⟩
  · have hn' : ¬ (n : Int) > 100 := by omega
    go_enter Tryd.func68, Tryd.ntmps68
    repeat' (first | (with_reducible refine Keep.last ?_) | (with_reducible refine Keep.below (by assumption) ?_) | (with_reducible refine Keep.kept (by assumption) ?_) | (with_reducible refine Keep.alloc ?_) | (with_reducible refine Keep.same ?_) | ((with_reducible refine WpH.here ?_); first | (refine WpH.nil ?_; refine NoP.normal ?_) | (refine WpH.load (by rfl) (by rfl) (by go_simp; rfl) ?_; simp only [Act.put, List.setIfInBounds_toArray, List.set_cons_zero, List.set_cons_succ]) | (refine WpH.loadT (by rfl) (by rfl) (by go_simp; rfl) (by rintro _ _ ⟨⟩; exact ⟨_, _, _, _, _, _, by rfl, by assumption, by assumption⟩) ?_; simp only [Act.put, List.setIfInBounds_toArray, List.set_cons_zero, List.set_cons_succ]) | (refine WpH.pure (by rfl) (fun w_ => by go_simp; (try go_bits); rfl) ?_; simp only [Act.put, List.setIfInBounds_toArray, List.set_cons_zero, List.set_cons_succ]) | (refine WpH.wild1 (by rfl) (fun _ _ => ?_)) | (refine WpH.skip (by rfl) ?_; simp only [Act.put, List.setIfInBounds_toArray, List.set_cons_zero, List.set_cons_succ])) | go_values | go_skip | go_guarded | go_step | go_upon | go_back)
    skip
    go_ret
    exact ⟨⟨n, by omega, rfl⟩, rfl⟩
/-- the model and the plain row at w, in blocks of the call's own -/
def MPair (w : World) (pb mb : Nat) (S : Nat → Prop) (l : List El) (K base : Nat) : Prop :=
  ∃ A c, Blk w pb 29 #[.pointer (some ⟨mb, 0, none⟩), .slice A l.length c] ∧ Row w (fun b => base ≤ b ∧ b ≠ pb ∧ ¬ S b) A l.length c l ∧ Mdl w S mb l K ∧ (∀ b, S b → base ≤ b ∧ b ≠ pb) ∧ base ≤ pb ∧ (l.map El.nm).Nodup
theorem MPair.step {w w' : World} {pb mb K base : Nat} {S : Nat → Prop} {l : List El} (h : MPair w pb mb S l K base) (hb : Below w.heap.size w w') : MPair w' pb mb S l K base := by
  obtain ⟨A, c, h1, h2, h3, h4⟩ := h
  exact ⟨A, c, h1.step hb, h2.step hb, h3.step hb, h4⟩
theorem MPair.cell {w : World} {pb mb K base : Nat} {S : Nat → Prop} {l : List El} (h : MPair w pb mb S l K base) : w.cell? ⟨pb, 0, none⟩ = some (.pointer (some ⟨mb, 0, none⟩)) ∧ pb < w.heap.size := by
  obtain ⟨A, c, h1, -⟩ := h
  exact ⟨h1.cell 0, h1.lt⟩
theorem MPair.mdl {w : World} {pb mb K base : Nat} {S : Nat → Prop} {l : List El} (h : MPair w pb mb S l K base) : Mdl w S mb l K := by
  obtain ⟨A, c, h1, h2, h3, h4⟩ := h
  exact h3
set_option maxRecDepth 100000 in
set_option maxHeartbeats 4000000 in
theorem begun5_ok (w : World) (A : Option Addr) (n c : Nat) (ls : List El) (S : Nat → Prop) (hr : Row w S A n c ls) (hg : AllRight (ls.take (min n 100))) (hin : ∀ e ∈ ls, e.In) :
    Calls Tryd.prog 16 #[.slice A n c] w fun e w' => (∃ pb mb SM, e = .returned (.tuple #[.pointer (some ⟨pb, 0, none⟩), .bool true]) ∧ MPair w' pb mb SM (ls.take (min n 100)) (ls.take (min n 100)).length w.heap.size) ∧ Below w.heap.size w w' := by
  have HB := hid (base5_any w A n c ls S hr)
  have hnm := hr.len_le
  have hr' := hr.take_ (show min n 100 ≤ n by omega)
  have hlm := hr'.1
  have hmle : min n 100 ≤ 100 := Nat.min_le_right _ _
  have hin' : ∀ e ∈ ls.take (min n 100), e.In := fun e he => hin e (List.mem_of_mem_take he)
  generalize hLq : ls.take (min n 100) = L at *
  clear hLq hin hr
  generalize hmq : min n 100 = m at *
  have HLn := hid (lend_any A m c L S w hr' (by omega))
  have hgood := hg.good (fun e he => ⟨(hin' e he).1, (hin' e he).2.1, (hin' e he).2.2.1⟩)
  have hnd := hg.nodup
  have HF := hid refused_none
  unfold noNone at HF
  go_enter Tryd.func16, Tryd.ntmps16
  repeat' (first | (go_at_call 68; go_must ((with_reducible refine Calls.mono HB.out ?_); rintro _ _ ⟨⟨m', hm', rfl⟩, rfl⟩; rw [hm']; dsimp only)) | (go_at_call 69; go_must ((with_reducible refine Calls.mono HLn.out ?_); rintro _ w1 ⟨A1, c1, rfl, hO1, ⟨g1, rfl, hg1⟩, hb1⟩; have hg1l : g1 < w1.heap.size := (hO1.block _ rfl).2; have hcap := hO1.cap_le; have hrow1 := (hO1.row (S := fun _ => True) fun _ _ _ => trivial).take_ (show m ≤ m + 4 by omega); rw [List.take_append_of_le_length (by omega), List.take_of_length_le (by omega)] at hrow1; have HM := hid (mof_ok w1 _ m c1 L _ hrow1 (by omega) hgood hnd); clear hrow1; dsimp only)) | (go_at_call 70; go_must ((with_reducible refine Calls.mono HM.out ?_); rintro _ w2 ⟨mb, rfl, hM, hb2⟩; have hb12 := bvia hb1 hb2; have HR := hid (refOf_ok A m c L S w2 (hr'.step hb12) (by omega) hg); unfold noNone at HR; have HI := hid (fun W (hb : Below w1.heap.size w1 W) => intact_any g1 m c1 A c w.heap.size L S W (hO1.step hb) (hr'.step (bvia hb1 hb)) (by omega) (Nat.le_trans hb1.size hb.size)); dsimp only)) | (go_at_call 71; go_must ((with_reducible refine Calls.mono HR.out ?_); rintro _ w3 ⟨A3, c3, rfl, hO3, hb3⟩; have hX := Blk.new w3 75 #[.int .i64 0, .slice none 0 0, .slice none 0 0]; have hb13 := bvia hb2 hb3; dsimp only)) | (go_at_call 72; go_must ((with_reducible refine Calls.mono (HI.out _ (by (repeat' (first | (with_reducible exact Below.refl _ _) | (with_reducible assumption) | (with_reducible refine balloc ?_) | (with_reducible refine bdrew ?_) | (with_reducible refine bset ?_ (by (try dsimp only); omega)) | (with_reducible refine bvia ?_ (by assumption)))))) ?_); rintro _ w4 ⟨rfl, hb4⟩; have hX4 := hb4.blk hX (by have := hb13.size; omega); have x0 := hX4.cell 0; have x1 := hX4.cell 1; have x2 := hX4.cell 2; have xl := hX4.lt; simp at x0 x1 x2; dsimp only)) | (go_at_call 42; go_must ((with_reducible refine Calls.mono (HF.out _) ?_); rintro _ w5 ⟨rfl, hb5⟩; have hX5 := hX4.step hb5; have x0 := hX5.cell 0; have x1 := hX5.cell 1; have x2 := hX5.cell 2; have xl := hX5.lt; simp at x0 x1 x2; dsimp only)) | (with_reducible refine Keep.last ?_) | (with_reducible refine Keep.below (by assumption) ?_) | (with_reducible refine Keep.kept (by assumption) ?_) | (with_reducible refine Keep.alloc ?_) | (with_reducible refine Keep.same ?_) | ((with_reducible refine WpH.here ?_); first | (refine WpH.nil ?_; refine NoP.normal ?_) | (refine WpH.load (by rfl) (by rfl) (by go_simp; rfl) ?_; simp only [Act.put, List.setIfInBounds_toArray, List.set_cons_zero, List.set_cons_succ]) | (refine WpH.loadT (by rfl) (by rfl) (by go_simp; rfl) (by rintro _ _ ⟨⟩; exact ⟨_, _, _, _, _, _, by rfl, by assumption, by assumption⟩) ?_; simp only [Act.put, List.setIfInBounds_toArray, List.set_cons_zero, List.set_cons_succ]) | (refine WpH.pure (by rfl) (fun w_ => by go_simp; (try go_bits); rfl) ?_; simp only [Act.put, List.setIfInBounds_toArray, List.set_cons_zero, List.set_cons_succ]) | (refine WpH.wild1 (by rfl) (fun _ _ => ?_)) | (refine WpH.skip (by rfl) ?_; simp only [Act.put, List.setIfInBounds_toArray, List.set_cons_zero, List.set_cons_succ])) | go_values | go_skip | go_guarded | go_step | go_upon | go_back)
  skip
  go_ret2
  have hb35 : But g1 w3 w5 := (But.of_below (balloc (Below.refl _ _))).trans (hb4.trans (But.of_below hb5))
  have hb15 : But g1 w1 w5 := (But.of_below (bvia hb2 hb3)).trans hb35
  have hbl5 : Below w.heap.size w w5 := hb15.below_new hb1 hg1
  have hz2 := hb2.size
  have hz3 := hb3.size
  have hz5 := hb35.size
  have hz1 := hb1.size
  have eP := balloc (o := .cells #[.pointer (some ⟨mb, 0, none⟩), .slice A3 m c3] 29) (Below.refl _ w5)
  have hP := Blk.new w5 29 #[.pointer (some ⟨mb, 0, none⟩), .slice A3 m c3]
  have hrow3 := hO3.row (S := fun b => w2.heap.size < b ∧ b < w3.heap.size) fun b h1 h2 => ⟨by omega, h2⟩
  have hrow5 := (hrow3.keep (w' := w5) (fun b hb hl => hb35.block b hl (by omega))).step eP
  have hm2 := hM.more (S' := fun b => w1.heap.size ≤ b ∧ b < w2.heap.size) fun b h1 h2 => ⟨h2, h1⟩
  have hm5 := ((hm2.step hb3).keep (w' := w5) (fun b hl hb => hb35.block b hl (by omega))).step eP
  refine ⟨⟨w5.heap.size, mb, fun b => w1.heap.size ≤ b ∧ b < w2.heap.size, rfl, ⟨A3, c3, ?_, ?_, ?_, fun b hb => ⟨by omega, by omega⟩, by omega, hnd⟩⟩, balloc hbl5⟩
  · rw [hlm]; exact hP
  · rw [hlm]; exact hrow5.more fun b hl hb => ⟨by omega, by omega, by omega⟩
  · rw [hlm]; exact hm5
set_option maxRecDepth 100000 in
set_option maxHeartbeats 4000000 in
theorem begun5_no (w : World) (A : Option Addr) (n c j : Nat) (ls : List El) (ej : El) (S S' : Nat → Prop) (hr : Row w S A n c ls) (hg : AllRight ((ls.take (min n 100)).take j)) (hj : (ls.take (min n 100))[j]? = some ej) (hw : wrongS (((ls.take (min n 100)).take j).map El.nm) ej ≠ 0) (hin : ∀ e ∈ ls, e.In) (hs : Sents w S' a) :
    Calls Tryd.prog 16 #[.slice A n c] w fun e w' => e = .returned (.tuple #[.pointer none, .bool true]) ∧ Below w.heap.size w w' := by
  have HB := hid (base5_any w A n c ls S hr)
  have hnm := hr.len_le
  have hr' := hr.take_ (show min n 100 ≤ n by omega)
  have hlm := hr'.1
  have hmle : min n 100 ≤ 100 := Nat.min_le_right _ _
  have hin' : ∀ e ∈ ls.take (min n 100), e.In := fun e he => hin e (List.mem_of_mem_take he)
  have hs' : Sents w (fun b => b < w.heap.size) a := hs.narrow
  generalize hLq : ls.take (min n 100) = L at *
  clear hLq hin hr hs
  generalize hmq : min n 100 = m at *
  have HLn := hid (lend_any A m c L S w hr' (by omega))
  have hgood := hg.good (fun e he => ⟨(hin' e (List.mem_of_mem_take he)).1, (hin' e (List.mem_of_mem_take he)).2.1, (hin' e (List.mem_of_mem_take he)).2.2.1⟩)
  have hnd := hg.nodup
  have hejn : ej.nm.In := ⟨(hin' ej (List.mem_of_getElem? hj)).1, (hin' ej (List.mem_of_getElem? hj)).2.1, (hin' ej (List.mem_of_getElem? hj)).2.2.1⟩
  have hcle := wrongS_le ((L.take j).map El.nm) ej
  generalize hcq : wrongS ((L.take j).map El.nm) ej = code at *
  have n0 : ¬ ((code : Int) = 0) := by omega
  have HF := hid (fun W e v (he : IsErr W (fun _ => True) a [⟨({ data := #[109, 111, 100, 101, 108] } : ByteArray), ({ data := #[79, 102] } : ByteArray), atOf j⟩] code e) (hno : IsNo W (fun _ => True) [⟨({ data := #[109, 111, 100, 101, 108] } : ByteArray), ({ data := #[79, 102] } : ByteArray), atOf j⟩] code v) (hs : Sents W (fun _ => True) a) => refused_any (a := a) _ code e v _ _ W he hno hs (by simp))
  have Hs := hid hs'
  have Hj := hid (And.intro hj (And.intro hcq hw))
  clear hs' hj hcq hw
  go_enter Tryd.func16, Tryd.ntmps16
  repeat' (first | (go_at_call 68; go_must ((with_reducible refine Calls.mono HB.out ?_); rintro _ _ ⟨⟨m', hm', rfl⟩, rfl⟩; rw [hm']; dsimp only)) | (go_at_call 69; go_must ((with_reducible refine Calls.mono HLn.out ?_); rintro _ w1 ⟨A1, c1, rfl, hO1, ⟨g1, rfl, hg1⟩, hb1⟩; have hg1l : g1 < w1.heap.size := (hO1.block _ rfl).2; have hcap := hO1.cap_le; have hrow1 := (hO1.row (S := fun _ => True) fun _ _ _ => trivial).take_ (show m ≤ m + 4 by omega); rw [List.take_append_of_le_length (by omega), List.take_of_length_le (by omega)] at hrow1; have HM := hid (mof_no w1 _ m c1 j code L ej _ (fun b => b < w.heap.size) hrow1 (by omega) hgood hnd Hj.out.1 hejn Hj.out.2.1 Hj.out.2.2 (by omega) (Hs.out.step hb1)); clear hrow1; dsimp only)) | (go_at_call 70; go_must ((with_reducible refine Calls.mono HM.out ?_); rintro _ w2 ⟨ve, rfl, hE, hb2⟩; obtain ⟨tv, xv, rfl⟩ := hE.notNil; have hb12 := bvia hb1 hb2; have HR := hid (refOf_no A m c j code L ej S (fun _ => False) w2 (hr'.step hb12) (by omega) hg Hj.out.1 Hj.out.2.1 Hj.out.2.2 (by omega)); have HI := hid (fun W (hb : Below w1.heap.size w1 W) => intact_any g1 m c1 A c w.heap.size L S W (hO1.step hb) (hr'.step (bvia hb1 hb)) (by omega) (Nat.le_trans hb1.size hb.size)); have HE := hid hE; clear hE; dsimp only)) | (go_at_call 71; go_must ((with_reducible refine Calls.mono HR.out ?_); rintro _ w3 ⟨vn, rfl, hno, hb3⟩; have HNo := hid hno; obtain ⟨-, B, m2, d, C, q, rfl, -, -⟩ := hno; have hX := Blk.new w3 75 #[.int .i64 code, .slice B m2 d, .slice C 1 q]; have hb13 := bvia hb2 hb3; dsimp only)) | (go_at_call 72; go_must ((with_reducible refine Calls.mono (HI.out _ (by (repeat' (first | (with_reducible exact Below.refl _ _) | (with_reducible assumption) | (with_reducible refine balloc ?_) | (with_reducible refine bdrew ?_) | (with_reducible refine bset ?_ (by (try dsimp only); omega)) | (with_reducible refine bvia ?_ (by assumption)))))) ?_); rintro _ w4 ⟨rfl, hb4⟩; have hX4 := hb4.blk hX (by have := hb13.size; omega); have x0 := hX4.cell 0; have x1 := hX4.cell 1; have x2 := hX4.cell 2; have xl := hX4.lt; simp at x0 x1 x2; have hb34 : But g1 w3 w4 := (But.of_below (balloc (Below.refl _ _))).trans hb4; have k1 := hb1.size; have k2 := hb2.size; have k3 := hb3.size; have he4 := ((HE.out.step hb3).keep (w' := w4) (fun b hb hl => hb34.block b hl (fun e => by subst e; rcases hb with hb | hb <;> omega))).more (S' := fun _ => True) (fun _ _ _ => trivial); have hno4 := HNo.out.re hb34.size (fun b hb hl => hb34.block b hl (fun e => by subst e; rcases hb with hb | hb; exact hb; omega)) (S' := fun _ => True) (fun _ _ => trivial); have hs4 := (((Hs.out.step hb1).step (bvia hb2 hb3)).keep (w' := w4) (fun b hb hl => hb34.block b hl (by omega))).wide; have HF4 := hid (HF.out w4 _ _ he4 hno4 hs4); clear he4 hno4 hs4; dsimp only)) | (go_at_call 42; go_must ((with_reducible refine Calls.mono HF4.out ?_); rintro _ w5 ⟨rfl, hb5⟩; have hX5 := hX4.step hb5; have x0 := hX5.cell 0; have x1 := hX5.cell 1; have x2 := hX5.cell 2; have xl := hX5.lt; simp at x0 x1 x2; dsimp only)) | (with_reducible refine Keep.last ?_) | (with_reducible refine Keep.below (by assumption) ?_) | (with_reducible refine Keep.kept (by assumption) ?_) | (with_reducible refine Keep.alloc ?_) | (with_reducible refine Keep.same ?_) | ((with_reducible refine WpH.here ?_); first | (refine WpH.nil ?_; refine NoP.normal ?_) | (refine WpH.load (by rfl) (by rfl) (by go_simp; rfl) ?_; simp only [Act.put, List.setIfInBounds_toArray, List.set_cons_zero, List.set_cons_succ]) | (refine WpH.loadT (by rfl) (by rfl) (by go_simp; rfl) (by rintro _ _ ⟨⟩; exact ⟨_, _, _, _, _, _, by rfl, by assumption, by assumption⟩) ?_; simp only [Act.put, List.setIfInBounds_toArray, List.set_cons_zero, List.set_cons_succ]) | (refine WpH.pure (by rfl) (fun w_ => by go_simp; (try go_bits); rfl) ?_; simp only [Act.put, List.setIfInBounds_toArray, List.set_cons_zero, List.set_cons_succ]) | (refine WpH.wild1 (by rfl) (fun _ _ => ?_)) | (refine WpH.skip (by rfl) ?_; simp only [Act.put, List.setIfInBounds_toArray, List.set_cons_zero, List.set_cons_succ])) | go_values | go_skip | go_guarded | go_step | go_upon | go_back)
  skip
  have n1 : ((code : Int) != 0) = true := by simpa using n0
  rw [n1]
  go_ret2
  have hb15 : But g1 w1 w5 := (But.of_below (bvia hb2 hb3)).trans ((But.of_below (balloc (Below.refl _ _))).trans (hb4.trans (But.of_below hb5)))
  exact ⟨rfl, hb15.below_new hb1 hg1⟩
end Go.Proofs.YtfihjajllfihjaaDoor
