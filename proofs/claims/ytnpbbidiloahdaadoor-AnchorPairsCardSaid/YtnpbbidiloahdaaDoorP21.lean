/- What is asked of a model: Live, Lines, At, ViewOf, ModelOf, Place, LineEnd: the walks. Conditions: the model and the reasons lie in memory, fewer than 2^29 elements. What is asked of a model: At, ViewOf, LineEnd: the walks. Conditions: the model and the reasons lie in memory, fewer than 2^29 elements. A model made of elements that are not all right: refused; why. Conditions: the row and the reasons lie in memory, names' numbers fit their kind. Rows of elements that may lie in a model, or the first that may not: plain. No condition. No program in sight. The document's Of: the walks. Conditions: the row lies in memory, fewer than 2^20 elements. A refusal of the document, reasons, in a later world. No condition. -/
import Derived.Test.YtnpbbidiloahdaaDoorP20
import Derived.Test.YtnpbbidiloahdaaDoorP14
import Derived.Test.YtnpbbidiloahdaaDoorP9
namespace Go.Proofs.YtnpbbidiloahdaaDoor
set_option linter.unusedSimpArgs false
set_option linter.unusedVariables false
open Go Go.RowKit
variable {a : Nat → Addr}
theorem mlive_any (w : World) (S : Nat → Prop) (mb : Nat) (l : List El) (K : Nat) (h : Mdl w S mb l K) : Calls Tryd.prog 35 #[.pointer (some ⟨mb, 0, none⟩)] w fun e w' => e = .returned (.int .i64 (liveOf l)) ∧ Below w.heap.size w w' := by
  obtain ⟨gt, gm, p, T, h1, h2, h3, rfl, h5, h6, h7, h8, h9⟩ := h
  have m0 := h1.cell 0
  simp at m0
  have ml := h1.lt
  have HL := hid (tweight_any T p gt 64 w h2 h3)
  clear h9 h5
  go_enter Tryd.func35, Tryd.ntmps35
  repeat' (first | (go_at_call 61; go_must ((with_reducible refine Calls.mono HL.out ?_); rintro _ w1 ⟨rfl, hb1⟩; dsimp only)) | go_values | go_skip | go_guarded | go_step | go_upon | go_back)
  skip
  go_ret
  exact ⟨rfl, by (repeat' (first | (with_reducible exact Below.refl _ _) | (with_reducible assumption) | (with_reducible refine balloc ?_) | (with_reducible refine bdrew ?_) | (with_reducible refine bset ?_ (by (try dsimp only); omega)) | (with_reducible refine bvia ?_ (by assumption))))⟩
set_option maxRecDepth 50000 in
set_option maxHeartbeats 2000000 in
theorem mmodelof_ok (w : World) (S : Nat → Prop) (mb : Nat) (l : List El) (K k : Nat) (h : Mdl w S mb l K) (hl : l.length ≤ 536870912) (hk : k < liveOf l) :
    Calls Tryd.prog 62 #[.pointer (some ⟨mb, 0, none⟩), .int .i64 k] w fun e w' => (∃ m e0, e = .returned (.tuple #[.int .i64 (m : Nat), .nilIface]) ∧ l[m]? = some e0 ∧ e0.live = 1 ∧ liveOf (l.take m) = k) ∧ Below w.heap.size w w' := by
  obtain ⟨gt, gm, p, T, h1, h2, h3, rfl, h5, h6, h7, h8, h9⟩ := h
  have m0 := h1.cell 0
  simp at m0
  have ml := h1.lt
  have HF := hid (find_ok T p gt 64 k _ w h2 h3 (by omega) hk)
  clear h9 h5
  go_enter Tryd.func62, Tryd.ntmps62
  repeat' (first | (go_at_call 82; go_must ((with_reducible refine Calls.mono HF.out ?_); rintro _ w1 ⟨⟨m1, e1, rfl, he1, hv1, hs1⟩, hb1⟩; have H1 := hid (And.intro he1 (And.intro hv1 hs1)); clear he1 hv1 hs1; dsimp only)) | go_values | go_skip | go_guarded | go_step | go_upon | go_back)
  skip
  go_ret2
  exact ⟨⟨m1, e1, rfl, H1.out⟩, hb1⟩
end Go.Proofs.YtnpbbidiloahdaaDoor
namespace Go.Proofs.YtnpbbidiloahdaaDoor
set_option linter.unusedSimpArgs false
set_option linter.unusedVariables false
open Go Go.RowKit
variable {a : Nat → Addr}
set_option maxRecDepth 50000 in
set_option maxHeartbeats 2000000 in
theorem mat_ok (w : World) (S : Nat → Prop) (mb : Nat) (l : List El) (K k : Nat) (e0 : El) (h : Mdl w S mb l K) (hl : l.length ≤ 536870912) (hk : l[k]? = some e0) :
    Calls Tryd.prog 63 #[.pointer (some ⟨mb, 0, none⟩), .int .i64 k] w fun e w' => e = .returned (.tuple #[.agg #[.int .i64 e0.epoch, .int .i64 e0.rep, .int .i64 e0.num, .int .i32 e0.char, .int .i64 e0.hides], .nilIface]) ∧ Below w.heap.size w w' := by
  obtain ⟨gt, gm, p, T, h1, h2, h3, rfl, h5, h6, h7, h8, h9⟩ := h
  have m0 := h1.cell 0
  simp at m0
  have ml := h1.lt
  have hk' := (List.getElem?_eq_some_iff.1 hk).1
  have HA := hid (fun W (hb : Below w.heap.size w W) => at_ok T p gt 64 k _ W (h2.step hb) (h3.step hb) (by omega) hk')
  have Hk := hid hk
  have hB := Blk.new w 48 #[.int .i64 0, .int .i64 0, .int .i64 0, .int .i32 0, .int .i64 0]
  clear h9 h5 hk
  go_enter Tryd.func63, Tryd.ntmps63
  repeat' (first | (go_at_call 57; go_must ((with_reducible refine Calls.mono (HA.out _ (by (repeat' (first | (with_reducible exact Below.refl _ _) | (with_reducible assumption) | (with_reducible refine balloc ?_) | (with_reducible refine bdrew ?_) | (with_reducible refine bset ?_ (by (try dsimp only); omega)) | (with_reducible refine bvia ?_ (by assumption)))))) ?_); rintro _ w1 ⟨⟨e1, rfl, he1⟩, hb1⟩; obtain rfl := Option.some.inj (he1.symm.trans Hk.out); clear he1; unfold El.agg; have hB1 := (hB.step hb1).alloc (.cells #[.int .i64 e1.epoch, .int .i64 e1.rep, .int .i64 e1.num, .int .i32 e1.char, .int .i64 e1.hides] 48); have g0 := hB1.cell 0; have g1 := hB1.cell 1; have g2 := hB1.cell 2; have g3 := hB1.cell 3; have g4 := hB1.cell 4; have f0 := hB1.frozen 0; have f1 := hB1.frozen 1; have f2 := hB1.frozen 2; have f3 := hB1.frozen 3; have f4 := hB1.frozen 4; have gl := hB1.lt; dsimp only)) | go_values | go_skip | go_guarded | go_step | go_upon | go_back)
  skip
  refine bodyPost_ret (v := .tuple #[.agg #[.int .i64 e1.epoch, .int .i64 e1.rep, .int .i64 e1.num, .int .i32 e1.char, .int .i64 e1.hides], .nilIface]) (by simp [results, Tryd.results63, go_sem, g0, g1, g2, g3, g4, gl, size_set]) rfl ⟨rfl, by (repeat' (first | (with_reducible exact Below.refl _ _) | (with_reducible assumption) | (with_reducible refine balloc ?_) | (with_reducible refine bdrew ?_) | (with_reducible refine bset ?_ (by (try dsimp only); omega)) | (with_reducible refine bvia ?_ (by assumption))))⟩
set_option maxRecDepth 50000 in
set_option maxHeartbeats 2000000 in
theorem mviewof_in (w : World) (S : Nat → Prop) (mb : Nat) (l : List El) (K k : Nat) (e0 : El) (h : Mdl w S mb l K) (hl : l.length ≤ 536870912) (hk : l[k]? = some e0) :
    Calls Tryd.prog 32 #[.pointer (some ⟨mb, 0, none⟩), .int .i64 k] w fun e w' => e = .returned (.tuple #[.int .i64 (liveOf (l.take k)), .bool (decide (e0.live = 1)), .nilIface]) ∧ Below w.heap.size w w' := by
  obtain ⟨gt, gm, p, T, h1, h2, h3, rfl, h5, h6, h7, h8, h9⟩ := h
  have m0 := h1.cell 0
  simp at m0
  have ml := h1.lt
  have hk' := (List.getElem?_eq_some_iff.1 hk).1
  have HB := hid (fun W (hb : Below w.heap.size w W) => before_ok T p gt 64 k _ W (h2.step hb) (h3.step hb) (by omega) (by omega))
  have HA := hid (fun W (hb : Below w.heap.size w W) => at_ok T p gt 64 k _ W (h2.step hb) (h3.step hb) (by omega) hk')
  have Hk := hid hk
  clear h9 h5 hk
  go_enter Tryd.func32, Tryd.ntmps32
  repeat' (first | (go_at_call 56; go_must ((with_reducible refine Calls.mono (HB.out _ (by (repeat' (first | (with_reducible exact Below.refl _ _) | (with_reducible assumption) | (with_reducible refine balloc ?_) | (with_reducible refine bdrew ?_) | (with_reducible refine bset ?_ (by (try dsimp only); omega)) | (with_reducible refine bvia ?_ (by assumption)))))) ?_); rintro _ w1 ⟨rfl, hb1⟩; have eW := balloc (o := .cells #[.int .i64 (liveOf (T.all.take k)), .int .i64 (linesOf (T.all.take k))] 55) (Below.refl _ w1); have hW := Blk.new w1 55 #[.int .i64 (liveOf (T.all.take k)), .int .i64 (linesOf (T.all.take k))]; have h1b := (h1.step hb1).step eW; have m0b := h1b.cell 0; have mlb := h1b.lt; simp at m0b; dsimp only)) | (go_at_call 57; go_must ((with_reducible refine Calls.mono (HA.out _ (by (repeat' (first | (with_reducible exact Below.refl _ _) | (with_reducible assumption) | (with_reducible refine balloc ?_) | (with_reducible refine bdrew ?_) | (with_reducible refine bset ?_ (by (try dsimp only); omega)) | (with_reducible refine bvia ?_ (by assumption)))))) ?_); rintro _ w2 ⟨⟨e1, rfl, he1⟩, hb2⟩; obtain rfl := Option.some.inj (he1.symm.trans Hk.out); clear he1; unfold El.agg; have hW2 := (hW.step hb2).step (balloc (o := .cells #[.int .i64 e1.epoch, .int .i64 e1.rep, .int .i64 e1.num, .int .i32 e1.char, .int .i64 e1.hides] 48) (Below.refl _ w2)); have v0 := hW2.cell 0; have v1 := hW2.cell 1; have vl := hW2.lt; have hE := Blk.new w2 48 #[.int .i64 e1.epoch, .int .i64 e1.rep, .int .i64 e1.num, .int .i32 e1.char, .int .i64 e1.hides]; obtain ⟨x0, x1, x2, x3, x4, xl⟩ := hE.five; simp at v0 v1; dsimp only)) | (go_at_call 58; go_must ((with_reducible refine (weight_any e1 _).mono ?_); rintro _ w3 ⟨rfl, hb3⟩; dsimp only)) | ((with_reducible refine region_at 5 ?_); refine wp_region_order [(0, true, false), (1, true, false), (2, true, false), (3, true, false), (4, true, false), (5, true, false), (6, false, false), (7, true, false), (8, true, false), (9, true, false), (10, true, false), (11, true, false), (12, true, false)] (by kernel_rfl) (by kernel_rfl) (by kernel_rfl) rfl rfl ?_) | ((with_reducible refine WpH.here ?_); refine WpH.wild2 (by rfl) (fun _ _ => ?_)) | (with_reducible refine Keep.last ?_) | (with_reducible refine Keep.below (by assumption) ?_) | (with_reducible refine Keep.kept (by assumption) ?_) | (with_reducible refine Keep.alloc ?_) | (with_reducible refine Keep.same ?_) | ((with_reducible refine WpH.here ?_); first | (refine WpH.nil ?_; refine NoP.normal ?_) | (refine WpH.load (by rfl) (by rfl) (by go_simp; rfl) ?_; simp only [Act.put, List.setIfInBounds_toArray, List.set_cons_zero, List.set_cons_succ]) | (refine WpH.loadT (by rfl) (by rfl) (by go_simp; rfl) (by rintro _ _ ⟨⟩; exact ⟨_, _, _, _, _, _, by rfl, by assumption, by assumption⟩) ?_; simp only [Act.put, List.setIfInBounds_toArray, List.set_cons_zero, List.set_cons_succ]) | (refine WpH.pure (by rfl) (fun w_ => by go_simp; (try go_bits); rfl) ?_; simp only [Act.put, List.setIfInBounds_toArray, List.set_cons_zero, List.set_cons_succ]) | (refine WpH.wild1 (by rfl) (fun _ _ => ?_)) | (refine WpH.skip (by rfl) ?_; simp only [Act.put, List.setIfInBounds_toArray, List.set_cons_zero, List.set_cons_succ])) | go_values | go_skip | go_guarded | go_step | go_upon | go_back)
  skip
  have hlv : decide (0 < e1.live) = decide (e1.live = 1) := by
    unfold El.live
    split <;> simp
  rw [hlv]
  go_ret3
  exact ⟨rfl, by (repeat' (first | (with_reducible exact Below.refl _ _) | (with_reducible assumption) | (with_reducible refine balloc ?_) | (with_reducible refine bdrew ?_) | (with_reducible refine bset ?_ (by (try dsimp only); omega)) | (with_reducible refine bvia ?_ (by assumption))))⟩
end Go.Proofs.YtnpbbidiloahdaaDoor
namespace Go.Proofs.YtnpbbidiloahdaaDoor
set_option linter.unusedSimpArgs false
set_option linter.unusedVariables false
open Go Go.RowKit
variable {a : Nat → Addr}
/-- why an element can't come in among names; 0: it can -/
def wrongS (s : List Nm) (e : El) : Nat := if rightC e.char = false then 3 else if fairH e.hides = false then 1 else if e.nm ∈ s then 9 else 0
theorem wrongS_cases (s : List Nm) (e : El) : (wrongS s e = 3 ∧ rightC e.char = false) ∨ (wrongS s e = 1 ∧ rightC e.char = true ∧ fairH e.hides = false) ∨ (wrongS s e = 9 ∧ rightC e.char = true ∧ fairH e.hides = true ∧ e.nm ∈ s) ∨ (wrongS s e = 0 ∧ rightC e.char = true ∧ fairH e.hides = true ∧ e.nm ∉ s) := by
  unfold wrongS
  cases h1 : rightC e.char
  · exact .inl ⟨if_pos rfl, rfl⟩
  · right
    rw [if_neg (by simp)]
    cases h2 : fairH e.hides
    · exact .inl ⟨if_pos rfl, rfl, rfl⟩
    · right
      rw [if_neg (by simp)]
      by_cases h3 : e.nm ∈ s
      · exact .inl ⟨if_pos h3, rfl, rfl, h3⟩
      · exact .inr ⟨if_neg h3, rfl, rfl, h3⟩
end Go.Proofs.YtnpbbidiloahdaaDoor
namespace Go.Proofs.YtnpbbidiloahdaaDoor
set_option linter.unusedSimpArgs false
set_option linter.unusedVariables false
open Go Go.RowKit
/-- all of them may come in, one behind the other -/
def AllRight (ls : List El) : Prop := ∀ k e, ls[k]? = some e → wrongS ((ls.take k).map El.nm) e = 0
theorem AllRight.take {ls : List El} (h : AllRight ls) (n : Nat) : AllRight (ls.take n) := by
  intro k e he
  rw [List.getElem?_take] at he
  split at he
  · next hk =>
    rw [List.take_take, Nat.min_eq_left (by omega)]
    exact h k e he
  · cases he
theorem AllRight.good {ls : List El} (h : AllRight ls) (hin : ∀ e ∈ ls, e.nm.In) : ∀ e ∈ ls, e.Good := by
  intro e he
  obtain ⟨k, hk, rfl⟩ := List.getElem_of_mem he
  have hw := h k _ (List.getElem?_eq_getElem hk)
  rcases wrongS_cases ((ls.take k).map El.nm) ls[k] with ⟨h1, _⟩ | ⟨h1, _⟩ | ⟨h1, _⟩ | ⟨_, h2, h3, _⟩
  · omega
  · omega
  · omega
  · exact ⟨h2, h3, hin _ he⟩
theorem AllRight.nodup {ls : List El} (h : AllRight ls) : (ls.map El.nm).Nodup := by
  have key : ∀ n, n ≤ ls.length → ((ls.take n).map El.nm).Nodup := by
    intro n
    induction n with
    | zero => intro _; simp
    | succ n ih =>
      intro hn
      have he : ls[n]? = some ls[n] := List.getElem?_eq_getElem (by omega)
      have hw := h n _ he
      have hnot : El.nm ls[n] ∉ (ls.take n).map El.nm := by
        rcases wrongS_cases ((ls.take n).map El.nm) ls[n] with ⟨h1, _⟩ | ⟨h1, _⟩ | ⟨h1, _⟩ | ⟨_, _, _, h4⟩
        · omega
        · omega
        · omega
        · exact h4
      rw [take_snoc_el he, List.map_append, List.nodup_append]
      refine ⟨ih (by omega), by simp, ?_⟩
      intro x hx y hy e
      simp only [List.map_cons, List.map_nil, List.mem_cons, List.not_mem_nil, or_false] at hy
      subst hy
      subst e
      exact hnot hx
  have := key ls.length (Nat.le_refl _)
  rwa [List.take_of_length_le (Nat.le_refl _)] at this
theorem wrongS_le (s : List Nm) (e : El) : wrongS s e ≤ 13 := by
  unfold wrongS
  split
  · omega
  · split
    · omega
    · split <;> omega
end Go.Proofs.YtnpbbidiloahdaaDoor
namespace Go.Proofs.YtnpbbidiloahdaaDoor
set_option linter.unusedSimpArgs false
set_option linter.unusedVariables false
open Go Go.RowKit
end Go.Proofs.YtnpbbidiloahdaaDoor
namespace Go.Proofs.YtnpbbidiloahdaaDoor
set_option linter.unusedSimpArgs false
set_option linter.unusedVariables false
open Go Go.RowKit
variable {a : Nat → Addr}
theorem IsNo.re {w w' : World} {S S' : Nat → Prop} {ch : List Lk} {code : Nat} {v : Value} (h : IsNo w S ch code v) (hz : w.heap.size ≤ w'.heap.size) (hs : Same S w w') (hS : ∀ b, S b → S' b) : IsNo w' S' ch code v := by
  obtain ⟨h1, A, n, c, B, d, rfl, hr1, hr2⟩ := h
  exact ⟨h1, A, n, c, B, d, rfl, (hr1.keep hz hs).more fun b _ h => hS b h, (hr2.keep hz hs).more fun b _ h => hS b h⟩
theorem Sents.wide {w : World} {S : Nat → Prop} (h : Sents w S a) : Sents w (fun _ => True) a := ⟨h.cell, fun _ _ _ => trivial, fun _ _ _ => trivial, h.inj, h.plain⟩
theorem Sents.narrow {w : World} {S : Nat → Prop} (h : Sents w S a) : Sents w (fun b => b < w.heap.size) a := ⟨h.cell, fun k h1 h2 => lt_of_cell' (h.cell k h1 h2), fun k h1 h2 => (h.plain k h1 h2).elim fun _ h => h.elim fun _ h => lt_of_heap' h, h.inj, h.plain⟩
end Go.Proofs.YtnpbbidiloahdaaDoor
