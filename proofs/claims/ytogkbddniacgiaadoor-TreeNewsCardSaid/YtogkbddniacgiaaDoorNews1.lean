/- TreeNews: the walk of the law. Conditions: the reasons and the row that comes in lie in memory. -/
import Derived.Test.YtogkbddniacgiaaDoorLaw04
import Derived.Test.YtogkbddniacgiaaDoorErr5
namespace Go.Proofs.YtogkbddniacgiaaDoor
open Go Go.RowKit
theorem Same.set3 {S : Nat → Prop} (w : World) {g : Nat} (h : ¬ S g) (x y z : Value) : Same S w (((w.setCell ⟨g, 0, none⟩ x).setCell ⟨g, 1, none⟩ y).setCell ⟨g, 2, none⟩ z) :=
  ((Same.setCell w h _).trans (by simp [World.setCell]) (Same.setCell _ h _)).trans (by simp [World.setCell]) (Same.setCell _ h _)
theorem size_set3 (w : World) (g : Nat) (x y z : Value) : (((w.setCell ⟨g, 0, none⟩ x).setCell ⟨g, 1, none⟩ y).setCell ⟨g, 2, none⟩ z).heap.size = w.heap.size := by simp [World.setCell]
theorem Sents.more {w : World} {S S' : Nat → Prop} {a : Nat → Addr} (h : Sents w S a) (hs : ∀ b, b < w.heap.size → S b → S' b) : Sents w S' a :=
  ⟨h.cell, fun k h1 h2 => hs _ (lt_of_cell' (h.cell k h1 h2)) (h.gIn k h1 h2), fun k h1 h2 => by
    obtain ⟨cs, t, e⟩ := h.plain k h1 h2
    exact hs _ (lt_of_heap' e) (h.aIn k h1 h2), h.inj, h.plain⟩
/-- a refusal, said by the document into a variable at g -/
theorem want_said {w w1 w2 : World} {S : Nat → Prop} {a : Nat → Addr} {ch : List Lk} {code : Nat} {v x y z : Value} (hs : Sents w S a) (he : IsErr w1 (Fr w S) a ch code v) (hb1 : Below w.heap.size w w1) (u0 u1 u2 : Value)
    (hb2 : Below (w1.alloc (.cells #[u0, u1, u2] 50)).heap.size (w1.alloc (.cells #[u0, u1, u2] 50)) w2) {ch' : List Lk} {code' : Nat} {v' : Value} (hno : IsNo w2 (Fr (w1.alloc (.cells #[u0, u1, u2] 50)) fun _ => False) ch' code' v') :
    let W := ((w2.setCell ⟨w1.heap.size, 0, none⟩ x).setCell ⟨w1.heap.size, 1, none⟩ y).setCell ⟨w1.heap.size, 2, none⟩ z
    Blk W w1.heap.size 50 #[x, y, z] ∧ IsErr W (fun b => b ≠ w1.heap.size) a ch code v ∧ IsNo W (fun b => b ≠ w1.heap.size) ch' code' v' ∧ Sents W (fun b => b ≠ w1.heap.size) a ∧ Below w.heap.size w W := by
  intro W
  have hBk := (Blk.new w1 50 #[u0, u1, u2])
  have e1 : (w1.alloc (.cells #[u0, u1, u2] 50)).heap.size = w1.heap.size + 1 := Array.size_push _
  have hB0 : Below w1.heap.size w1 (w1.alloc (.cells #[u0, u1, u2] 50)) := (Below.refl _ _).alloc (Nat.le_refl _) _
  have sm := Same.set3 (S := fun b => b ≠ w1.heap.size) w2 (g := w1.heap.size) (fun h => h rfl) x y z
  have hz : W.heap.size = w2.heap.size := size_set3 _ _ _ _ _
  refine ⟨(((hBk.step hb2).set_ 0 x).set_ 1 y).set_ 2 z, ?_, ?_, ?_, ?_⟩
  · exact (((he.more fun b hl _ => Nat.ne_of_lt hl).step hB0).step hb2).keep sm
  · obtain ⟨h1, AA, nn, cc, BB, dd, rfl, hc1, hc2⟩ := hno
    have hne : ∀ b, b < w2.heap.size → Fr (w1.alloc (.cells #[u0, u1, u2] 50)) (fun _ => False) b → b ≠ w1.heap.size := fun b _ h => by
      rcases h with h | h
      · exact h.elim
      · omega
    exact ⟨h1, AA, nn, cc, BB, dd, rfl, (hc1.more hne).keep (Nat.le_of_eq hz.symm) sm, (hc2.more hne).keep (Nat.le_of_eq hz.symm) sm⟩
  · have hs1 : Sents w1 (fun b => b ≠ w1.heap.size) a := (hs.step hb1 |>.more (S' := fun b => b ≠ w1.heap.size) fun b hl _ => Nat.ne_of_lt hl)
    exact ((hs1.step hB0).step hb2).keep sm
  · have hbb := (hb1.trans (hB0.mono hb1.size)).trans (hb2.mono (Nat.le_trans hb1.size hB0.size))
    exact ((hbb.setCell hb1.size _).setCell hb1.size _).setCell hb1.size _
set_option maxRecDepth 200000 in
set_option maxHeartbeats 4000000 in
theorem news_bad (chunk : Int) (A : Option Addr) (n c : Nat) (S : Nat → Prop) (a : Nat → Addr) (w : World) (hs : Sents w S a) (h : chunk < 2 ∨ 64 < chunk) :
    Calls Tryd.prog 4 #[.int .i64 chunk, .slice A n c] w fun e w' => e = .returned (.bool true) ∧ Below w.heap.size w w' := by
  have HN := hid (tnew_no chunk w h hs)
  have HS := hid (fun W => say_any ({ data := #[116, 114, 101, 101] } : ByteArray) ({ data := #[78, 101, 119] } : ByteArray) chunk 1 (by decide) (by decide) (fun _ => False) W)
  simp only [Int.natCast_one] at HS
  by_cases hlt : chunk < 2
  · go_enter Tryd.func4, Tryd.ntmps4
    repeat' (first | (go_at_call 26; go_must ((with_reducible refine Calls.mono HN.out ?_); rintro _ w1 ⟨v, rfl, he, hb1⟩; obtain ⟨t0, x0, hx⟩ := he.notNil; subst hx; have hBk := Blk.new w1 50 #[.int .i64 0, .slice none 0 0, .slice none 0 0]; dsimp only)) | (go_at_call 27; go_must ((with_reducible refine Calls.mono (HS.out _) ?_); rintro _ w2 ⟨v2, rfl, hno, hb2⟩; have hno' := hno; obtain ⟨_, AA, nn, cc, BB, dd, rfl, _, _⟩ := hno'; obtain ⟨hB3, he3, hno3, hs3, hb3⟩ := want_said (x := .int .i64 1) (y := .slice AA nn cc) (z := .slice BB 1 dd) hs he hb1 _ _ _ hb2 hno; simp only [Int.natCast_one] at hno3; have hBk2 := hBk.step hb2; have k0 := hBk2.cell 0; have k1 := hBk2.cell 1; have k2 := hBk2.cell 2; have f0 := hBk2.frozen 0; have f1 := hBk2.frozen 1; have f2 := hBk2.frozen 2; dsimp only)) | (go_at_call 28; go_must ((with_reducible refine (refused_any _ _ _ _ _ _ _ he3 hno3 hs3 (by simp)).mono ?_); rintro _ w4 ⟨rfl, hb4⟩; dsimp only)) | (go_at_call 25; go_must ((with_reducible refine (wakes4_any _).mono ?_); rintro _ w5 ⟨rfl, hb5⟩; dsimp only)) | (with_reducible refine Keep.last ?_) | (with_reducible refine Keep.below (by assumption) ?_) | (with_reducible refine Keep.kept (by assumption) ?_) | (with_reducible refine Keep.alloc ?_) | (with_reducible refine Keep.same ?_) | ((with_reducible refine WpH.here ?_); first | (refine WpH.nil ?_; refine NoP.normal ?_) | (refine WpH.load (by rfl) (by rfl) (by go_simp; rfl) ?_; simp only [Act.put, List.setIfInBounds_toArray, List.set_cons_zero, List.set_cons_succ]) | (refine WpH.loadT (by rfl) (by rfl) (by go_simp; rfl) (by rintro _ _ ⟨⟩; exact ⟨_, _, _, _, _, _, by rfl, by assumption, by assumption⟩) ?_; simp only [Act.put, List.setIfInBounds_toArray, List.set_cons_zero, List.set_cons_succ]) | (refine WpH.pure (by rfl) (fun w_ => by go_simp; (try go_bits); rfl) ?_; simp only [Act.put, List.setIfInBounds_toArray, List.set_cons_zero, List.set_cons_succ]) | (refine WpH.wild1 (by rfl) (fun _ _ => ?_)) | (refine WpH.skip (by rfl) ?_; simp only [Act.put, List.setIfInBounds_toArray, List.set_cons_zero, List.set_cons_succ])) | go_values | go_skip | go_guarded | go_step | go_upon | go_back)
  
    go_ret
    have B4 := hb3.trans (hb4.mono hb3.size)
    exact ⟨rfl, B4.trans (hb5.mono B4.size)⟩
  have h3 : 64 < chunk := by omega
  · go_enter Tryd.func4, Tryd.ntmps4
    repeat' (first | (go_at_call 26; go_must ((with_reducible refine Calls.mono HN.out ?_); rintro _ w1 ⟨v, rfl, he, hb1⟩; obtain ⟨t0, x0, hx⟩ := he.notNil; subst hx; have hBk := Blk.new w1 50 #[.int .i64 0, .slice none 0 0, .slice none 0 0]; dsimp only)) | (go_at_call 27; go_must ((with_reducible refine Calls.mono (HS.out _) ?_); rintro _ w2 ⟨v2, rfl, hno, hb2⟩; have hno' := hno; obtain ⟨_, AA, nn, cc, BB, dd, rfl, _, _⟩ := hno'; obtain ⟨hB3, he3, hno3, hs3, hb3⟩ := want_said (x := .int .i64 1) (y := .slice AA nn cc) (z := .slice BB 1 dd) hs he hb1 _ _ _ hb2 hno; simp only [Int.natCast_one] at hno3; have hBk2 := hBk.step hb2; have k0 := hBk2.cell 0; have k1 := hBk2.cell 1; have k2 := hBk2.cell 2; have f0 := hBk2.frozen 0; have f1 := hBk2.frozen 1; have f2 := hBk2.frozen 2; dsimp only)) | (go_at_call 28; go_must ((with_reducible refine (refused_any _ _ _ _ _ _ _ he3 hno3 hs3 (by simp)).mono ?_); rintro _ w4 ⟨rfl, hb4⟩; dsimp only)) | (go_at_call 25; go_must ((with_reducible refine (wakes4_any _).mono ?_); rintro _ w5 ⟨rfl, hb5⟩; dsimp only)) | (with_reducible refine Keep.last ?_) | (with_reducible refine Keep.below (by assumption) ?_) | (with_reducible refine Keep.kept (by assumption) ?_) | (with_reducible refine Keep.alloc ?_) | (with_reducible refine Keep.same ?_) | ((with_reducible refine WpH.here ?_); first | (refine WpH.nil ?_; refine NoP.normal ?_) | (refine WpH.load (by rfl) (by rfl) (by go_simp; rfl) ?_; simp only [Act.put, List.setIfInBounds_toArray, List.set_cons_zero, List.set_cons_succ]) | (refine WpH.loadT (by rfl) (by rfl) (by go_simp; rfl) (by rintro _ _ ⟨⟩; exact ⟨_, _, _, _, _, _, by rfl, by assumption, by assumption⟩) ?_; simp only [Act.put, List.setIfInBounds_toArray, List.set_cons_zero, List.set_cons_succ]) | (refine WpH.pure (by rfl) (fun w_ => by go_simp; (try go_bits); rfl) ?_; simp only [Act.put, List.setIfInBounds_toArray, List.set_cons_zero, List.set_cons_succ]) | (refine WpH.wild1 (by rfl) (fun _ _ => ?_)) | (refine WpH.skip (by rfl) ?_; simp only [Act.put, List.setIfInBounds_toArray, List.set_cons_zero, List.set_cons_succ])) | go_values | go_skip | go_guarded | go_step | go_upon | go_back)
  
    go_ret
    have B4 := hb3.trans (hb4.mono hb3.size)
    exact ⟨rfl, B4.trans (hb5.mono B4.size)⟩
end Go.Proofs.YtogkbddniacgiaaDoor
