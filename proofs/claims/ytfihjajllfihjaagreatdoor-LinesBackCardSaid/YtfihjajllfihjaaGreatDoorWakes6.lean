/- Chapter 6's wakes: two lines counted, a nil model refused. Condition: the reasons lie in memory. -/
import Derived.Test.YtfihjajllfihjaaGreatDoorBegun6
import Derived.Test.YtfihjajllfihjaaGreatDoorLines3
import Derived.Test.YtfihjajllfihjaaGreatDoorRe
namespace Go.Proofs.YtfihjajllfihjaaGreatDoor
set_option linter.unusedSimpArgs false
set_option linter.unusedVariables false
open Go Go.RowKit
variable {a : Nat → Addr}
def wk6 : List El := [⟨0, 0, 1, 97, 0⟩, ⟨0, 0, 2, 10, 0⟩, ⟨0, 0, 3, 98, 0⟩]
theorem wk6_els : els6 [97, 10, 98] [] (min 3 150) = wk6 := by rfl
theorem wk6_rows : rowsOf wk6 = [[97], [98]] := by rfl
theorem wk6_start : startS (rowsOf wk6) 1 = 2 := by rfl
theorem wk6_text : utf8S [98] = [98] := by rfl
set_option maxRecDepth 100000 in
set_option maxHeartbeats 4000000 in
theorem wakes6_any (w : World) (S' : Nat → Prop) (hs : Sents w S' a) : Calls Tryz.prog 24 #[] w fun e w' => e = .returned (.bool true) ∧ Below w.heap.size w w' := by
  have b0 : Below w.heap.size w (w.alloc (.cells #[.int .i32 97, .int .i32 10, .int .i32 98] 21)) := balloc (Below.refl _ _)
  have hrow : GRow (w.alloc (.cells #[.int .i32 97, .int .i32 10, .int .i32 98] 21)) (fun _ => True) (some ⟨w.heap.size, 0, none⟩) 3 3 (([97, 10, 98] : List Int).map Rn.mk) :=
    (GOwn.lit (t := 21) w #[.int .i32 97, .int .i32 10, .int .i32 98] (([97, 10, 98] : List Int).map Rn.mk) w.heap.size (Nat.le_refl _) (by show 3 ≤ maxLen; decide) rfl).row fun _ _ _ => trivial
  have HB := hid (begun6_any _ _ none 3 3 0 0 [97, 10, 98] [] _ (fun _ => True) hrow (GRow.nil _ _ _ _ (Nat.zero_le _)) (by
    intro e he
    simp only [List.mem_cons, List.not_mem_nil, or_false] at he
    rcases he with rfl | rfl | rfl <;> exact ⟨by decide, by decide⟩))
  have hs0 := hs.narrow
  have Hs := hid hs0
  clear hs hs0 hrow
  have HF := hid (fun W c e v (he : IsErr W (fun _ => True) a [⟨({ data := #[108, 105, 110, 101, 115] } : ByteArray), c, atOf (-1)⟩] 1 e) (hno : IsNo W (fun _ => True) [⟨({ data := #[108, 105, 110, 101, 115] } : ByteArray), c, atOf (-1)⟩] 1 v) (hs : Sents W (fun _ => True) a) => refused_any (a := a) _ 1 e v _ _ W he hno hs (by simp))
  have HY1 := hid (fun W => say_any ({ data := #[108, 105, 110, 101, 115] } : ByteArray) ({ data := #[83, 116, 97, 114, 116] } : ByteArray) (-1) 1 (by omega) (by omega) (fun _ => True) W)
  have HY2 := hid (fun W => say_any ({ data := #[108, 105, 110, 101, 115] } : ByteArray) ({ data := #[87, 104, 101, 114, 101] } : ByteArray) (-1) 1 (by omega) (by omega) (fun _ => True) W)
  rw [show ((1 : Nat) : Int) = 1 from rfl] at HY1 HY2
  go_enter Tryz.func24, Tryz.ntmps24
  repeat' (first | (go_at_call 18; go_must ((with_reducible refine Calls.mono HB.out ?_); rintro _ w1 ⟨⟨mb, A1, c1, X, n1, hX, rfl, hM, -, hn1, -⟩, hb1⟩; rw [wk6_els] at hX; subst hX; have B1 := bvia b0 hb1; have HC1 := hid (lcount_any w1 _ mb wk6 _ 2 hM (by decide) (by rw [wk6_rows]; rfl)); rw [show ((2 : Nat) : Int) = 2 from rfl] at HC1; dsimp only)) | (go_at_call 22; go_must (first | ((with_reducible refine Calls.mono HC1.out ?_); rintro _ w2 ⟨rfl, hb2⟩; have B1 := bvia B1 hb2; have hM := hM.step hb2; dsimp only) | ((with_reducible refine Calls.mono (lcount_nil _) ?_); rintro _ w3 ⟨rfl, hb3⟩; have B1 := bvia B1 hb3; have hM := hM.step hb3; have HST := hid (lstart_nil w3 _ (Hs.out.step B1)); dsimp only))) | (go_at_call 66; go_must ((with_reducible refine Calls.mono HST.out ?_); rintro _ w4 ⟨v4, rfl, he4, hb4⟩; have B1 := bvia B1 hb4; have hM := hM.step hb4; have HWN := hid (lwhere_nil w4 _ (Hs.out.step B1)); dsimp only)) | (go_at_call 19; go_must ((with_reducible refine Calls.mono HWN.out ?_); rintro _ w5 ⟨v5, rfl, he5, hb5⟩; have B1 := bvia B1 hb5; have hM := hM.step hb5; have he4 := he4.step hb5; have HTX := hid (ltext_ok w5 _ mb wk6 _ 1 2 0 [98] hM (by decide) (by rw [wk6_rows]; rfl) wk6_start); rw [show ((1 : Nat) : Int) = 1 from rfl, wk6_text] at HTX; dsimp only)) | (go_at_call 23; go_must ((with_reducible refine Calls.mono HTX.out ?_); rintro _ w6 ⟨rfl, hb6⟩; have B1 := bvia B1 hb6; have he4 := he4.step hb6; have he5 := he5.step hb6; dsimp only)) | (go_at_call 67; go_must (first | ((with_reducible refine Calls.mono (HY1.out _) ?_); rintro _ w7 ⟨v7, rfl, hno7, hb7⟩; have B1 := bvia B1 hb7; have he5 := he5.step hb7; have HR := hid (HF.out w7 _ v4 v7 ((he4.step hb7).more (fun _ _ _ => trivial)) (hno7.re (Nat.le_refl _) (Same.refl _ _) (fun _ _ => trivial)) (Hs.out.step B1).wide); dsimp only) | ((with_reducible refine Calls.mono (HY2.out _) ?_); rintro _ w9 ⟨v9, rfl, hno9, hb9⟩; have B1 := bvia B1 hb9; have HR9 := hid (HF.out w9 _ v5 v9 ((he5.step hb9).more (fun _ _ _ => trivial)) (hno9.re (Nat.le_refl _) (Same.refl _ _) (fun _ _ => trivial)) (Hs.out.step B1).wide); dsimp only))) | (go_at_call 30; go_must (first | ((with_reducible refine Calls.mono HR.out ?_); rintro _ w8 ⟨rfl, hb8⟩; have B1 := bvia B1 hb8; have he5 := he5.step hb8; dsimp only) | ((with_reducible refine Calls.mono HR9.out ?_); rintro _ w10 ⟨rfl, hb10⟩; have B1 := bvia B1 hb10; dsimp only))) | (with_reducible refine Keep.last ?_) | (with_reducible refine Keep.below (by assumption) ?_) | (with_reducible refine Keep.kept (by assumption) ?_) | (with_reducible refine Keep.alloc ?_) | (with_reducible refine Keep.same ?_) | ((with_reducible refine WpH.here ?_); first | (refine WpH.nil ?_; refine NoP.normal ?_) | (refine WpH.load (by rfl) (by rfl) (by go_simp; rfl) ?_; simp only [Act.put, List.setIfInBounds_toArray, List.set_cons_zero, List.set_cons_succ]) | (refine WpH.loadT (by rfl) (by rfl) (by go_simp; rfl) (by rintro _ _ ⟨⟩; exact ⟨_, _, _, _, _, _, by rfl, by assumption, by assumption⟩) ?_; simp only [Act.put, List.setIfInBounds_toArray, List.set_cons_zero, List.set_cons_succ]) | (refine WpH.pure (by rfl) (fun w_ => by go_simp; (try go_bits); rfl) ?_; simp only [Act.put, List.setIfInBounds_toArray, List.set_cons_zero, List.set_cons_succ]) | (refine WpH.wild1 (by rfl) (fun _ _ => ?_)) | (refine WpH.skip (by rfl) ?_; simp only [Act.put, List.setIfInBounds_toArray, List.set_cons_zero, List.set_cons_succ])) | go_values | go_skip | go_guarded | go_step | go_upon | go_back)
  skip
  go_ret
  exact ⟨rfl, B1⟩
end Go.Proofs.YtfihjajllfihjaaGreatDoor
