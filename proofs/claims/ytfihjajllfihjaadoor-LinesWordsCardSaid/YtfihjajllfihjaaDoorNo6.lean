/- Chapter 6's refusals by the document: the walk. No condition. -/
import Derived.Test.YtfihjajllfihjaaDoorErr4
import Derived.Test.YtfihjajllfihjaaDoorBel
import Derived.Test.YtfihjajllfihjaaDoorRef5
namespace Go.Proofs.YtfihjajllfihjaaDoor
set_option linter.unusedSimpArgs false
set_option linter.unusedVariables false
open Go Go.RowKit
theorem no6_none (call : ByteArray) (n : Int) (w : World) : Calls Tryd.prog 57 #[.string call, .int .i64 n, .bool false] w fun e w' => e = .returned noNone ∧ Below w.heap.size w w' := by
  unfold noNone
  go_enter Tryd.func57, Tryd.ntmps57
  repeat' (first | (with_reducible refine Keep.last ?_) | (with_reducible refine Keep.below (by assumption) ?_) | (with_reducible refine Keep.kept (by assumption) ?_) | (with_reducible refine Keep.alloc ?_) | (with_reducible refine Keep.same ?_) | ((with_reducible refine WpH.here ?_); first | (refine WpH.nil ?_; refine NoP.normal ?_) | (refine WpH.load (by rfl) (by rfl) (by go_simp; rfl) ?_; simp only [Act.put, List.setIfInBounds_toArray, List.set_cons_zero, List.set_cons_succ]) | (refine WpH.loadT (by rfl) (by rfl) (by go_simp; rfl) (by rintro _ _ ⟨⟩; exact ⟨_, _, _, _, _, _, by rfl, by assumption, by assumption⟩) ?_; simp only [Act.put, List.setIfInBounds_toArray, List.set_cons_zero, List.set_cons_succ]) | (refine WpH.pure (by rfl) (fun w_ => by go_simp; (try go_bits); rfl) ?_; simp only [Act.put, List.setIfInBounds_toArray, List.set_cons_zero, List.set_cons_succ]) | (refine WpH.wild1 (by rfl) (fun _ _ => ?_)) | (refine WpH.skip (by rfl) ?_; simp only [Act.put, List.setIfInBounds_toArray, List.set_cons_zero, List.set_cons_succ])) | go_values | go_skip | go_guarded | go_step | go_upon | go_back)
  exact bodyPost_ret (v := .agg #[.int .i64 0, .slice none 0 0, .slice none 0 0]) (by simp [results, Tryd.results57, go_sem]) rfl ⟨rfl, by (repeat' (first | (with_reducible exact Below.refl _ _) | (with_reducible assumption) | (with_reducible refine balloc ?_) | (with_reducible refine bdrew ?_) | (with_reducible refine bset ?_ (by (try dsimp only); omega)) | (with_reducible refine bvia ?_ (by assumption))))⟩
theorem no6_any (call : ByteArray) (n : Int) (S : Nat → Prop) (w : World) : Calls Tryd.prog 57 #[.string call, .int .i64 n, .bool true] w fun e w' => ∃ v, e = .returned v ∧ IsNo w' (Fr w S) [⟨({ data := #[108, 105, 110, 101, 115] } : ByteArray), call, atOf n⟩] 2 v ∧ Below w.heap.size w w' := by
  have b1 : Below w.heap.size w (w.alloc (.cells #[.int .i64 0, .slice none 0 0, .slice none 0 0] 75)) := balloc (Below.refl _ _)
  have hB := Blk.new w 75 #[.int .i64 0, .slice none 0 0, .slice none 0 0]
  have HS := hid (say_any ({ data := #[108, 105, 110, 101, 115] } : ByteArray) call n 2 (by omega) (by omega) (fun b => S b ∧ b < w.heap.size) (w.alloc (.cells #[.int .i64 0, .slice none 0 0, .slice none 0 0] 75)))
  go_enter Tryd.func57, Tryd.ntmps57
  repeat' (first | (go_at_call 90; go_must ((with_reducible refine Calls.mono HS.out ?_); rintro _ w2 ⟨v, rfl, ⟨h1, A, m, d, B, e, rfl, hr1, hr2⟩, hb2⟩; have hB2 := hB.step hb2; have c0 := hB2.cell 0; have c1 := hB2.cell 1; have c2 := hB2.cell 2; have f0 := hB2.frozen 0; have f1 := hB2.frozen 1; have f2 := hB2.frozen 2; simp at c0 c1 c2; have hlt := hB2.lt; dsimp only)) | (with_reducible refine Keep.last ?_) | (with_reducible refine Keep.below (by assumption) ?_) | (with_reducible refine Keep.kept (by assumption) ?_) | (with_reducible refine Keep.alloc ?_) | (with_reducible refine Keep.same ?_) | ((with_reducible refine WpH.here ?_); first | (refine WpH.nil ?_; refine NoP.normal ?_) | (refine WpH.load (by rfl) (by rfl) (by go_simp; rfl) ?_; simp only [Act.put, List.setIfInBounds_toArray, List.set_cons_zero, List.set_cons_succ]) | (refine WpH.loadT (by rfl) (by rfl) (by go_simp; rfl) (by rintro _ _ ⟨⟩; exact ⟨_, _, _, _, _, _, by rfl, by assumption, by assumption⟩) ?_; simp only [Act.put, List.setIfInBounds_toArray, List.set_cons_zero, List.set_cons_succ]) | (refine WpH.pure (by rfl) (fun w_ => by go_simp; (try go_bits); rfl) ?_; simp only [Act.put, List.setIfInBounds_toArray, List.set_cons_zero, List.set_cons_succ]) | (refine WpH.wild1 (by rfl) (fun _ _ => ?_)) | (refine WpH.skip (by rfl) ?_; simp only [Act.put, List.setIfInBounds_toArray, List.set_cons_zero, List.set_cons_succ])) | go_values | go_skip | go_guarded | go_step | go_upon | go_back)
  have hz : (w.alloc (.cells #[.int .i64 0, .slice none 0 0, .slice none 0 0] 75)).heap.size = w.heap.size + 1 := Array.size_push _
  have ns : ¬ Fr (w.alloc (.cells #[.int .i64 0, .slice none 0 0, .slice none 0 0] 75)) (fun b => S b ∧ b < w.heap.size) w.heap.size := fun h => by
    rcases h with h | h
    · omega
    · rw [hz] at h
      omega
  have sm : ∀ x y z : Value, Same (Fr (w.alloc (.cells #[.int .i64 0, .slice none 0 0, .slice none 0 0] 75)) (fun b => S b ∧ b < w.heap.size)) w2 (((w2.setCell ⟨w.heap.size, 0, none⟩ x).setCell ⟨w.heap.size, 1, none⟩ y).setCell ⟨w.heap.size, 2, none⟩ z) := fun x y z =>
    ((Same.setCell w2 ns _).trans (by simp [World.setCell]) (Same.setCell _ ns _)).trans (by simp [World.setCell]) (Same.setCell _ ns _)
  have hre : ∀ b, Fr (w.alloc (.cells #[.int .i64 0, .slice none 0 0, .slice none 0 0] 75)) (fun b => S b ∧ b < w.heap.size) b → Fr w S b := by
    intro b h
    rcases h with h | h
    · exact .inl h.1
    · rw [hz] at h
      exact .inr (by omega)
  refine bodyPost_ret (v := .agg #[.int .i64 2, .slice A m d, .slice B 1 e]) (by simp [results, Tryd.results57, go_sem, c0, c1, c2, hlt, size_set]) rfl ⟨_, rfl, ⟨h1, A, m, d, B, e, rfl, ?_, ?_⟩, ?_⟩
  · exact (hr1.keep (by simp [World.setCell]) (sm _ _ _)).more fun b _ h => hre b h
  · exact (hr2.keep (by simp [World.setCell]) (sm _ _ _)).more fun b _ h => hre b h
  · exact (((b1.trans (hb2.mono b1.size)).setCell (Nat.le_refl _) _).setCell (Nat.le_refl _) _).setCell (Nat.le_refl _) _
end Go.Proofs.YtfihjajllfihjaaDoor
