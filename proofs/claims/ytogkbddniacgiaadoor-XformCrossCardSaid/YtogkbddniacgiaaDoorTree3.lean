/- A node made of a leaf and its sides: the walk of made. Conditions: the sides and the leaf lie in memory, the leaf is not empty, all together fewer than 2^40 elements. -/
import Derived.Test.YtogkbddniacgiaaDoorTree2
namespace Go.Proofs.YtogkbddniacgiaaDoor
set_option linter.unusedSimpArgs false
set_option linter.unusedVariables false
open Go Go.RowKit

set_option maxHeartbeats 1000000 in
theorem made_any (l r : Tr) (pl pr : Option Addr) (A : Option Addr) (n c : Nat) (row : List El) (S : Nat → Prop) (w : World) (hl : IsTree w S l pl) (hr : IsTree w S r pr) (hrow : Row w S A n c row) (hne : row ≠ [])
    (hbd : l.all.length + row.length + r.all.length ≤ 1099511627776) :
    Calls Tryd.prog 139 #[.pointer pl, .slice A n c, .pointer pr] w (TreeRet w S (· = .node l row r)) := by
  have hn : n = row.length := hrow.1.symm
  subst hn
  have h1 := liveOf_le l.all
  have h2 := liveOf_le r.all
  have h3 := liveOf_le row
  have h4 := linesOf_le l.all
  have h5 := linesOf_le r.all
  have h6 := linesOf_le row
  have h7 := hl.high_le
  have h8 := hr.high_le
  have hl0 := hid hl
  have hr0 := hid hr
  have hrow0 := hid hrow
  go_enter Tryd.func139, Tryd.ntmps139
  have hB : Below w.heap.size w w := Below.refl _ _
  repeat' (first | (go_at_call 77; first | ((with_reducible refine (size_any l pl S _ hl).mono ?_); rintro _ _ ⟨rfl, rfl⟩; dsimp only) | ((with_reducible refine (size_any r pr S _ hr).mono ?_); rintro _ _ ⟨rfl, rfl⟩; dsimp only)) | (go_at_call 143; first | ((with_reducible refine (high_any l pl S _ hl).mono ?_); rintro _ _ ⟨rfl, rfl⟩; dsimp only) | ((with_reducible refine (high_any r pr S _ hr).mono ?_); rintro _ _ ⟨rfl, rfl⟩; dsimp only)) | (go_at_call 95; first | ((with_reducible refine (weighs_any l pl S _ hl).mono ?_); rintro _ wk ⟨rfl, hbk⟩; replace hl := hl.step hbk; replace hr := hr.step hbk; replace hrow := hrow.step hbk; replace hB := hB.trans (hbk.mono hB.size); dsimp only) | ((with_reducible refine (weighs_any r pr S _ hr).mono ?_); rintro _ wk ⟨rfl, hbk⟩; replace hl := hl.step hbk; replace hr := hr.step hbk; replace hrow := hrow.step hbk; replace hB := hB.trans (hbk.mono hB.size); dsimp only)) | (go_at_call 96; ((with_reducible refine (weigh_any A _ c row S _ hrow (by omega)).mono ?_); rintro _ wk ⟨rfl, hbk⟩; replace hl := hl.step hbk; replace hr := hr.step hbk; replace hrow := hrow.step hbk; replace hB := hB.trans (hbk.mono hB.size); dsimp only)) | (go_at_call 94; ((with_reducible refine (plus_in _ _ _ _ _ (by omega) (by omega) (by omega) (by omega) (by omega) (by omega)).mono ?_); rintro _ wk ⟨rfl, hbk⟩; replace hl := hl.step hbk; replace hr := hr.step hbk; replace hrow := hrow.step hbk; replace hB := hB.trans (hbk.mono hB.size); dsimp only)) | (with_reducible refine Keep.last ?_) | (with_reducible refine Keep.below (by assumption) ?_) | (with_reducible refine Keep.kept (by assumption) ?_) | (with_reducible refine Keep.alloc ?_) | (with_reducible refine Keep.same ?_) | ((with_reducible refine WpH.here ?_); first | (refine WpH.nil ?_; refine NoP.normal ?_) | (refine WpH.load (by rfl) (by rfl) (by go_simp; rfl) ?_; simp only [Act.put, List.setIfInBounds_toArray, List.set_cons_zero, List.set_cons_succ]) | (refine WpH.loadT (by rfl) (by rfl) (by go_simp; rfl) (by rintro _ _ ⟨⟩; exact ⟨_, _, _, _, _, _, by rfl, by assumption, by assumption⟩) ?_; simp only [Act.put, List.setIfInBounds_toArray, List.set_cons_zero, List.set_cons_succ]) | (refine WpH.pure (by rfl) (fun w_ => by go_simp; (try go_bits); rfl) ?_; simp only [Act.put, List.setIfInBounds_toArray, List.set_cons_zero, List.set_cons_succ]) | (refine WpH.wild1 (by rfl) (fun _ _ => ?_)) | (refine WpH.skip (by rfl) ?_; simp only [Act.put, List.setIfInBounds_toArray, List.set_cons_zero, List.set_cons_succ])) | go_values | go_skip | go_guarded | go_step | go_upon | go_back)
  go_ret
  have hmax : (if l.high < r.high then (r.high : Int) else l.high) + 1 = ((Tr.node l row r).high : Int) := by
    simp only [Tr.high]
    split <;> omega
  have hlen : (l.all.length : Int) + row.length + r.all.length = ((Tr.node l row r).all.length : Int) := by simp [Tr.all]; omega
  have hliv : (liveOf l.all : Int) + liveOf row + liveOf r.all = (liveOf (Tr.node l row r).all : Int) := by simp [Tr.all, liveOf_append]; omega
  have hlin : (linesOf l.all : Int) + linesOf row + linesOf r.all = (linesOf (Tr.node l row r).all : Int) := by simp [Tr.all, linesOf_append]; omega
  rw [hmax, hlen, hliv, hlin]
  have hsz := hB.size
  have hblk := Blk.new wk 131 #[.slice A row.length c, .pointer pl, .pointer pr, .int .i64 (Tr.node l row r).all.length, .int .i64 (Tr.node l row r).high, .int .i64 (liveOf (Tr.node l row r).all), .int .i64 (linesOf (Tr.node l row r).all)]
  refine ⟨_, .node l row r, rfl, ⟨hne, wk.heap.size, A, row.length, c, pl, pr, rfl, .inr hsz, ?_, ?_, ?_, hblk.cell 0, hblk.cell 1, hblk.cell 2, hblk.cell 3, hblk.cell 4, hblk.cell 5, hblk.cell 6⟩, rfl, hB.alloc hsz _⟩
  · exact (hrow.keep (Same.alloc _ _ _)).more fun _ _ h => .inl h
  · exact (hl.keep (Same.alloc _ _ _)).more fun _ _ h => .inl h
  · exact (hr.keep (Same.alloc _ _ _)).more fun _ _ h => .inl h
end Go.Proofs.YtogkbddniacgiaaDoor
