/- What the laws about a row and three operations share: the struct that comes in, rows of the call's own behind a step. No condition. -/
import Derived.Test.YtogkbddniacgiaaDoorOps3
namespace Go.Proofs.YtogkbddniacgiaaDoor
set_option linter.unusedSimpArgs false
set_option linter.unusedVariables false
open Go Go.RowKit
theorem belowKeep' {w w' : World} (h : Below w.heap.size w w') (T : Nat → Prop) : KeepT T w w' := ⟨h.size, fun b hl _ => h.block b hl⟩
theorem Own.drew {w : World} {base : Nat} {A : Option Addr} {n c : Nat} {es : List El} (h : Own w base A n c es) : Own w.drew base A n c es := h.keep (S := fun _ => True) (Same.drew _ _) fun _ _ => trivial
/-- the struct Trio's cells -/
def trioCells (A : Option Addr) (n c : Nat) (a b o : Opn) (who : Int) : Array Value :=
  #[.slice A n c, .int .i64 a.kind, .int .i64 a.at_, .int .i32 a.char, .int .i64 a.rep, .int .i64 b.kind, .int .i64 b.at_, .int .i32 b.char, .int .i64 b.rep, .int .i64 o.kind, .int .i64 o.at_, .int .i32 o.char, .int .i64 o.rep, .int .i64 who]
theorem trio_cells {w : World} {g : Nat} {t : TypeId} {A : Option Addr} {n c : Nat} {a b o : Opn} {who : Int} (h : Blk w g t (trioCells A n c a b o who)) :
    w.cell? ⟨g, 0, none⟩ = some (.slice A n c) ∧ w.cell? ⟨g, 1, none⟩ = some (.int .i64 a.kind) ∧ w.cell? ⟨g, 2, none⟩ = some (.int .i64 a.at_) ∧ w.cell? ⟨g, 3, none⟩ = some (.int .i32 a.char) ∧ w.cell? ⟨g, 4, none⟩ = some (.int .i64 a.rep) ∧
    w.cell? ⟨g, 5, none⟩ = some (.int .i64 b.kind) ∧ w.cell? ⟨g, 6, none⟩ = some (.int .i64 b.at_) ∧ w.cell? ⟨g, 7, none⟩ = some (.int .i32 b.char) ∧ w.cell? ⟨g, 8, none⟩ = some (.int .i64 b.rep) ∧
    w.cell? ⟨g, 9, none⟩ = some (.int .i64 o.kind) ∧ w.cell? ⟨g, 10, none⟩ = some (.int .i64 o.at_) ∧ w.cell? ⟨g, 11, none⟩ = some (.int .i32 o.char) ∧ w.cell? ⟨g, 12, none⟩ = some (.int .i64 o.rep) ∧ w.cell? ⟨g, 13, none⟩ = some (.int .i64 who) ∧ g < w.heap.size :=
  ⟨h.cell 0, h.cell 1, h.cell 2, h.cell 3, h.cell 4, h.cell 5, h.cell 6, h.cell 7, h.cell 8, h.cell 9, h.cell 10, h.cell 11, h.cell 12, h.cell 13, h.lt⟩
theorem Blk.three {w : World} {g : Nat} {t : TypeId} {x y z : Value} (h : Blk w g t #[x, y, z]) : w.cell? ⟨g, 0, none⟩ = some x ∧ w.cell? ⟨g, 1, none⟩ = some y ∧ w.cell? ⟨g, 2, none⟩ = some z ∧ g < w.heap.size :=
  ⟨h.cell 0, h.cell 1, h.cell 2, h.lt⟩
theorem box_size (w : World) (o : Obj) : (w.alloc o).heap.size = w.heap.size + 1 := Array.size_push _
/-- two operations, laid out as a row -/
def twoCells (a b : Opn) : Array Value := #[.int .i64 a.kind, .int .i64 a.at_, .int .i32 a.char, .int .i64 a.rep, .int .i64 b.kind, .int .i64 b.at_, .int .i32 b.char, .int .i64 b.rep]
theorem two_row (w : World) (a b : Opn) : GRow (w.alloc (.cells (twoCells a b) 58)) (fun _ => True) (some ⟨w.heap.size, 0, none⟩) 2 2 [a, b] :=
  (GOwn.lit (t := 58) w (twoCells a b) [a, b] 0 (Nat.zero_le _) (show 2 ≤ maxLen by decide) rfl).row fun _ _ _ => trivial
theorem Fits.in_ {o : Opn} {n : Nat} (h : Fits o n) (hn : n ≤ 1000000) : o.In := by
  have h1 := h.lo
  have h2 := h.hi
  have h3 := rightOp_rep h.right
  have hk := h.kind
  refine ⟨by unfold I64; omega, by unfold I64; omega, ?_, by unfold I64; omega⟩
  have hr := h.right
  unfold rightOp at hr
  rw [if_neg (by omega)] at hr
  split at hr
  · unfold rightC at hr
    have := of_decide_eq_true hr
    unfold I32
    omega
  · split at hr
    · have := of_decide_eq_true hr
      unfold I32
      omega
    · cases hr
/-- a row behind two operations -/
theorem done_two (W : World) (w0 : Nat) (A : Option Addr) (c : Nat) (L : List El) (x y : Opn) (hown : Own W w0 A L.length c L) (hl : L.length ≤ 60) (hg : ∀ e ∈ L, e.Good) (hd : (L.map El.nm).Nodup) (hc : CanAll L [x, y]) :
    Calls Tryd.prog 36 #[.slice A L.length c, .slice (some ⟨W.heap.size, 0, none⟩) 2 2] (W.alloc (.cells #[.int .i64 x.kind, .int .i64 x.at_, .int .i32 x.char, .int .i64 x.rep, .int .i64 y.kind, .int .i64 y.at_, .int .i32 y.char, .int .i64 y.rep] 58)) fun e w' =>
      ∃ A' c', e = .returned (.tuple #[.slice A' (doneAll L [x, y]).length c', .bool true]) ∧ Own w' W.heap.size A' (doneAll L [x, y]).length c' (doneAll L [x, y]) ∧ Below W.heap.size W w' ∧ Below (W.alloc (.cells #[.int .i64 x.kind, .int .i64 x.at_, .int .i32 x.char, .int .i64 x.rep, .int .i64 y.kind, .int .i64 y.at_, .int .i32 y.char, .int .i64 y.rep] 58)).heap.size (W.alloc (.cells #[.int .i64 x.kind, .int .i64 x.at_, .int .i32 x.char, .int .i64 x.rep, .int .i64 y.kind, .int .i64 y.at_, .int .i32 y.char, .int .i64 y.rep] 58)) w' := by
  have e1 := balloc (o := .cells (twoCells x y) 58) (Below.refl _ W)
  have hrow := two_row W x y
  unfold twoCells at e1 hrow
  refine (done_ok _ A (some ⟨W.heap.size, 0, none⟩) L.length c 2 2 L [x, y] (fun _ => True) (fun _ => True) ((hown.step e1).row fun _ _ _ => trivial) hrow (by omega) (by omega) hg hd hc).mono ?_
  rintro _ w' ⟨A', c', rfl, ho, hb⟩
  exact ⟨A', c', rfl, ho.mono e1.size, bvia e1 hb, hb⟩
/-- a row behind three operations -/
theorem done_three (W : World) (w0 : Nat) (A : Option Addr) (c : Nat) (L : List El) (x y z : Opn) (hown : Own W w0 A L.length c L) (hl : L.length ≤ 60) (hg : ∀ e ∈ L, e.Good) (hd : (L.map El.nm).Nodup) (hc : CanAll L [x, y, z]) :
    Calls Tryd.prog 36 #[.slice A L.length c, .slice (some ⟨W.heap.size, 0, none⟩) 3 3] (W.alloc (.cells #[.int .i64 x.kind, .int .i64 x.at_, .int .i32 x.char, .int .i64 x.rep, .int .i64 y.kind, .int .i64 y.at_, .int .i32 y.char, .int .i64 y.rep, .int .i64 z.kind, .int .i64 z.at_, .int .i32 z.char, .int .i64 z.rep] 58)) fun e w' =>
      ∃ A' c', e = .returned (.tuple #[.slice A' (doneAll L [x, y, z]).length c', .bool true]) ∧ Own w' W.heap.size A' (doneAll L [x, y, z]).length c' (doneAll L [x, y, z]) ∧ Below W.heap.size W w' ∧ Below (W.alloc (.cells #[.int .i64 x.kind, .int .i64 x.at_, .int .i32 x.char, .int .i64 x.rep, .int .i64 y.kind, .int .i64 y.at_, .int .i32 y.char, .int .i64 y.rep, .int .i64 z.kind, .int .i64 z.at_, .int .i32 z.char, .int .i64 z.rep] 58)).heap.size (W.alloc (.cells #[.int .i64 x.kind, .int .i64 x.at_, .int .i32 x.char, .int .i64 x.rep, .int .i64 y.kind, .int .i64 y.at_, .int .i32 y.char, .int .i64 y.rep, .int .i64 z.kind, .int .i64 z.at_, .int .i32 z.char, .int .i64 z.rep] 58)) w' := by
  have e1 := balloc (o := .cells #[.int .i64 x.kind, .int .i64 x.at_, .int .i32 x.char, .int .i64 x.rep, .int .i64 y.kind, .int .i64 y.at_, .int .i32 y.char, .int .i64 y.rep, .int .i64 z.kind, .int .i64 z.at_, .int .i32 z.char, .int .i64 z.rep] 58) (Below.refl _ W)
  have hrow := (GOwn.lit (t := 58) W #[.int .i64 x.kind, .int .i64 x.at_, .int .i32 x.char, .int .i64 x.rep, .int .i64 y.kind, .int .i64 y.at_, .int .i32 y.char, .int .i64 y.rep, .int .i64 z.kind, .int .i64 z.at_, .int .i32 z.char, .int .i64 z.rep] [x, y, z] 0 (Nat.zero_le _) (show 3 ≤ maxLen by decide) rfl).row (S := fun _ => True) fun _ _ _ => trivial
  refine (done_ok _ A (some ⟨W.heap.size, 0, none⟩) L.length c 3 3 L [x, y, z] (fun _ => True) (fun _ => True) ((hown.step e1).row fun _ _ _ => trivial) hrow (by omega) (by omega) hg hd hc).mono ?_
  rintro _ w' ⟨A', c', rfl, ho, hb⟩
  exact ⟨A', c', rfl, ho.mono e1.size, bvia e1 hb, hb⟩
end Go.Proofs.YtogkbddniacgiaaDoor
