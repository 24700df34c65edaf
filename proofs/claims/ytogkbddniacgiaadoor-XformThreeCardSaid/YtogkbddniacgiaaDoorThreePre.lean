/- The plain law of XformThree, and its six orders in memory. No condition. -/
import Derived.Test.YtogkbddniacgiaaDoorTrioOpen
namespace Go.Proofs.YtogkbddniacgiaaDoor
set_option linter.unusedSimpArgs false
set_option linter.unusedVariables false
open Go Go.RowKit
def thirdOf (x y z : Opn) : List Opn := [x, Tof y x, Tof (Tof z x) (Tof y x)]
/-- all six orders make one row -/
theorem six_orders {L : List El} {a b c : Opn} (ca : Can L a) (cb : Can L b) (cc : Can L c) (hab : a.rep ≠ b.rep) (hac : a.rep ≠ c.rep) (hbc : b.rep ≠ c.rep) (hl : L.length < 4611686018427387904) :
    doneAll L (thirdOf a c b) = doneAll L (thirdOf a b c) ∧ doneAll L (thirdOf b a c) = doneAll L (thirdOf a b c) ∧ doneAll L (thirdOf b c a) = doneAll L (thirdOf a b c) ∧ doneAll L (thirdOf c a b) = doneAll L (thirdOf a b c) ∧ doneAll L (thirdOf c b a) = doneAll L (thirdOf a b c) := by
  have e1 : doneAll L (thirdOf a c b) = doneAll L (thirdOf a b c) := (three_swap23 ca cb cc hab hac hbc hl).symm
  have e2 : doneAll L (thirdOf b a c) = doneAll L (thirdOf a b c) := (three_swap12 ca cb cc hab hl).symm
  have e3 : doneAll L (thirdOf b c a) = doneAll L (thirdOf b a c) := (three_swap23 cb ca cc hab.symm hbc hac hl).symm
  have e4 : doneAll L (thirdOf c a b) = doneAll L (thirdOf a c b) := (three_swap12 ca cc cb hac hl).symm
  have e5 : doneAll L (thirdOf c b a) = doneAll L (thirdOf b c a) := (three_swap12 cb cc ca hbc hl).symm
  exact ⟨e1, e2, e3.trans e2, e4.trans e1, e5.trans (e3.trans e2)⟩
/-- the order number i -/
def orderAt (a b c : Opn) : Nat → Opn × Opn × Opn
  | 0 => (a, b, c)
  | 1 => (a, c, b)
  | 2 => (b, a, c)
  | 3 => (b, c, a)
  | 4 => (c, a, b)
  | _ => (c, b, a)
theorem order_done {L : List El} {a b c : Opn} (hq : Calm 2 L) (ca : Can L a) (cb : Can L b) (cc : Can L c) (hab : a.rep ≠ b.rep) (hac : a.rep ≠ c.rep) (hbc : b.rep ≠ c.rep) (hl : L.length < 4611686018427387904) (i : Nat) :
    CanAll L (thirdOf (orderAt a b c i).1 (orderAt a b c i).2.1 (orderAt a b c i).2.2) ∧ doneAll L (thirdOf (orderAt a b c i).1 (orderAt a b c i).2.1 (orderAt a b c i).2.2) = doneAll L (thirdOf a b c) := by
  obtain ⟨e1, e2, e3, e4, e5⟩ := six_orders ca cb cc hab hac hbc hl
  match i with
  | 0 => exact ⟨canAll_three ca cb cc hq hab hac hbc hl, rfl⟩
  | 1 => exact ⟨canAll_three ca cc cb hq hac hab hbc.symm hl, e1⟩
  | 2 => exact ⟨canAll_three cb ca cc hq hab.symm hbc hac hl, e2⟩
  | 3 => exact ⟨canAll_three cb cc ca hq hbc hab.symm hac.symm hl, e3⟩
  | 4 => exact ⟨canAll_three cc ca cb hq hac.symm hbc.symm hab hl, e4⟩
  | _ + 5 => exact ⟨canAll_three cc cb ca hq hbc.symm hac.symm hab.symm hl, e5⟩
/-- three operations' cells, one behind the other -/
def triCells (x y z : Opn) : Array Value := #[.int .i64 x.kind, .int .i64 x.at_, .int .i32 x.char, .int .i64 x.rep, .int .i64 y.kind, .int .i64 y.at_, .int .i32 y.char, .int .i64 y.rep, .int .i64 z.kind, .int .i64 z.at_, .int .i32 z.char, .int .i64 z.rep]
def sixCells (a b c : Opn) : Array Value := ((triCells a b c).toList ++ (triCells a c b).toList ++ (triCells b a c).toList ++ (triCells b c a).toList ++ (triCells c a b).toList ++ (triCells c b a).toList).toArray
def zero4 : List Value := [.int .i64 0, .int .i64 0, .int .i32 0, .int .i64 0]
def zero72 : Array Value := (List.replicate 18 zero4).flatten.toArray
set_option maxRecDepth 100000 in
theorem six_get (a b c : Opn) (k : Nat) (hk : k < 6) (j : Nat) (hj : j < 12) : (sixCells a b c)[k * 12 + j]? = (triCells (orderAt a b c k).1 (orderAt a b c k).2.1 (orderAt a b c k).2.2)[j]? := by
  rcases (show k = 0 ∨ k = 1 ∨ k = 2 ∨ k = 3 ∨ k = 4 ∨ k = 5 from by omega) with rfl | rfl | rfl | rfl | rfl | rfl <;>
  rcases (show j = 0 ∨ j = 1 ∨ j = 2 ∨ j = 3 ∨ j = 4 ∨ j = 5 ∨ j = 6 ∨ j = 7 ∨ j = 8 ∨ j = 9 ∨ j = 10 ∨ j = 11 from by omega) with rfl | rfl | rfl | rfl | rfl | rfl | rfl | rfl | rfl | rfl | rfl | rfl <;> rfl
set_option maxRecDepth 100000 in
theorem built_six (a b c : Opn) : Tryd.prog.built 73 [(0, .agg (triCells a b c)), (1, .agg (triCells a c b)), (2, .agg (triCells b a c)), (3, .agg (triCells b c a)), (4, .agg (triCells c a b)), (5, .agg (triCells c b a))] = some (sixCells a b c) := by kernel_rfl
set_option maxRecDepth 100000 in
theorem zero_six (w : World) : (zeroValue 73).run Tryd.prog w = .ok (.agg zero72) w := by kernel_rfl
set_option maxRecDepth 100000 in
theorem six_here {ac : Act} {K : Act → World → Prop} {Q : Exit → Act → World → Prop} {w : World} {dst : Option Tmp} {parts : Array (Nat × Operand)} {ty : TypeId} {pos : String} {after : Array Edge} {guard : Option (Nat × Bool)}
    (h : Oper.wp Tryd.prog ⟨dst, .build 73 parts, ty, pos, after, guard⟩ ac w K Q) : Oper.wp Tryd.prog ⟨dst, .build 73 parts, ty, pos, after, guard⟩ ac w K Q := h
theorem wp_buildV {P : Program} {ac : Act} {K : Act → World → Prop} {Q : Exit → Act → World → Prop} {w : World} {dst : Option Tmp} {t : TypeId} {parts : Array (Nat × Operand)} {ty : TypeId} {pos : String} {after : Array Edge} {guard : Option (Nat × Bool)}
    (cells : Array Value) (hb : P.built t (parts.map fun (i, x) => (i, ac.eval x)).toList = some cells) (h : K (ac.put dst (.agg cells)) w) : Oper.wp P ⟨dst, .build t parts, ty, pos, after, guard⟩ ac w K Q :=
  wp_build t parts rfl (by rw [hb]; rfl) (by rw [hb]; exact h)
set_option maxRecDepth 100000 in
theorem sixAlloc_here {ac : Act} {K : Act → World → Prop} {Q : Exit → Act → World → Prop} {w : World} {dst : Option Tmp} {ty : TypeId} {pos : String} {after : Array Edge} {guard : Option (Nat × Bool)}
    (h : Oper.wp Tryd.prog ⟨dst, .alloc 73, ty, pos, after, guard⟩ ac w K Q) : Oper.wp Tryd.prog ⟨dst, .alloc 73, ty, pos, after, guard⟩ ac w K Q := h
theorem wp_allocV {P : Program} {ac : Act} {K : Act → World → Prop} {Q : Exit → Act → World → Prop} {w : World} {dst : Option Tmp} {t : TypeId} {ty : TypeId} {pos : String} {after : Array Edge} {guard : Option (Nat × Bool)}
    (zs : Array Value) (hz : ∀ w, (zeroValue t).run P w = .ok (.agg zs) w) (h : K (ac.put dst (.pointer (some ⟨w.heap.size, 0, none⟩))) (w.alloc (.cells zs t))) : Oper.wp P ⟨dst, .alloc t, ty, pos, after, guard⟩ ac w K Q := by
  unfold Oper.wp execOp
  simp only [Instr.alloc, Sem.run_bind, hz, Result.andThen_ok, newVar, Value.cells]
  exact h
set_option maxRecDepth 100000 in
theorem sixStore_here {ac : Act} {K : Act → World → Prop} {Q : Exit → Act → World → Prop} {w : World} {dst : Option Tmp} {x y : Operand} {ty : TypeId} {pos : String} {after : Array Edge} {guard : Option (Nat × Bool)}
    (h : Oper.wp Tryd.prog ⟨dst, .store 73 x y, ty, pos, after, guard⟩ ac w K Q) : Oper.wp Tryd.prog ⟨dst, .store 73 x y, ty, pos, after, guard⟩ ac w K Q := h
/-- an order's three are right, if the three are -/
theorem order_in {a b c : Opn} (h : a.In ∧ b.In ∧ c.In) (i : Nat) : (orderAt a b c i).1.In ∧ (orderAt a b c i).2.1.In ∧ (orderAt a b c i).2.2.In := by
  obtain ⟨h1, h2, h3⟩ := h
  match i with
  | 0 => exact ⟨h1, h2, h3⟩
  | 1 => exact ⟨h1, h3, h2⟩
  | 2 => exact ⟨h2, h1, h3⟩
  | 3 => exact ⟨h2, h3, h1⟩
  | 4 => exact ⟨h3, h1, h2⟩
  | _ + 5 => exact ⟨h3, h2, h1⟩
theorem stop_loop {P : Program} {c : Code} {Q : Exit → Act → World → Prop} {a : Act} {w : World} (h : Stop ((Code.loop c).wp P Q a w)) : (Code.loop c).wp P Q a w := by unfold Stop at h; exact h
theorem Keep.three {T : Nat → Prop} {t : Bool} {w : World} {x y z x' y' z' : Obj} {X : Prop} (hT : ∀ b, T b → b < w.heap.size) (h : X) : Keep T t (((w.alloc x).alloc y).alloc z).drew (((w.alloc x').alloc y').alloc z').drew X := by
  have s1 : ∀ x y z : Obj, (((w.alloc x).alloc y).alloc z).heap.size = w.heap.size + 1 + 1 + 1 := fun x y z => by rw [box_size, box_size, box_size]
  have e1 : ∀ x y z : Obj, Below w.heap.size w (((w.alloc x).alloc y).alloc z) := fun x y z => balloc (balloc (balloc (Below.refl _ _)))
  refine Keep.kept ⟨?_, fun b _ hb => ?_⟩ h
  · show (((w.alloc x).alloc y).alloc z).heap.size ≤ (((w.alloc x').alloc y').alloc z').heap.size
    rw [s1, s1]
    exact Nat.le_refl _
  · exact ((e1 x' y' z').block b (hT b hb)).trans ((e1 x y z).block b (hT b hb)).symm
end Go.Proofs.YtogkbddniacgiaaDoor
