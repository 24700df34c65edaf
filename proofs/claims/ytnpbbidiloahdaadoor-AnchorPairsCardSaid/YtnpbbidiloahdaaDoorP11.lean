/- A set of names (IDs) in memory: made, asked, written, struck from. Condition: the names' numbers fit their kind. A range over a function: the statement's law for an iterator that keeps a count of its own; a round's regions walked as anywhere. No condition. Plain wp theory, no program in sight. -/
import Derived.Test.YtnpbbidiloahdaaDoorP4
import Derived.Test.YtnpbbidiloahdaaDoorP10
import Derived.Maps.OwnSet
import Derived.DeepKeys4
import Derived.WalkKit
import Derived.Test.YtnpbbidiloahdaaDoorSRegion
import Derived.RangeFuncNested
import Derived.RangeFuncBound
import Derived.RangeFuncCalls
import Derived.RangeFuncLeaves
import Derived.Shelf.Abstract
import Derived.TacticsIn
import Derived.OrdersIn
namespace Go.Proofs.YtnpbbidiloahdaaDoor
set_option linter.unusedSimpArgs false
set_option linter.unusedVariables false
open Go Go.RowKit Go.Maps

/-- an element's ID -/
structure Nm where
  epoch : Int
  rep : Int
  num : Int
deriving DecidableEq
def Nm.val (i : Nm) : Value := .agg #[.int .i64 i.epoch, .int .i64 i.rep, .int .i64 i.num]
def I64 (n : Int) : Prop := -9223372036854775808 ≤ n ∧ n ≤ 9223372036854775807
def Nm.In (i : Nm) : Prop := I64 i.epoch ∧ I64 i.rep ∧ I64 i.num
def El.nm (e : El) : Nm := ⟨e.epoch, e.rep, e.num⟩
theorem I64.wf {n : Int} (h : I64 n) : (Lit.int .i64 n).wf = true := by
  simp only [Lit.wf, Bool.and_eq_true, decide_eq_true_eq, show IntKind.i64.min = -9223372036854775808 from by decide, show IntKind.i64.max = 9223372036854775807 from by decide]
  exact h
theorem Tryd.idKeyType : Tryd.prog.keyType 30 = true := by kernel_rfl
theorem Tryd.idLaw : WideMaps.KeyLaw Tryd.prog 30 := deep_law_laid laidOut (m := 2) (by omega) (of_decide_eq_true (by kernel_rfl)) (by kernel_rfl) (by kernel_rfl)
theorem Tryd.idKeyed : Keyed Tryd.prog 30 := Keyed.of_law Tryd.idLaw
theorem nm_key (i : Nm) (h : i.In) : ∃ l, keyOf Tryd.prog 30 i.val = some l := by
  have hf : i.val.formed Tryd.prog 30 = true := by kernel_rfl
  obtain ⟨n, hn⟩ : ∃ n, Tryd.prog.types.size = n + 1 := ⟨Tryd.prog.types.size - 1, by
    have h0 : 0 < Tryd.prog.types.size := of_decide_eq_true (by kernel_rfl)
    omega⟩
  have c34 : Tryd.prog.cellsOf 30 = 3 := by kernel_rfl
  have c3 : Tryd.prog.cellsOf 3 = 1 := by kernel_rfl
  have hl : ∃ ls, Tryd.prog.keyLits (Tryd.prog.types.size + 1) 30 i.val.cells.toList = some ls := by
    rw [hn]
    simp [Program.keyLits, Tryd.underlying30, Tryd.underlying3, c34, c3, Nm.val, Value.cells, h.1.wf, h.2.1.wf, h.2.2.wf, List.mapM_cons, List.mapM_nil]
  obtain ⟨ls, hls⟩ := hl
  unfold keyOf
  rw [Tryd.underlying30]
  refine ⟨.string (keyBytes ls), ?_⟩
  show (if (Tryd.prog.keyType 30 && i.val.formed Tryd.prog 30) = true then _ else _) = _
  rw [Tryd.idKeyType, hf, if_pos (by rfl), hls]
  rfl
noncomputable def Nm.lit (i : Nm) (h : i.In) : Lit := (nm_key i h).choose
theorem Nm.lit_key (i : Nm) (h : i.In) : keyOf Tryd.prog 30 i.val = some (i.lit h) := (nm_key i h).choose_spec
theorem Nm.lit_inj {i j : Nm} {hi : i.In} {hj : j.In} (h : i.lit hi = j.lit hj) : i = j := by
  have h1 := i.lit_key hi
  rw [h] at h1
  have h2 := Tryd.idKeyed.inj h1 (j.lit_key hj)
  cases i
  cases j
  simp only [Nm.val, Value.agg.injEq, Array.mk.injEq, List.cons.injEq, Value.int.injEq, true_and, and_true] at h2
  obtain ⟨rfl, rfl, rfl⟩ := h2
  rfl
theorem Nm.lit_isKey (i : Nm) (h : i.In) : WideAt.IsKeyLit (i.lit h) := Tryd.idKeyed.key (i.lit_key h)
/-- block b is a set of just these names -/
def IsIds (w : World) (b K : Nat) (s : List Nm) : Prop := ∃ (n : Nat) (D : DataW Unit), w.ownsMap Tryd.prog 30 unitElem b n D ∧ n ≤ K ∧ (∀ (i : Nm) (h : i.In), has D (i.lit h) = decide (i ∈ s))
theorem IsIds.lt {w : World} {b K : Nat} {s : List Nm} (h : IsIds w b K s) : b < w.heap.size := by
  obtain ⟨n, D, h, _⟩ := h
  exact h.lt
theorem IsIds.heap {w w' : World} {b K : Nat} {s : List Nm} (h : IsIds w b K s) (hb : w'.heap[b]? = w.heap[b]?) : IsIds w' b K s := by
  obtain ⟨n, D, ⟨es, clock, h1, r⟩, h2⟩ := h
  exact ⟨n, D, ⟨es, clock, hb.trans h1, r⟩, h2⟩
theorem IsIds.made (w : World) : IsIds (w.alloc (.map #[] 0)) w.heap.size 0 [] :=
  ⟨0, .map [], World.ownsMap_made w _ _ _, Nat.zero_le _, fun i h => by simp [has]⟩
/-- a name asked for -/
theorem IsIds.ask {w : World} {b K : Nat} {s : List Nm} (h : IsIds w b K s) (i : Nm) (hi : i.In) : (Instr.lookup 76 (.map (some b)) i.val true).run Tryd.prog w = .ok (.tuple #[.agg #[], .bool (decide (i ∈ s))]) w := by
  obtain ⟨n, D, ho, _, hs⟩ := h
  obtain ⟨v, ps, hrun, hv⟩ := ho.look_ok Tryd.idKeyed Tryd.underlying76 (z := .agg #[]) (by kernel_rfl) unitElem_mk (i.lit_key hi)
  obtain ⟨rfl, _⟩ := unitElem_inv hv
  rw [hrun, hs i hi]
/-- a name laid in -/
theorem IsIds.put {w : World} {b K : Nat} {s : List Nm} (h : IsIds w b K s) (i : Nm) (hi : i.In) (hK : K ≤ 1099511627776) : ∃ w', (Instr.mapUpdate 76 (.map (some b)) i.val (.agg #[])).run Tryd.prog w = .ok () w' ∧ IsIds w' b (K + 1) (i :: s) ∧ w.mapTurned w' b := by
  obtain ⟨n, D, ho, hn, hs⟩ := h
  obtain ⟨w', hrun, ho', hT⟩ := ho.store Tryd.idKeyed Tryd.underlying76 (by have : maxLen = 9223372036854775807 := rfl; omega) (i.lit_key hi) unitElem_mk
  refine ⟨w', hrun, ⟨n + 1, _, ho', by omega, fun j hj => ?_⟩, hT⟩
  by_cases e : j = i
  · subst e
    rw [has_put_same ho.isMap (Nm.lit_isKey _ _)]
    simp
  · rw [has_put_other (fun h => e (Nm.lit_inj h)), hs j hj]
    simp [e]
/-- all but the map in block b stands -/
theorem But.of_turned {w w' : World} {b : Nat} (h : w.mapTurned w' b) : But b w w' := by
  have g := h.grown
  exact ⟨g.os, g.tape, g.output, g.size, fun k hk hne => g.block k hk (fun e => hne (Option.some.inj e))⟩
end Go.Proofs.YtnpbbidiloahdaaDoor
namespace Go.Proofs.YtnpbbidiloahdaaDoor
set_option linter.unusedSimpArgs false
set_option linter.unusedVariables false
open Go Go.RowKit

abbrev Wr (l : Nat) : Fence := Fence.wide.inRound l
theorem callsIn_r {l n : Nat} {P : Program} {f : FuncId} {args : Array Value} {w : World} {R : Ending → World → Prop} : CallsIn (Wr l) n P f args w R ↔ Calls P f args w R := callsIn_wide (n := n)
theorem rowsIn_r {l n : Nat} {P : Program} {row : String} {args : Array Value} {w : World} {R : Value → World → Prop} (h : Rows P row args w R) : RowsIn (Wr l) n P row args w R :=
  fun c cs _ => let ⟨v, w', r, s⟩ := h c cs; ⟨v, w', r, stepsIn_wide.2 s⟩
def noDefer (o : Oper) : Bool := match o.op with | .defer .. => false | _ => true
section
variable {l n : Nat} {P : Program} {o : Oper} {a : Act} {w : World} {K : Act → World → Prop} {Q : Exit → Act → World → Prop} {ops : Array Oper}
theorem semAt_noDefer {ρ : Operand → Value} (h : noDefer o = true) : o.semAt (some l) ρ = execOp ρ o :=
  Oper.semAt_some l ρ o fun c hc => by unfold noDefer at h; rw [hc] at h; cases h
theorem Oper.wpIn_of_wp (hd : noDefer o = true) (h : o.wp P a w K Q) : o.wpIn (Wr l) n P a w K Q := by
  refine ⟨fun _ _ => trivial, ?_⟩
  show o.uponIn (Wr l) n P a K Q ((o.semAt (some l) a.eval).run P w)
  rw [semAt_noDefer hd]
  unfold Oper.wp at h
  generalize (execOp a.eval o).run P w = r at h
  cases r with
  | ok x w' =>
    cases x with
    | value v => exact h
    | skip => exact h
    | defer d => exact h
    | enter f args => exact ⟨fun h => (by cases h), callsIn_r.2 h⟩
    | row r args => exact ⟨fun h => (by cases h), rowsIn_r h⟩
    | _ => exact (h : False).elim
  | halt x w' =>
    cases x with
    | panic v => exact h
    | _ => exact (h : False).elim
/-- Q, but neither a panic nor an outgrown stack -/
def NoO (Q : Exit → Act → World → Prop) : Exit → Act → World → Prop
  | .panic _, _, _ => False
  | .outgrown, _, _ => False
  | e, a, w => Q e a w
theorem NoO.imp : ∀ (e : Exit) (a : Act) (w : World), NoO Q e a w → Q e a w := fun e a w h => by
  cases e <;> first | exact h | exact (h : False).elim
theorem NoO.letsOut : ¬ LetsOut (NoO Q) := fun ⟨_, _, h⟩ => h
theorem wpOpsIn_of_wpOps (hd : ∀ (i : Nat) (o : Oper), ops[i]? = some o → noDefer o = true) : ∀ (L : List Nat) (a : Act) (w : World), wpOps P ops (NoO Q) L a w → wpOpsIn (Wr l) n P ops (NoO Q) L a w := by
  intro L
  induction L with
  | nil => intro a w h; exact h
  | cons i rest ih =>
    intro a w h
    rw [wpOps_cons] at h
    rw [wpOpsIn_cons]
    unfold wpOp at h
    unfold wpOpIn
    cases ho : ops[i]? with
    | none => rw [ho] at h; exact ih _ _ h
    | some o =>
      rw [ho] at h
      simp only at h ⊢
      by_cases hw : Region.wanted o (yielded ops a.tmps) = true
      · rw [if_pos hw] at h ⊢
        rcases h with h | h
        · exact Oper.wpIn_of_wp (hd i o ho) (Oper.wp_mono ih h)
        · exact absurd h.2 NoO.letsOut
      · rw [if_neg hw] at h ⊢
        exact ⟨fun _ _ => trivial, ih _ _ h⟩
theorem noDefer_all {L : List Oper} (h : L.all noDefer = true) : ∀ (i : Nat) (o : Oper), L.toArray[i]? = some o → noDefer o = true := fun i o ho => by
  rw [List.getElem?_toArray] at ho
  exact List.all_eq_true.1 h o (List.mem_of_getElem? ho)
/-- a region of a round, walked as anywhere -/
theorem wpIn_region_r {id : Nat} {L : List Oper} (hd : L.all noDefer = true) (h : wpList P L.toArray (NoO Q) L a w) : (Code.region id L.toArray false).wpIn (Wr l) n P Q a w := by
  refine Go.wpIn_mono (wpIn_region (wpOpsIn_of_wpOps (noDefer_all hd) _ _ _ ?_)) NoO.imp
  rw [List.range_eq_range', ← Array.length_toList, wpOps_eq_wpList _ 0 (by simp)]
  exact h
theorem NoO.normal (h : Q .normal a w) : NoO Q .normal a w := h
/-- a look at the goal alone: is it that region? -/
theorem regionIn_ff {id : Nat} {F : Fence} (h : (Code.region id ops false).wpIn F n P Q a w) : (Code.region id ops false).wpIn F n P Q a w := h
end

/-! ### the statement -/
/-- what an iterator may do to a heap of which blocks below base are not its own: blocks of cells stand, but for boxes of type t -/
structure Turn (t : TypeId) (base : Nat) (A B : World) : Prop where
  os : B.os = A.os
  tape : B.tape = A.tape
  output : B.output = A.output
  size : A.heap.size ≤ B.heap.size
  low : ∀ b, b < A.heap.size → b < base → B.heap[b]? = A.heap[b]?
  cells : ∀ b cs u z, A.heap[b]? = some (.cells cs u z) → ¬(base ≤ b ∧ u = t ∧ cs.size = 1) → B.heap[b]? = A.heap[b]?
theorem Turn.refl (t : TypeId) (base : Nat) (A : World) : Turn t base A A := ⟨rfl, rfl, rfl, Nat.le_refl _, fun _ _ _ => rfl, fun _ _ _ _ _ _ => rfl⟩
theorem Turn.trans {t : TypeId} {base : Nat} {A B C : World} (h : Turn t base A B) (k : Turn t base B C) : Turn t base A C :=
  ⟨k.os.trans h.os, k.tape.trans h.tape, k.output.trans h.output, Nat.le_trans h.size k.size, fun b hb hl => (k.low b (Nat.lt_of_lt_of_le hb h.size) hl).trans (h.low b hb hl),
   fun b cs u z hb hn => by have h1 := h.cells b cs u z hb hn; exact (k.cells b cs u z (h1.trans hb) hn).trans h1⟩
theorem Turn.of_below {t : TypeId} {base : Nat} {A B : World} (h : Below A.heap.size A B) : Turn t base A B :=
  ⟨h.os, h.tape, h.output, h.size, fun b hb _ => h.block b hb, fun b cs u z hb _ => h.block b (lt_of_heap hb)⟩
theorem Turn.less {t : TypeId} {base base' : Nat} {A B : World} (h : Turn t base A B) (hb : base' ≤ base) : Turn t base' A B :=
  ⟨h.os, h.tape, h.output, h.size, fun b hl hlt => h.low b hl (Nat.lt_of_lt_of_le hlt hb), fun b cs u z hc hn => h.cells b cs u z hc fun ⟨h1, h2⟩ => hn ⟨Nat.le_trans hb h1, h2⟩⟩
theorem Turn.putObj {t : TypeId} {base : Nat} {A : World} {r : Nat} {o o' : Obj} (hr : base ≤ r) (h : A.heap[r]? = some o) (hc : o.isCells = false) : Turn t base A (A.putObj r o') :=
  ⟨rfl, rfl, rfl, by simp, fun b _ hl => World.putObj_heap_other (by omega), fun b cs u z hb _ => World.putObj_heap_other (fun e => by subst e; rw [hb] at h; injection h with h; subst h; cases hc)⟩
theorem Turn.setBox {t : TypeId} {base : Nat} {A : World} {g : Nat} {v u : Value} (hg : base ≤ g) (h : A.heap[g]? = some (.cells #[v] t (0, 0))) : Turn t base A (A.setCell ⟨g, 0, none⟩ u) := by
  refine ⟨rfl, rfl, rfl, by simp [World.setCell], fun b _ hl => Below.heap_setCell _ _ _ _ (by show b ≠ g; omega), fun b cs u' z hb hn => Below.heap_setCell _ _ _ _ (fun e => ?_)⟩
  have e' : b = g := e
  subst e'
  rw [h] at hb
  injection hb with hb
  injection hb with h1 h2 h3
  subst h1 h2
  exact hn ⟨hg, rfl, rfl⟩
def Abides {σ : Type} (t : TypeId) (base : Nat) (J : σ → World → Prop) : Prop := ∀ s A B, J s A → Turn t base A B → J s B
/-- a call of yield -/
def YieldW (P : Program) (l : Nat) (args : Array Value) (W : World) (R : Ending → World → Prop) : Prop := YieldAt Fence.wide 0 P l args W R
theorem YieldW.mono {P : Program} {l : Nat} {args : Array Value} {W : World} {R R' : Ending → World → Prop} (h : YieldW P l args W R) (hr : ∀ e w, R e w → R' e w) : YieldW P l args W R' := by
  obtain ⟨fn, tmps, assign, body, hy, hR⟩ := h
  exact ⟨fn, tmps, assign, body, hy, hR.mono hr⟩
/-- an iterator's contract: all that S lets have come, or a part of it and a round has said 'no more' -/
def SeqT {α : Type} (P : Program) (t : TypeId) (g : Nat) (lb : Array Value) (encs : α → Array Value) (Kp : World → World → Prop) (S : List α → Prop) (G : List α → α → Prop) (w : World) : Prop :=
  ∀ (l : Nat) (J Jx : List α → World → Prop) (W : World), Below w.heap.size w W → Abides t W.heap.size J → Abides t W.heap.size Jx →
    (∀ pre x W1, J pre W1 → G pre x → YieldW P l (encs x) W1 fun e W' =>
      (e = .returned (.bool true) ∧ J (pre ++ [x]) W' ∧ Kp W1 W') ∨ (e = .returned (.bool false) ∧ Jx (pre ++ [x]) W')) →
    J [] W →
    Calls P g (#[.func (.yield l) #[] #[]] ++ lb) W fun e W' => (∃ v, e = .returned v) ∧ ((∃ xs, S xs ∧ J xs W') ∨ (∃ pre, Jx pre W'))
/-- what is no cells stands, from base on -/
def KeepN (base : Nat) (W W' : World) : Prop := ∀ b o, base ≤ b → W.heap[b]? = some o → o.isCells = false → W'.heap[b]? = some o
theorem KeepN.refl (base : Nat) (W : World) : KeepN base W W := fun _ _ _ h _ => h
theorem KeepN.trans {base : Nat} {A B C : World} (h : KeepN base A B) (k : KeepN base B C) : KeepN base A C := fun b o hb ho hc => k b o hb (h b o hb ho hc) hc
theorem KeepN.of_below {base : Nat} {A B : World} (h : Below A.heap.size A B) : KeepN base A B := fun b o _ ho _ => (h.block b (lt_of_heap ho)).trans ho
theorem KeepN.setCell {base : Nat} {A : World} {p : Addr} {v u : Value} (h : A.cell? p = some v) : KeepN base A (A.setCell p u) := fun b o _ ho hc => by
  refine (Below.heap_setCell _ _ _ _ fun e => ?_).trans ho
  subst e
  unfold World.cell? at h
  rw [ho] at h
  revert h hc
  cases o <;> intro hc h <;> first | (cases hc; done) | (simp only [] at hc; cases hc) | exact absurd h (by simp [Obj.isCells])
/-- how a round's body may be left -/
def roundEnd {α : Type} (base : Nat) (Kp : World → World → Prop) (I : List α → World → Prop) (Ix : Code → List α → World → Prop) (xs : List α) (W : World) : Exit → Act → World → Prop
  | .normal, _, W' => KeepN base W W' ∧ Kp W W' ∧ I xs W'
  | .ret, _, W' => KeepN base W W' ∧ Ix .ret xs W'
  | .exit id, _, W' => KeepN base W W' ∧ Ix (.exit id) xs W'
  | .goto t, _, W' => KeepN base W W' ∧ Ix (.goto t) xs W'
  | .panic _, _, _ => False
  | .outgrown, _, _ => False
/-- the world in which the body begins: but for the loop's record as the assignment left it -/
structure Begun (l : Nat) (W W2 : World) : Prop where
  os : W2.os = W.os
  tape : W2.tape = W.tape
  output : W2.output = W.output
  size : W2.heap.size = W.heap.size
  block : ∀ b, b ≠ l → W2.heap[b]? = W.heap[b]?
  record : ∃ r r', W.heap[l]? = some (.loop r) ∧ W2.heap[l]? = some (.loop r')

/-- a round's temporaries: yield's arguments in their places -/
def putArgs (ps : Array Tmp) (args : Array Value) (t : Array Value) : Array Value := (ps.zip args).foldl (fun t (p, v) => t.setIfInBounds p v) t
theorem putArgs2 (p q : Tmp) (x y : Value) (t : Array Value) : putArgs #[p, q] #[x, y] t = (t.setIfInBounds p x).setIfInBounds q y := by
  have hz : ((#[p, q] : Array Tmp).zip #[x, y]) = #[(p, x), (q, y)] := by
    apply Array.toList_inj.1
    simp
  unfold putArgs
  rw [hz]
  simp
/-- **a range over a function** -/
theorem wp_rangeFunc {α : Type} {P : Program} {g : Operand} {ps : Array Tmp} {assign body : Code} {Q : Exit → Act → World → Prop} {a : Act} {w : World} (t : TypeId)
    {gf : Nat} {lb : Array Value} (hg : a.eval g = .func (.func gf) #[] lb) (eg : ∀ args w, (callFunc gf args).run P w = .ok (.enter gf args) w)
    {encs : α → Array Value} {Kp : World → World → Prop} {S : List α → Prop} {G : List α → α → Prop} (hseq : SeqT P t gf lb encs Kp S G w)
    (hKt : ∀ {A B C : World}, Kp A B → Kp B C → Kp A C) (hKb : ∀ (W : World) (l : Nat) (o o' : Obj), w.heap.size ≤ l → W.heap[l]? = some o → o.isCells = false → Kp W (W.putObj l o')) (hps : ∀ x, (encs x).size = ps.size)
    (I : List α → World → Prop) (Ix : Code → List α → World → Prop) (hI : Abides t w.heap.size I) (hIx : ∀ c, Abides t w.heap.size (Ix c)) (h0 : I [] w)
    (hround : ∀ (l : Nat) (pre : List α) (x : α) (W : World), w.heap.size ≤ l → (∃ r, W.heap[l]? = some (.loop r)) → I pre W → G pre x →
      assign.wpIn (Wr l) 0 P (Exit.then (fun a' W' => KeepN w.heap.size W W' ∧ Kp W W' ∧ ∀ W2, Begun l W' W2 → body.wpIn (Wr l) 0 P (roundEnd w.heap.size Kp I Ix (pre ++ [x]) W2) a' W2) (fun _ _ _ => False))
        { tmps := putArgs ps (encs x) a.tmps, defers := [] } W)
    (hdone : ∀ (D : Nat) (xs : List α) (W : World), w.heap.size ≤ D → S xs → I xs W → W.heap[D]? = some (.deferred (some [])) → Q .normal { a with defers := { target := .collected D, args := #[] } :: a.defers } W)
    (hstop : ∀ (D : Nat) (c : Code) (pre : List α) (W : World), w.heap.size ≤ D → Ix c pre W → W.heap[D]? = some (.deferred (some [])) → c.wp P Q { a with defers := { target := .collected D, args := #[] } :: a.defers } W) :
    (Code.rangeFunc g ps assign body).wp P Q a w := by
  refine (wpIn_wide (n := 0)).1 (wpIn_rangeFunc ?_)
  intro fn hfn
  show ∃ l mark w₁ d w₁' f args w₂, (Instr.enterLoop fn a.tmps ps assign body none).run P w = .ok (l, mark) w₁ ∧ _
  obtain ⟨rec, hrec⟩ : ∃ rec : LoopState → Option Code → Loop, rec = fun st pe => { state := st, pending := pe, fn, tmps := a.tmps, params := ps, assign, body, defers := w.heap.size } := ⟨_, rfl⟩
  obtain ⟨W1, hW1⟩ : ∃ W1, (w.alloc (.deferred (some []))).alloc (.loop (rec .ready none)) = W1 := ⟨_, rfl⟩
  have hL1 : W1.heap[w.heap.size + 1]? = some (.loop (rec .ready none)) := by
    rw [← hW1]; have := World.alloc_heap_new (w.alloc (.deferred (some []))) (.loop (rec .ready none)); rwa [World.size_alloc] at this
  have hK1 : W1.heap[w.heap.size]? = some (.deferred (some [])) := by
    rw [← hW1]; exact (Below.heap_alloc _ _ _ (by simp)).trans (World.alloc_heap_new w _)
  have hb1 : Below w.heap.size w W1 := by
    rw [← hW1]; exact ((Below.refl _ w).alloc (Nat.le_refl _) _).alloc (by simp) _
  have hI1 : I [] W1 := hI _ _ _ h0 (Turn.of_below hb1)
  have hlt1 : w.heap.size + 1 < W1.heap.size := lt_of_heap hL1
  refine ⟨w.heap.size + 1, [{ target := .collected w.heap.size, args := #[] }], W1, { target := .fn (.func gf) lb, args := #[.func (.yield (w.heap.size + 1)) #[] #[]] }, W1, gf,
    #[.func (.yield (w.heap.size + 1)) #[] #[]] ++ lb, W1, ?_, ?_, ?_, ?_, fun h => (by cases h), ?_⟩
  · rw [← hW1, hrec]; exact run_enterLoop_outer _ _ _ _ _
  · simp only [resolve, hg]
    simp [go_sem]
  · intro f' _; exact trivial
  · simp [invoke, go_sem, eg]
  · refine callsIn_wide.2 ((hseq (w.heap.size + 1)
      (fun pre W => I pre W ∧ W.heap[w.heap.size + 1]? = some (.loop (rec .ready none)) ∧ W.heap[w.heap.size]? = some (.deferred (some [])))
      (fun pre W => ∃ c, Ix c pre W ∧ W.heap[w.heap.size + 1]? = some (.loop (rec .done (some c))) ∧ W.heap[w.heap.size]? = some (.deferred (some [])))
      W1 hb1
      (fun s A B hs hT => ⟨hI s A B hs.1 (hT.less hb1.size), (hT.low _ (lt_of_heap hs.2.1) hlt1).trans hs.2.1, (hT.low _ (lt_of_heap hs.2.2) (by omega)).trans hs.2.2⟩)
      (fun s A B hs hT => by
        obtain ⟨c, hc, hl, hk⟩ := hs
        exact ⟨c, hIx c s A B hc (hT.less hb1.size), (hT.low _ (lt_of_heap hl) hlt1).trans hl, (hT.low _ (lt_of_heap hk) (by omega)).trans hk⟩)
      ?_ ⟨hI1, hL1, hK1⟩).mono ?_)
    · rintro pre x W ⟨hi, hl, hk⟩ hlen
      have hlt : w.heap.size + 1 < W.heap.size := lt_of_heap hl
      have hy := run_yield (P := P) (args := encs x) hl (by rw [hrec]; exact hps x)
      rw [hrec] at hy
      refine ⟨fn, _, assign, body, hy, roundIn_of_wpIn hfn (Go.wpIn_mono (hround _ pre x W (by omega) ⟨_, hl⟩ hi hlen) ?_)⟩
      clear hy
      intro e a' Wa hq
      cases e with
      | normal =>
        obtain ⟨hkn, hkp, hbody⟩ := hq
        have hl' := hkn _ _ (by omega) hl rfl
        have hk' := hkn _ _ (Nat.le_refl _) hk rfl
        have hlt' : w.heap.size + 1 < Wa.heap.size := lt_of_heap hl'
        refine ⟨_, run_beginRound hl' (by rw [hrec]), ?_⟩
        have hl2 : (Wa.putObj (w.heap.size + 1) (.loop { rec .ready none with state := .busy })).heap[w.heap.size + 1]? = some (.loop { rec .ready none with state := .busy }) := World.putObj_heap_same hlt'
        have hk2 : (Wa.putObj (w.heap.size + 1) (.loop { rec .ready none with state := .busy })).heap[w.heap.size]? = some (.deferred (some [])) := (World.putObj_heap_other (by omega)).trans hk'
        have hw2 : Kp Wa (Wa.putObj (w.heap.size + 1) (.loop { rec .ready none with state := .busy })) := hKb _ _ _ _ (by omega) hl' rfl
        refine Go.wpIn_mono (hbody (Wa.putObj (w.heap.size + 1) (.loop { rec .ready none with state := .busy })) ⟨rfl, rfl, rfl, by simp, fun b hb => World.putObj_heap_other hb, ⟨_, _, hl', hl2⟩⟩) ?_
        have fin : ∀ (jump : Option Code) (W3 : World), KeepN w.heap.size (Wa.putObj (w.heap.size + 1) (.loop { rec .ready none with state := .busy })) W3 →
            (Instr.endRound (w.heap.size + 1) jump).run P W3 = .ok (.bool jump.isNone) (W3.putObj (w.heap.size + 1) (.loop (rec (if jump.isNone then .ready else .done) jump))) ∧
            W3.heap[w.heap.size + 1]? = some (.loop { rec .ready none with state := .busy }) ∧
            (W3.putObj (w.heap.size + 1) (.loop (rec (if jump.isNone then .ready else .done) jump))).heap[w.heap.size + 1]? = some (.loop (rec (if jump.isNone then .ready else .done) jump)) ∧
            (W3.putObj (w.heap.size + 1) (.loop (rec (if jump.isNone then .ready else .done) jump))).heap[w.heap.size]? = some (.deferred (some [])) := fun jump W3 hk3 => by
          have hl3 := hk3 _ _ (by omega) hl2 rfl
          have := run_endRound (P := P) jump hl3
          rw [hrec] at this ⊢
          exact ⟨this, by rw [hrec] at hl3; exact hl3, World.putObj_heap_same (lt_of_heap hl3), (World.putObj_heap_other (by omega)).trans (hk3 _ _ (Nat.le_refl _) hk2 rfl)⟩
        rintro e a3 W3 hp
        cases e with
        | normal =>
          obtain ⟨hk3, hkp3, hi3⟩ := hp
          obtain ⟨hr, hl3, hl4, hk4⟩ := fin none W3 hk3
          exact ⟨_, _, hr, .inl ⟨rfl, ⟨hI _ _ _ hi3 (Turn.putObj (by omega) hl3 rfl), hl4, hk4⟩, hKt hkp (hKt (hKt hw2 hkp3) (hKb _ _ _ _ (by omega) hl3 rfl))⟩⟩
        | ret =>
          obtain ⟨hk3, hi3⟩ := hp
          obtain ⟨hr, hl3, hl4, hk4⟩ := fin (some .ret) W3 hk3
          exact ⟨_, _, hr, .inr ⟨rfl, .ret, hIx _ _ _ _ hi3 (Turn.putObj (by omega) hl3 rfl), hl4, hk4⟩⟩
        | exit id =>
          obtain ⟨hk3, hi3⟩ := hp
          obtain ⟨hr, hl3, hl4, hk4⟩ := fin (some (.exit id)) W3 hk3
          exact ⟨_, _, hr, .inr ⟨rfl, .exit id, hIx _ _ _ _ hi3 (Turn.putObj (by omega) hl3 rfl), hl4, hk4⟩⟩
        | goto t =>
          obtain ⟨hk3, hi3⟩ := hp
          obtain ⟨hr, hl3, hl4, hk4⟩ := fin (some (.goto t)) W3 hk3
          exact ⟨_, _, hr, .inr ⟨rfl, .goto t, hIx _ _ _ _ hi3 (Turn.putObj (by omega) hl3 rfl), hl4, hk4⟩⟩
        | panic ch => exact hp.elim
        | outgrown => exact hp.elim
      | _ => exact hq.elim
    · rintro e W2 ⟨⟨v, rfl⟩, (⟨xs, hS, hi, hl, hk⟩ | ⟨pre, c, hi, hl, hk⟩)⟩
      · exact ⟨none, _, by have := run_endLoop (P := P) hl (by rw [hrec]; simp); rw [hrec] at this; exact this, hdone _ xs _ (Nat.le_refl _) hS (hI _ _ _ hi (Turn.putObj (by omega) hl rfl)) ((World.putObj_heap_other (by omega)).trans hk)⟩
      · exact ⟨some c, _, by have := run_endLoop (P := P) hl (by rw [hrec]; simp); rw [hrec] at this; exact this, wpIn_wide.2 (hstop _ c pre _ (Nat.le_refl _) (hIx _ _ _ _ hi (Turn.putObj (by omega) hl rfl)) ((World.putObj_heap_other (by omega)).trans hk))⟩

/-! ### a function that holds such statements -/
/-- a function's contract from its body, marks of ranges among its deferred calls -/
theorem calls_of_marks {P : Program} {f : FuncId} {fn : Func} {c : Code} {args : Array Value} {w : World} {R : Ending → World → Prop} (hf : P.funcs[f]? = some fn) (hb : fn.body = some c)
    (h : c.wp P (bodyPostM Fence.wide 0 P fn R) { tmps := args ++ Array.replicate (fn.ntmps - args.size) undef, defers := [] } w) : Calls P f args w R :=
  callsIn_wide.1 (callsIn_of_wp_marks hf hb trivial ((wpIn_wide (n := 0)).2 h) rfl)
/-- the way out past one mark -/
theorem leaves1 {P : Program} {fn : Func} {tmps : Array Value} {R : Ending → World → Prop} {D : Nat} {w : World} {v : Value} (hD : w.heap[D]? = some (.deferred (some [])))
    (hr : ∀ w', w' = w.putObj D (.deferred none) → (results fn tmps).run P w' = .ok v w') (hR : R (.returned v) (w.putObj D (.deferred none))) : LeavesInM Fence.wide 0 P fn tmps R [{ target := .collected D, args := #[] }] .returning w :=
  ⟨by simp, .inl ⟨D, _, rfl, run_takeDeferred hD, v, hr _ rfl, hR⟩⟩
attribute [irreducible] NoO
end Go.Proofs.YtnpbbidiloahdaaDoor
