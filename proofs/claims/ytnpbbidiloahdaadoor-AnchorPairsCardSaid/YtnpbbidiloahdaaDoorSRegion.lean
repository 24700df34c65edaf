/- A region whose order is open, walked in one order: operations that read only are taken first; an operation that makes memory must leave old memory as it was. No condition. Plain wp theory, no program in sight. A region whose order is open, where two or three operations that write are ready at once: each of their orders is walked. No condition. Plain wp theory, no program in sight. -/
import Derived.OrdersHeld
import Derived.Below
import Derived.Tactics
namespace Go.Proofs.YtnpbbidiloahdaaDoor
set_option linter.unusedSimpArgs false
set_option linter.unusedVariables false
open Go Go.RowKit

/-- a load -/
def isLoad (o : Oper) : Bool := match o.op with | .load .. => true | _ => false

/-- blocks of T that there are stand as they stood -/
structure KeepT (T : Nat → Prop) (w w' : World) : Prop where
  size : w.heap.size ≤ w'.heap.size
  block : ∀ b, b < w.heap.size → T b → w'.heap[b]? = w.heap[b]?
theorem KeepT.refl (T : Nat → Prop) (w : World) : KeepT T w w := ⟨Nat.le_refl _, fun _ _ _ => rfl⟩
theorem KeepT.trans {T : Nat → Prop} {a b c : World} (h : KeepT T a b) (k : KeepT T b c) : KeepT T a c :=
  ⟨Nat.le_trans h.size k.size, fun i hi ht => (k.block i (Nat.lt_of_lt_of_le hi h.size) ht).trans (h.block i hi ht)⟩
theorem KeepT.of_below {T : Nat → Prop} {w w' : World} (h : Below w.heap.size w w') : KeepT T w w' := ⟨h.size, fun b hb _ => h.block b hb⟩
theorem KeepT.cell {w w' : World} (h : KeepT (fun _ => True) w w') {a : Addr} (ha : a.block < w.heap.size) : w'.cell? a = w.cell? a := World.cell?_of_block (h.block a.block ha trivial)

theorem seen_below {P : Program} {w w' : World} (hb : KeepT (fun _ => True) w w') {at_ : Addr} {u : TypeId} {k : Addr} {m : Bool} {r}
    (h : w.seen P at_ u k m = .ok r) : w'.seen P at_ u k m = .ok r := by
  by_cases hlt : at_.block < w.heap.size
  · have hh := hb.block _ hlt trivial
    unfold World.seen at *
    rw [hh]
    exact h
  · have hn : w.heap[at_.block]? = none := Array.getElem?_eq_none (by omega)
    exfalso
    unfold World.seen at h
    rw [hn] at h
    revert h
    cases k.spot.isSome || at_.spot.isSome
    · cases plainCell P P.depth u k.off with
      | none => intro h; cases h
      | some like =>
        cases hl : like.bytes?.map (·.length) with
        | none => intro h; simp [hl, bind, Except.bind, throw, throwThe, MonadExceptOf.throw] at h
        | some size =>
          cases hy : byteOfCell P P.depth u k.off with
          | none => intro h; simp [hl, hy, bind, Except.bind, throw, throwThe, MonadExceptOf.throw] at h
          | some _ => intro h; simp [hl, hy, bind, Except.bind, throw, throwThe, MonadExceptOf.throw] at h
    · intro h; cases h

theorem viewLoad_below {P : Program} {w w' : World} (hb : KeepT (fun _ => True) w w') {at_ : Addr} {u : TypeId} {k : Addr} {m : Bool} {r}
    (h : w.viewLoad P at_ u k m = .ok r) : w'.viewLoad P at_ u k m = .ok r := by
  unfold World.viewLoad at *
  cases hs : w.seen P at_ u k m with
  | error e => rw [hs] at h; cases h
  | ok x => rw [hs] at h; rw [seen_below hb hs]; exact h

theorem lt_of_heap {w : World} {b : Nat} {o : Obj} (h : w.heap[b]? = some o) : b < w.heap.size := (Array.getElem?_eq_some_iff.1 h).1
theorem lt_of_cell {w : World} {a : Addr} {v : Value} (h : w.cell? a = some v) : a.block < w.heap.size := by
  unfold World.cell? at h
  cases hh : w.heap[a.block]? with
  | none => rw [hh] at h; cases h
  | some o => exact lt_of_heap hh

/-- one cell's load goes on alike in a world that keeps old memory -/
theorem load1_below {α : Type} {P : Program} {w w' : World} (hb : KeepT (fun _ => True) w w') {m : Go.Mode} {a : Addr} {k : Value → Sem α} {r : α} {w1 : World}
    (hk : ∀ v, ∀ w1, (k v).run P w = .ok r w1 → w1 = w ∧ (k v).run P w' = .ok r w')
    (h : (Sem.load m a k).run P w = .ok r w1) : w1 = w ∧ (Sem.load m a k).run P w' = .ok r w' := by
  simp only [Sem.run] at h ⊢
  cases hc : w.cell? a with
  | some v =>
    rw [hc] at h
    rw [hb.cell (lt_of_cell hc), hc]
    exact hk v w1 h
  | none =>
    rw [hc] at h
    simp only at h
    cases hf : w.farLoad P a (m == .atomic) with
    | error e => rw [hf] at h; cases h
    | ok x =>
      obtain ⟨v, l⟩ := x
      rw [hf] at h
      simp only at h
      obtain ⟨e1, e2⟩ := hk v w1 h
      refine ⟨e1, ?_⟩
      unfold World.farLoad at hf
      cases hh : w.heap[a.block]? with
      | none => rw [hh] at hf; cases hf
      | some o =>
        have hlt := lt_of_heap hh
        have hh' := (hb.block _ hlt trivial).trans hh
        have hc' : w'.cell? a = none := (hb.cell hlt).trans hc
        rw [hc']
        simp only
        cases o with
        | view at_ u =>
          rw [hh] at hf
          simp only at hf
          cases hv : w.viewLoad P at_ u a (m == .atomic) with
          | error e => rw [hv] at hf; cases hf
          | ok y =>
            rw [hv] at hf
            have hy : y = (v, l) := by injection hf
            subst hy
            have hv' := viewLoad_below hb hv
            have hf' : w'.farLoad P a (m == .atomic) = .ok (v, l) := by
              unfold World.farLoad
              rw [hh']
              simp only [hv']
            rw [hf']
            exact e2
        | _ => rw [hh] at hf; cases hf

/-- likewise, in a world that keeps this block, where it is one of cells -/
theorem load1_cells {α : Type} {P : Program} {w w' : World} {a : Addr} {cs : Array Value} {t : TypeId} {z : Nat × Nat} (h0 : w.heap[a.block]? = some (.cells cs t z)) (hb : w'.heap[a.block]? = w.heap[a.block]?) {m : Go.Mode} {k : Value → Sem α} {r : α} {w1 : World}
    (hk : ∀ v, ∀ w1, (k v).run P w = .ok r w1 → w1 = w ∧ (k v).run P w' = .ok r w')
    (h : (Sem.load m a k).run P w = .ok r w1) : w1 = w ∧ (Sem.load m a k).run P w' = .ok r w' := by
  simp only [Sem.run] at h ⊢
  have hcc : w'.cell? a = w.cell? a := World.cell?_of_block hb
  cases hc : w.cell? a with
  | some v =>
    rw [hc] at h
    rw [hcc, hc]
    exact hk v w1 h
  | none =>
    rw [hc] at h
    simp only at h
    cases hf : w.farLoad P a (m == .atomic) with
    | error e => rw [hf] at h; cases h
    | ok x =>
      unfold World.farLoad at hf
      rw [h0] at hf
      cases hf

/-- a law for the load of one cell of a's block -/
def OneLoad (P : Program) (w w' : World) (b : Nat) : Prop := ∀ (α : Type) (m : Go.Mode) (a : Addr), a.block = b → ∀ (k : Value → Sem α) (r : α) (w1 : World),
  (∀ v, ∀ w1, (k v).run P w = .ok r w1 → w1 = w ∧ (k v).run P w' = .ok r w') → (Sem.load m a k).run P w = .ok r w1 → w1 = w ∧ (Sem.load m a k).run P w' = .ok r w'
theorem block_add (a : Addr) (i : Nat) : (a.add i).block = a.block := by unfold Addr.add; split <;> rfl
theorem loadCells_below {α : Type} {P : Program} {w w' : World} (a : Addr) (hb : OneLoad P w w' a.block) (f : Array Value → Sem α) {r : α}
    (hf : ∀ vs w1, (f vs).run P w = .ok r w1 → w1 = w ∧ (f vs).run P w' = .ok r w') :
    ∀ (n i : Nat) (acc : Array Value) (w1 : World), ((loadCellsFrom a i n acc).bind f).run P w = .ok r w1 → w1 = w ∧ ((loadCellsFrom a i n acc).bind f).run P w' = .ok r w' := by
  intro n
  induction n with
  | zero => intro i acc w1 h; exact hf acc w1 h
  | succ n ih =>
    intro i acc w1 h
    exact hb _ _ _ (block_add _ _) _ _ _ (fun v w2 h2 => ih _ _ _ h2) h

theorem isAgg_run {α : Type} {P : Program} (t : TypeId) (f : Bool → Sem α) (w : World) :
    ((isAgg t).bind f).run P w = match P.underlying t with
      | some (.struct _) | some (.array _ _) => (f true).run P w
      | some _ => (f false).run P w
      | none => .halt (.stuck "no such type") w := by
  unfold isAgg Go.underlying program
  simp only [bind, Sem.bind, Sem.run]
  cases h : P.underlying t with
  | none => simp [h, Sem.run, stuck, Sem.bind]
  | some d => cases d <;> simp [h, Sem.run, pure, Sem.bind]

theorem load_via {P : Program} {o : Oper} (ho : isLoad o = true) {ρ : Operand → Value} {w w' : World} (hB : ∀ t x, o.op = .load t x → ∀ p, ρ x = .pointer (some p) → OneLoad P w w' p.block) {n : Next} {w1 : World}
    (h : (execOp ρ o).run P w = .ok n w1) : w1 = w ∧ (execOp ρ o).run P w' = .ok n w' := by
  unfold isLoad at ho
  cases hop : o.op with
  | load t x =>
    unfold execOp at h ⊢
    simp only [hop] at h ⊢
    unfold Instr.loadAt at h ⊢
    cases hx : ρ x with
    | pointer a =>
      cases a with
      | none => rw [hx] at h; simp [Instr.sureAddr, stuck, bind, Sem.bind, Sem.run] at h
      | some a =>
        have hb : OneLoad P w w' a.block := hB t x hop a hx
        rw [hx] at h
        simp only [Instr.sureAddr] at h ⊢
        unfold loadVar at h ⊢
        simp only [bind, pure, Sem.bind] at h ⊢
        have assoc : ∀ {α β γ : Type} (s : Sem α) (f : α → Sem β) (g : β → Sem γ), (s.bind f).bind g = s.bind fun x => (f x).bind g := by
          intro α β γ s f g
          induction s with
          | pure a => rfl
          | load m a k ih => simp only [Sem.bind, ih]
          | store m a v k ih => simp only [Sem.bind, ih]
          | new o k ih => simp only [Sem.bind, ih]
          | shape r k ih => simp only [Sem.bind, ih]
          | freeze a n k ih => simp only [Sem.bind, ih]
          | frozen a k ih => simp only [Sem.bind, ih]
          | getObj r k ih => simp only [Sem.bind, ih]
          | setObj r o k ih => simp only [Sem.bind, ih]
          | choose q k ih => simp only [Sem.bind, ih]
          | sys c k ih => simp only [Sem.bind, ih]
          | program k ih => simp only [Sem.bind, ih]
          | mark m k ih => simp only [Sem.bind, ih]
          | halt h => rfl
        rw [assoc] at h ⊢
        rw [isAgg_run] at h ⊢
        have agg : ((((sizeOf t).bind fun x => (loadCells a x).bind fun x => Sem.pure (Value.agg x))).bind fun x => Sem.pure (Next.value x)).run P w = .ok n w1 → w1 = w ∧ ((((sizeOf t).bind fun x => (loadCells a x).bind fun x => Sem.pure (Value.agg x))).bind fun x => Sem.pure (Next.value x)).run P w' = .ok n w' := by
          intro h
          unfold sizeOf typeInfo program at h ⊢
          simp only [bind, pure, Sem.bind, Sem.run] at h ⊢
          cases hi : P.info? t with
          | none => rw [hi] at h; simp [Sem.run, stuck, Sem.bind] at h
          | some i =>
            rw [hi] at h
            simp only [Sem.bind, assoc] at h ⊢
            exact loadCells_below a hb _ (fun vs w2 h2 => by
              simp only [Sem.bind, Sem.run] at h2 ⊢
              injection h2 with e1 e2
              exact ⟨e2.symm, by rw [e1]⟩) _ _ _ _ h
        have one : (((Go.load a).bind fun x => Sem.pure (Next.value x))).run P w = .ok n w1 → w1 = w ∧ ((Go.load a).bind fun x => Sem.pure (Next.value x)).run P w' = .ok n w' := by
          intro h
          refine hb _ _ _ rfl _ _ _ (fun v w2 h2 => ?_) h
          simp only [Sem.bind, Sem.run] at h2 ⊢
          injection h2 with e1 e2
          exact ⟨e2.symm, by rw [e1]⟩
        cases hu : P.underlying t with
        | none => rw [hu] at h; cases h
        | some d =>
          rw [hu] at h
          cases d <;> first | exact agg h | exact one h
    | _ => rw [hx] at h; simp [Instr.sureAddr, stuck, bind, Sem.bind, Sem.run] at h
  | _ => simp [hop] at ho

theorem load_below {P : Program} {o : Oper} (ho : isLoad o = true) {ρ : Operand → Value} {w w' : World} (hb : KeepT (fun _ => True) w w') {n : Next} {w1 : World}
    (h : (execOp ρ o).run P w = .ok n w1) : w1 = w ∧ (execOp ρ o).run P w' = .ok n w' :=
  load_via ho (fun _ _ _ _ _ => fun _ _ _ _ _ _ _ hk hr => load1_below hb hk hr) h
/-- a load from a block of cells, in a world that keeps this block -/
theorem load_kept {P : Program} {o : Oper} (ho : isLoad o = true) {ρ : Operand → Value} {w w' : World} {T : Nat → Prop} (hb : KeepT T w w')
    (hp : ∀ t x, o.op = .load t x → ∃ b i s cs u z, ρ x = .pointer (some ⟨b, i, s⟩) ∧ T b ∧ w.heap[b]? = some (.cells cs u z)) {n : Next} {w1 : World}
    (h : (execOp ρ o).run P w = .ok n w1) : w1 = w ∧ (execOp ρ o).run P w' = .ok n w' := by
  refine load_via ho (fun t x hop p hx => ?_) h
  obtain ⟨b, i, s, cs, u, z, hx', hT, h0⟩ := hp t x hop
  rw [hx'] at hx
  injection hx with hx
  injection hx with hx
  subst hx
  intro α m a ha k r w2 hk hr
  refine load1_cells (by rw [ha]; exact h0) ?_ hk hr
  rw [ha]
  exact hb.block b (lt_of_heap h0) hT

/-! ### the walk in one order -/
section
variable {T : Nat → Prop}
variable {P : Program} {ops : Array Oper} {Q : Exit → Act → World → Prop} {md : Region.Mode}

/-- every load of the region stands among what the operation waits for -/
def tailOp (md : Region.Mode) (ops : Array Oper) (j : Nat) : Bool :=
  match ops[j]? with
  | none => false
  | some oj => (List.range ops.size).all fun k => match ops[k]? with
      | some ok => !isLoad ok || oj.after.any (fun e => Region.binds md e && e.on == k)
      | none => true

theorem tailOp_spec {j k : Nat} {listed : Array Bool} (ht : tailOp md ops j = true) (hj : j ∈ Region.ready md ops listed) {ok : Oper} (hk : ops[k]? = some ok) (hl : isLoad ok = true) :
    listed.getD k false = true := by
  obtain ⟨_, oj, hoj, hall⟩ := mem_ready.1 hj
  unfold tailOp at ht
  rw [hoj] at ht
  simp only [List.all_eq_true, List.mem_range] at ht
  have h1 := ht k (Array.getElem?_eq_some_iff.1 hk).1
  simp only [hk, hl, Bool.not_true, Bool.false_or, Array.any_eq_true] at h1
  obtain ⟨i, hi, h2⟩ := h1
  simp only [Bool.and_eq_true, beq_iff_eq] at h2
  have := hall oj.after[i] (Array.getElem_mem hi) h2.1
  rw [h2.2] at this
  exact this

/-- whatever order is picked from here on; each operation keeps old memory, or all loads have come up -/
def wpAnyB (T : Nat → Prop) (P : Program) (md : Region.Mode) (ops : Array Oper) (Q : Exit → Act → World → Prop) : Nat → Array Bool → Act → World → Prop
  | 0, listed, a, w => Region.ready md ops listed = [] ∧ Q .normal a w
  | fuel + 1, listed, a, w =>
    (Region.ready md ops listed = [] → Q .normal a w) ∧
    ∀ i ∈ Region.ready md ops listed, wpOp P ops Q i (fun a' w' => (tailOp md ops i = true ∨ KeepT T w w') ∧ wpAnyB T P md ops Q fuel (listed.setIfInBounds i true) a' w') a w

theorem wpAny_of_B : ∀ (fuel : Nat) (listed : Array Bool) (a : Act) (w : World), wpAnyB T P md ops Q fuel listed a w → wpAny P md ops Q fuel listed a w
  | 0, _, _, _, h => h
  | fuel + 1, _, _, _, h => ⟨h.1, fun i hi => wpOp_mono (fun a' w' h' => wpAny_of_B fuel _ a' w' h'.2) (h.2 i hi)⟩

/-- the worlds in which the operation yields alike -/
def Sof (T : Nat → Prop) (o : Oper) (w : World) (w' : World) : Prop := isLoad o = true → KeepT T w w'
theorem Sof.refl (o : Oper) (w : World) : Sof T o w w := fun _ => KeepT.refl _ _
theorem yields_weaken {S S' : World → Prop} {o : Oper} {v : Value} {a : Act} (h : YieldsIf P ops S o v a) (hs : ∀ w, S' w → S w) : YieldsIf P ops S' o v a :=
  h.imp (fun ⟨h1, h2⟩ => ⟨h1, fun w hw => h2 w (hs w hw)⟩) id

theorem wpAnyB_first {i : Nat} {oi : Oper} {v : Value} (hi : ops[i]? = some oi) (hsel : ∀ (j : Nat) (o : Oper) cs b, ops[j]? = some o → o.op ≠ .select cs b)
    (hQ : ∀ c a w, Q (.panic c) (a.put oi.dst v) w → Q (.panic c) a w) :
    ∀ (fuel : Nat) (listed : Array Bool) (a : Act) (w : World),
      (∀ j oj, ops[j]? = some oj → j ≠ i → listed.getD j true = false → (∀ e ∈ oj.after, Region.binds md e = true → e.on ≠ i) → oi.apart ops oj = true) →
      i ∈ Region.ready md ops listed → YieldsIf P ops (Sof T oi w) oi v a →
      wpAnyB T P md ops Q fuel (listed.setIfInBounds i true) (a.put oi.dst v) w → wpAnyB T P md ops Q (fuel + 1) listed a w := by
  intro fuel
  induction fuel with
  | zero =>
    intro listed a w _ hr hy H
    refine ⟨fun h => (by rw [h] at hr; cases hr), fun j hj => ?_⟩
    by_cases hji : j = i
    · subst hji; exact hy.wpOp hi (Sof.refl _ _) ⟨.inr (KeepT.refl _ _), H⟩
    · have := ready_mono hj hji
      rw [H.1] at this
      cases this
  | succ fuel ih =>
    intro listed a w hfree hr hy H
    refine ⟨fun h => (by rw [h] at hr; cases hr), fun j hj => ?_⟩
    by_cases hji : j = i
    · subst hji; exact hy.wpOp hi (Sof.refl _ _) ⟨.inr (KeepT.refl _ _), H⟩
    · have h1 := H.2 j (ready_mono hj hji)
      obtain ⟨hjun, oj, hoj, hall⟩ := mem_ready.1 hj
      have hun : listed.getD i true = false := (mem_ready.1 hr).1
      have hun' : listed.getD i false = false := by
        rcases Nat.lt_or_ge i listed.size with h' | h'
        · simp [h'] at hun ⊢; exact hun
        · simp [Array.getElem?_eq_none h'] at hun
      have hnot : ∀ e ∈ oj.after, Region.binds md e = true → e.on ≠ i := fun e he hb heq => by
        have h1 := hall e he hb
        rw [heq, hun'] at h1
        cases h1
      have htl : isLoad oi = true → tailOp md ops j = false := fun hl => by
        cases ht : tailOp md ops j with
        | false => rfl
        | true =>
          have := tailOp_spec ht hj hi hl
          rw [hun'] at this
          cases this
      have h2 := wpOp_putIf hoj (hfree j oj hoj hji hjun hnot) (fun cs b => hsel i oi cs b hi) (fun cs b => hsel j oj cs b hoj) hQ hy h1
      have hfree' : ∀ k ok, ops[k]? = some ok → k ≠ i → (listed.setIfInBounds j true).getD k true = false →
          (∀ e ∈ ok.after, Region.binds md e = true → e.on ≠ i) → oi.apart ops ok = true := fun k ok hk hki hun hno => by
        refine hfree k ok hk hki ?_ hno
        by_cases hjk : j = k
        · subst hjk; exact hjun
        · rw [getD_set_ne true hjk] at hun; exact hun
      refine wpOp_mono (fun a' w' h3 => ⟨h3.2.1, ih (listed.setIfInBounds j true) a' w' hfree' (ready_mono hr (Ne.symm hji)) ?_ ?_⟩) h2
      · refine yields_weaken h3.1 (fun w2 hs2 hl => ?_)
        have hb : KeepT T w w' := by
          rcases h3.2.1 with ht | hb
          · rw [htl hl] at ht; cases ht
          · exact hb
        exact hb.trans (hs2 hl)
      · rw [Array.setIfInBounds_comm _ _ hji]
        exact h3.2.2

/-- behind an operation that makes memory: old memory as it was (or: it was the last that could matter) -/
def Keep (T : Nat → Prop) (t : Bool) (w w' : World) (X : Prop) : Prop := (t = true ∨ KeepT T w w') ∧ X
theorem Keep.last {w w' : World} {X : Prop} (h : X) : Keep T true w w' X := ⟨.inl rfl, h⟩
theorem Keep.below {t : Bool} {w w' : World} {X : Prop} (hb : Below w.heap.size w w') (h : X) : Keep T t w w' X := ⟨.inr (.of_below hb), h⟩
theorem Keep.alloc {t : Bool} {w : World} {o : Obj} {X : Prop} (h : X) : Keep T t w (w.alloc o) X := ⟨.inr (.of_below ((Below.refl _ _).alloc (Nat.le_refl _) _)), h⟩
theorem Keep.same {t : Bool} {w : World} {X : Prop} (h : X) : Keep T t w w X := ⟨.inr (.refl _ _), h⟩

theorem Keep.kept {t : Bool} {w w' : World} {X : Prop} (hb : KeepT T w w') (h : X) : Keep T t w w' X := ⟨.inr hb, h⟩

/-- the walk in one order: an operation that reads only (mark: true), or one that makes memory -/
def WpH (T : Nat → Prop) (P : Program) (ops : Array Oper) (Q : Exit → Act → World → Prop) : List (Oper × Bool × Bool) → Act → World → Prop
  | [], a, w => Q .normal a w
  | (o, true, _) :: rest, a, w =>
    (Region.wanted o (yielded ops a.tmps) = false ∧ WpH T P ops Q rest (a.put o.dst undef) w) ∨
    (Region.wanted o (yielded ops a.tmps) = true ∧ ∃ v, ((∀ w', (execOp a.eval o).run P w' = .ok (.value v) w') ∨ (isLoad o = true ∧ ∀ w', KeepT T w w' → (execOp a.eval o).run P w' = .ok (.value v) w')) ∧ WpH T P ops Q rest (a.put o.dst v) w)
  | (o, false, t) :: rest, a, w =>
    if Region.wanted o (yielded ops a.tmps) then o.wp P a w (fun a' w' => Keep T t w w' (WpH T P ops Q rest a' w')) Q else WpH T P ops Q rest (a.put o.dst undef) w

/-- is the order one that the edges allow, the reading operations apart from what may come ahead of them, the others alone? -/
def orderOk (md : Region.Mode) (ops : Array Oper) : List (Nat × Bool × Bool) → Array Bool → Bool
  | [], listed => (Region.ready md ops listed).isEmpty
  | (i, true, _) :: rest, listed => (Region.ready md ops listed).contains i && Region.free md ops listed i && orderOk md ops rest (listed.setIfInBounds i true)
  | (i, false, t) :: rest, listed => (Region.ready md ops listed == [i]) && (!t || tailOp md ops i) && orderOk md ops rest (listed.setIfInBounds i true)

/-- number i of a list -/
def nthOp : List Oper → Nat → Option Oper
  | [], _ => none
  | o :: _, 0 => some o
  | _ :: l, i + 1 => nthOp l i
theorem nthOp_eq : ∀ (l : List Oper) (i : Nat), nthOp l i = l[i]?
  | [], _ => rfl
  | _ :: _, 0 => rfl
  | _ :: l, i + 1 => nthOp_eq l i
/-- the operations of an order -/
def opsOf (ops : List Oper) : List (Nat × Bool × Bool) → Option (List (Oper × Bool × Bool))
  | [] => some []
  | (i, c, t) :: rest => match nthOp ops i, opsOf ops rest with
    | some o, some l => some ((o, c, t) :: l)
    | _, _ => none

theorem wpAnyB_of_H (hsel : Region.noSelect ops = true) (hQ : ∀ c a w, ¬ Q (.panic c) a w) :
    ∀ (order : List (Nat × Bool × Bool)) (l : List (Oper × Bool × Bool)) (fuel : Nat) (listed : Array Bool) (a : Act) (w : World),
      opsOf ops.toList order = some l → order.length ≤ fuel → orderOk md ops order listed = true → WpH T P ops Q l a w → wpAnyB T P md ops Q fuel listed a w := by
  intro order
  induction order with
  | nil =>
    intro l fuel listed a w hl _ hok h
    have hl' : l = [] := by simpa [opsOf] using hl.symm
    subst hl'
    have hr : Region.ready md ops listed = [] := by simpa [orderOk] using hok
    cases fuel with
    | zero => exact ⟨hr, h⟩
    | succ f => exact ⟨fun _ => h, by rw [hr]; simp⟩
  | cons x order ih =>
    obtain ⟨i, c, t⟩ := x
    intro l fuel listed a w hl hf hok h
    obtain ⟨fuel, rfl⟩ : ∃ f, fuel = f + 1 := ⟨fuel - 1, by simp at hf; omega⟩
    unfold opsOf at hl
    rw [nthOp_eq, Array.getElem?_toList] at hl
    cases ho : ops[i]? with
    | none => rw [ho] at hl; cases hl
    | some o =>
      cases hrest : opsOf ops.toList order with
      | none => rw [ho, hrest] at hl; cases hl
      | some l' =>
        rw [ho, hrest] at hl
        injection hl with hl
        subst hl
        have hf' : order.length ≤ fuel := by simpa using hf
        cases c with
        | true =>
          simp only [orderOk, Bool.and_eq_true, List.contains_iff_mem] at hok
          obtain ⟨⟨hr, hfr⟩, hok'⟩ := hok
          rcases h with ⟨hw, h⟩ | ⟨hw, v, hv, h⟩
          · exact wpAnyB_first ho (Region.noSelect_spec hsel) (fun c a w hq => (hQ _ _ _ hq).elim) fuel listed a w (Region.free_spec ho hfr) hr (.inr ⟨hw, rfl⟩) (ih l' fuel _ _ _ hrest hf' hok' h)
          · refine wpAnyB_first ho (Region.noSelect_spec hsel) (fun c a w hq => (hQ _ _ _ hq).elim) fuel listed a w (Region.free_spec ho hfr) hr (.inl ⟨hw, fun w' hs => ?_⟩) (ih l' fuel _ _ _ hrest hf' hok' h)
            rcases hv with hv | ⟨hld, hv⟩
            · exact hv w'
            · exact hv w' (hs hld)
        | false =>
          simp only [orderOk, Bool.and_eq_true, beq_iff_eq, Bool.or_eq_true, Bool.not_eq_true'] at hok
          obtain ⟨⟨hr, ht⟩, hok'⟩ := hok
          refine ⟨fun h0 => (by rw [hr] at h0; cases h0), fun j hj => ?_⟩
          rw [hr] at hj
          obtain rfl : j = i := by simpa using hj
          unfold wpOp
          simp only [ho]
          simp only [WpH] at h
          by_cases hw : Region.wanted o (yielded ops a.tmps) = true
          · rw [if_pos hw] at h ⊢
            refine .inl (Oper.wp_mono (fun a' w' h' => ⟨?_, ih l' fuel _ _ _ hrest hf' hok' h'.2⟩) h)
            rcases h'.1 with h0 | h0
            · subst h0
              rcases ht with h1 | h1
              · cases h1
              · exact .inl h1
            · exact .inr h0
          · rw [if_neg hw] at h ⊢
            exact ⟨.inr (KeepT.refl _ _), ih l' fuel _ _ _ hrest hf' hok' h⟩

/-- Q, but never a panic -/
def NoP (Q : Exit → Act → World → Prop) : Exit → Act → World → Prop
  | .panic _, _, _ => False
  | e, a, w => Q e a w
theorem NoP.imp {Q : Exit → Act → World → Prop} : ∀ (e : Exit) (a : Act) (w : World), NoP Q e a w → Q e a w := fun e a w h => by
  cases e <;> first | exact h | exact (h : False).elim

/-- **a region that draws its order, in one order** -/
theorem wp_region_orderT (T : Nat → Prop) {id : Nat} {a : Act} {w : World} {L : List Oper} (order : List (Nat × Bool × Bool)) {l : List (Oper × Bool × Bool)} (hm : P.follows .mixedOrders = true)
    (hs : Region.noSelect L.toArray = true) (hok : orderOk .any L.toArray order (Array.replicate L.length false) = true) (hlen : order.length = L.length)
    (hl : opsOf L order = some l) (h : WpH T P L.toArray (NoP Q) l a w.drew) : (Code.region id L.toArray true).wp P Q a w :=
  Code.wp_mono NoP.imp (wp_region_any hm (wpAny_of_B _ _ _ _ (wpAnyB_of_H hs (fun _ _ _ h => h) order l L.toArray.size _ _ _ (by simpa using hl) (by simp; omega) (by simpa using hok) h)))

theorem wp_region_order {id : Nat} {a : Act} {w : World} {L : List Oper} (order : List (Nat × Bool × Bool)) {l : List (Oper × Bool × Bool)} (hm : P.follows .mixedOrders = true)
    (hs : Region.noSelect L.toArray = true) (hok : orderOk .any L.toArray order (Array.replicate L.length false) = true) (hlen : order.length = L.length)
    (hl : opsOf L order = some l) (h : WpH (fun _ => True) P L.toArray (NoP Q) l a w.drew) : (Code.region id L.toArray true).wp P Q a w := wp_region_orderT _ order hm hs hok hlen hl h
theorem NoP.normal {Q : Exit → Act → World → Prop} {a : Act} {w : World} (h : Q .normal a w) : NoP Q .normal a w := h
/-- the walk stands here -/
def Stop (p : Prop) : Prop := p
theorem Stop.go {p : Prop} (h : p) : Stop p := h
theorem stop_if (t : Nat) {x y : Code} {a : Act} {w : World} (h : Stop ((Code.cond (.tmp t) x y).wp P Q a w)) : (Code.cond (.tmp t) x y).wp P Q a w := h
theorem stop_region (id : Nat) {b : Bool} {a : Act} {w : World} (h : Stop ((Code.region id ops b).wp P Q a w)) : (Code.region id ops b).wp P Q a w := h
/-- a look at the goal alone: is it that region? -/
theorem region_at (id : Nat) {a : Act} {w : World} (h : (Code.region id ops true).wp P Q a w) : (Code.region id ops true).wp P Q a w := h
theorem WpH.here {l : List (Oper × Bool × Bool)} {a : Act} {w : World} (h : WpH T P ops Q l a w) : WpH T P ops Q l a w := h
theorem WpH.nil {a : Act} {w : World} (h : Q .normal a w) : WpH T P ops Q [] a w := h
theorem WpH.skip {o : Oper} {c t : Bool} {rest : List (Oper × Bool × Bool)} {a : Act} {w : World} (hw : Region.wanted o (yielded ops a.tmps) = false)
    (h : WpH T P ops Q rest (a.put o.dst undef) w) : WpH T P ops Q ((o, c, t) :: rest) a w := by
  cases c
  · simp only [WpH, hw]; exact h
  · exact .inl ⟨hw, h⟩
theorem WpH.pure {o : Oper} {t : Bool} {rest : List (Oper × Bool × Bool)} {a : Act} {w : World} {v : Value} (hw : Region.wanted o (yielded ops a.tmps) = true)
    (hv : ∀ w', (execOp a.eval o).run P w' = .ok (.value v) w') (h : WpH T P ops Q rest (a.put o.dst v) w) : WpH T P ops Q ((o, true, t) :: rest) a w :=
  .inr ⟨hw, v, .inl hv, h⟩
theorem WpH.load {o : Oper} {t : Bool} {rest : List (Oper × Bool × Bool)} {a : Act} {w : World} {v : Value} (hl : isLoad o = true) (hw : Region.wanted o (yielded ops a.tmps) = true)
    (hv : (execOp a.eval o).run P w = .ok (.value v) w) (h : WpH (fun _ => True) P ops Q rest (a.put o.dst v) w) : WpH (fun _ => True) P ops Q ((o, true, t) :: rest) a w :=
  .inr ⟨hw, v, .inr ⟨hl, fun _ hk => (load_below hl hk hv).2⟩, h⟩
/-- a load where not all old memory is kept: from a block of cells that is -/
theorem WpH.loadT {o : Oper} {t : Bool} {rest : List (Oper × Bool × Bool)} {a : Act} {w : World} {v : Value} (hl : isLoad o = true) (hw : Region.wanted o (yielded ops a.tmps) = true)
    (hv : (execOp a.eval o).run P w = .ok (.value v) w) (hp : ∀ t x, o.op = .load t x → ∃ b i s cs u z, a.eval x = .pointer (some ⟨b, i, s⟩) ∧ T b ∧ w.heap[b]? = some (.cells cs u z))
    (h : WpH T P ops Q rest (a.put o.dst v) w) : WpH T P ops Q ((o, true, t) :: rest) a w :=
  .inr ⟨hw, v, .inr ⟨hl, fun _ hk => (load_kept hl hk hp hv).2⟩, h⟩
theorem WpH.wild {o : Oper} {t : Bool} {rest : List (Oper × Bool × Bool)} {a : Act} {w : World} (hg : Region.wanted o (yielded ops a.tmps) = true)
    (h : o.wp P a w (fun a' w' => Keep T t w w' (WpH T P ops Q rest a' w')) Q) : WpH T P ops Q ((o, false, t) :: rest) a w := by
  simp only [WpH, hg, if_true]; exact h
/-- an operation that makes memory: walked as a list of one -/
theorem WpH.wild1 {o : Oper} {t : Bool} {rest : List (Oper × Bool × Bool)} {a : Act} {w : World}  (hg : o.guard = none)
    (h : ∀ K : Act → World → Prop, (∀ a' w', Keep T t w w' (WpH T P ops Q rest a' w') → K a' w') → o.wp P a w K Q) : WpH T P ops Q ((o, false, t) :: rest) a w :=
  WpH.wild (by simp [Region.wanted, hg]) (h _ fun _ _ h => h)
end
attribute [irreducible] WpH NoP Keep Stop
end Go.Proofs.YtnpbbidiloahdaaDoor
namespace Go.Proofs.YtnpbbidiloahdaaDoor
set_option linter.unusedSimpArgs false
set_option linter.unusedVariables false
open Go Go.RowKit

inductive Ord (α : Type) where
  | nil
  | one (x : α) (c t : Bool) (r : Ord α)
  | two (x y : α) (r s : Ord α)
  | three (x y z : α) (r s u : Ord α)
def Ord.depth {α : Type} : Ord α → Nat
  | .nil => 0
  | .one _ _ _ r => r.depth + 1
  | .two _ _ r s => max r.depth s.depth + 1
  | .three _ _ _ r s u => max r.depth (max s.depth u.depth) + 1
section
variable {T : Nat → Prop}
variable {P : Program} {ops : Array Oper} {Q : Exit → Act → World → Prop} {md : Region.Mode}
/-- an operation that writes, then on -/
def wildO (T : Nat → Prop) (P : Program) (ops : Array Oper) (Q : Exit → Act → World → Prop) (t : Bool) (o : Oper) (X : Act → World → Prop) (a : Act) (w : World) : Prop :=
  if Region.wanted o (yielded ops a.tmps) then o.wp P a w (fun a' w' => Keep T t w w' (X a' w')) Q else X (a.put o.dst undef) w
def WpO (T : Nat → Prop) (P : Program) (ops : Array Oper) (Q : Exit → Act → World → Prop) : Ord Oper → Act → World → Prop
  | .nil, a, w => Q .normal a w
  | .one o true _ r, a, w =>
    (Region.wanted o (yielded ops a.tmps) = false ∧ WpO T P ops Q r (a.put o.dst undef) w) ∨
    (Region.wanted o (yielded ops a.tmps) = true ∧ ∃ v, ((∀ w', (execOp a.eval o).run P w' = .ok (.value v) w') ∨ (isLoad o = true ∧ ∀ w', KeepT T w w' → (execOp a.eval o).run P w' = .ok (.value v) w')) ∧ WpO T P ops Q r (a.put o.dst v) w)
  | .one o false t r, a, w => wildO T P ops Q t o (WpO T P ops Q r) a w
  | .two x y r s, a, w => wildO T P ops Q false x (WpO T P ops Q r) a w ∧ wildO T P ops Q false y (WpO T P ops Q s) a w
  | .three x y z r s u, a, w => wildO T P ops Q false x (WpO T P ops Q r) a w ∧ wildO T P ops Q false y (WpO T P ops Q s) a w ∧ wildO T P ops Q false z (WpO T P ops Q u) a w
def ordOk (md : Region.Mode) (ops : Array Oper) : Ord Nat → Array Bool → Bool
  | .nil, listed => (Region.ready md ops listed).isEmpty
  | .one i true _ r, listed => (Region.ready md ops listed).contains i && Region.free md ops listed i && ordOk md ops r (listed.setIfInBounds i true)
  | .one i false t r, listed => (Region.ready md ops listed == [i]) && (!t || tailOp md ops i) && ordOk md ops r (listed.setIfInBounds i true)
  | .two i j r s, listed => (Region.ready md ops listed == [i, j]) && ordOk md ops r (listed.setIfInBounds i true) && ordOk md ops s (listed.setIfInBounds j true)
  | .three i j k r s u, listed => (Region.ready md ops listed == [i, j, k]) && ordOk md ops r (listed.setIfInBounds i true) && ordOk md ops s (listed.setIfInBounds j true) && ordOk md ops u (listed.setIfInBounds k true)
def ordOf (ops : List Oper) : Ord Nat → Option (Ord Oper)
  | .nil => some .nil
  | .one i c t r => match nthOp ops i, ordOf ops r with
    | some o, some l => some (.one o c t l)
    | _, _ => none
  | .two i j r s => match nthOp ops i, nthOp ops j, ordOf ops r, ordOf ops s with
    | some o, some p, some l, some m => some (.two o p l m)
    | _, _, _, _ => none
  | .three i j k r s u => match nthOp ops i, nthOp ops j, nthOp ops k, ordOf ops r, ordOf ops s, ordOf ops u with
    | some o, some p, some q, some l, some m, some n => some (.three o p q l m n)
    | _, _, _, _, _, _ => none
theorem wpOp_wildO {i : Nat} {o : Oper} {t : Bool} {X Y : Act → World → Prop} {a : Act} {w : World} (ho : ops[i]? = some o) (ht : t = true → tailOp md ops i = true) (hXY : ∀ a w, X a w → Y a w) (h : wildO T P ops Q t o X a w) :
    wpOp P ops Q i (fun a' w' => (tailOp md ops i = true ∨ KeepT T w w') ∧ Y a' w') a w := by
  unfold wpOp
  simp only [ho]
  unfold wildO at h
  by_cases hw : Region.wanted o (yielded ops a.tmps) = true
  · rw [if_pos hw] at h ⊢
    refine .inl (Oper.wp_mono (fun a' w' h' => ?_) h)
    unfold Keep at h'
    exact ⟨h'.1.imp ht id, hXY _ _ h'.2⟩
  · rw [if_neg hw] at h ⊢
    exact ⟨.inr (KeepT.refl _ _), hXY _ _ h⟩
theorem wpAnyB_of_O (hsel : Region.noSelect ops = true) (hQ : ∀ c a w, ¬ Q (.panic c) a w) :
    ∀ (order : Ord Nat) (l : Ord Oper) (fuel : Nat) (listed : Array Bool) (a : Act) (w : World),
      ordOf ops.toList order = some l → order.depth ≤ fuel → ordOk md ops order listed = true → WpO T P ops Q l a w → wpAnyB T P md ops Q fuel listed a w := by
  intro order
  induction order with
  | nil =>
    intro l fuel listed a w hl _ hok h
    have hl' : l = .nil := by simpa [ordOf] using hl.symm
    subst hl'
    have hr : Region.ready md ops listed = [] := by simpa [ordOk] using hok
    cases fuel with
    | zero => exact ⟨hr, h⟩
    | succ f => exact ⟨fun _ => h, by rw [hr]; simp⟩
  | one i c t r ih =>
    intro l fuel listed a w hl hf hok h
    obtain ⟨fuel, rfl⟩ : ∃ f, fuel = f + 1 := ⟨fuel - 1, by simp [Ord.depth] at hf; omega⟩
    unfold ordOf at hl
    rw [nthOp_eq, Array.getElem?_toList] at hl
    cases ho : ops[i]? with
    | none => rw [ho] at hl; cases hl
    | some o =>
      cases hrest : ordOf ops.toList r with
      | none => rw [ho, hrest] at hl; cases hl
      | some l' =>
        rw [ho, hrest] at hl
        injection hl with hl
        subst hl
        have hf' : r.depth ≤ fuel := by simpa [Ord.depth] using hf
        cases c with
        | true =>
          simp only [ordOk, Bool.and_eq_true, List.contains_iff_mem] at hok
          obtain ⟨⟨hr, hfr⟩, hok'⟩ := hok
          rcases h with ⟨hw, h⟩ | ⟨hw, v, hv, h⟩
          · exact wpAnyB_first ho (Region.noSelect_spec hsel) (fun c a w hq => (hQ _ _ _ hq).elim) fuel listed a w (Region.free_spec ho hfr) hr (.inr ⟨hw, rfl⟩) (ih l' fuel _ _ _ hrest hf' hok' h)
          · refine wpAnyB_first ho (Region.noSelect_spec hsel) (fun c a w hq => (hQ _ _ _ hq).elim) fuel listed a w (Region.free_spec ho hfr) hr (.inl ⟨hw, fun w' hs => ?_⟩) (ih l' fuel _ _ _ hrest hf' hok' h)
            rcases hv with hv | ⟨hld, hv⟩
            · exact hv w'
            · exact hv w' (hs hld)
        | false =>
          simp only [ordOk, Bool.and_eq_true, beq_iff_eq, Bool.or_eq_true, Bool.not_eq_true'] at hok
          obtain ⟨⟨hr, ht⟩, hok'⟩ := hok
          refine ⟨fun h0 => (by rw [hr] at h0; cases h0), fun j hj => ?_⟩
          rw [hr] at hj
          obtain rfl : j = i := by simpa using hj
          simp only [WpO] at h
          exact wpOp_wildO ho (fun e => by subst e; rcases ht with h1 | h1; cases h1; exact h1) (fun a w h => ih l' fuel _ _ _ hrest hf' hok' h) h
  | two i j r s ihr ihs =>
    intro l fuel listed a w hl hf hok h
    obtain ⟨fuel, rfl⟩ : ∃ f, fuel = f + 1 := ⟨fuel - 1, by simp [Ord.depth] at hf; omega⟩
    unfold ordOf at hl
    rw [nthOp_eq, nthOp_eq, Array.getElem?_toList, Array.getElem?_toList] at hl
    cases ho : ops[i]? with
    | none => rw [ho] at hl; cases hl
    | some o =>
      cases hp : ops[j]? with
      | none => rw [ho, hp] at hl; cases hl
      | some p =>
        cases hr' : ordOf ops.toList r with
        | none => rw [ho, hp, hr'] at hl; cases hl
        | some lr =>
          cases hs' : ordOf ops.toList s with
          | none => rw [ho, hp, hr', hs'] at hl; cases hl
          | some ls =>
            rw [ho, hp, hr', hs'] at hl
            injection hl with hl
            subst hl
            simp only [Ord.depth, Nat.add_le_add_iff_right, Nat.max_le] at hf
            simp only [ordOk, Bool.and_eq_true, beq_iff_eq] at hok
            obtain ⟨⟨hr, hok1⟩, hok2⟩ := hok
            simp only [WpO] at h
            refine ⟨fun h0 => (by rw [hr] at h0; cases h0), fun k hk => ?_⟩
            rw [hr] at hk
            rcases List.mem_cons.1 hk with rfl | hk
            · exact wpOp_wildO ho (fun e => by cases e) (fun a w h => ihr lr fuel _ _ _ hr' hf.1 hok1 h) h.1
            · obtain rfl : k = j := by simpa using hk
              exact wpOp_wildO hp (fun e => by cases e) (fun a w h => ihs ls fuel _ _ _ hs' hf.2 hok2 h) h.2
  | three i j k r s u ihr ihs ihu =>
    intro l fuel listed a w hl hf hok h
    obtain ⟨fuel, rfl⟩ : ∃ f, fuel = f + 1 := ⟨fuel - 1, by simp [Ord.depth] at hf; omega⟩
    unfold ordOf at hl
    rw [nthOp_eq, nthOp_eq, nthOp_eq, Array.getElem?_toList, Array.getElem?_toList, Array.getElem?_toList] at hl
    cases ho : ops[i]? with
    | none => rw [ho] at hl; cases hl
    | some o =>
      cases hp : ops[j]? with
      | none => rw [ho, hp] at hl; cases hl
      | some p =>
        cases hq : ops[k]? with
        | none => rw [ho, hp, hq] at hl; cases hl
        | some q =>
          cases hr' : ordOf ops.toList r with
          | none => rw [ho, hp, hq, hr'] at hl; cases hl
          | some lr =>
            cases hs' : ordOf ops.toList s with
            | none => rw [ho, hp, hq, hr', hs'] at hl; cases hl
            | some ls =>
              cases hu' : ordOf ops.toList u with
              | none => rw [ho, hp, hq, hr', hs', hu'] at hl; cases hl
              | some lu =>
                rw [ho, hp, hq, hr', hs', hu'] at hl
                injection hl with hl
                subst hl
                simp only [Ord.depth, Nat.add_le_add_iff_right, Nat.max_le] at hf
                simp only [ordOk, Bool.and_eq_true, beq_iff_eq] at hok
                obtain ⟨⟨⟨hr, hok1⟩, hok2⟩, hok3⟩ := hok
                simp only [WpO] at h
                refine ⟨fun h0 => (by rw [hr] at h0; cases h0), fun m hm => ?_⟩
                rw [hr] at hm
                rcases List.mem_cons.1 hm with rfl | hm
                · exact wpOp_wildO ho (fun e => by cases e) (fun a w h => ihr lr fuel _ _ _ hr' hf.1 hok1 h) h.1
                · rcases List.mem_cons.1 hm with rfl | hm
                  · exact wpOp_wildO hp (fun e => by cases e) (fun a w h => ihs ls fuel _ _ _ hs' hf.2.1 hok2 h) h.2.1
                  · obtain rfl : m = k := by simpa using hm
                    exact wpOp_wildO hq (fun e => by cases e) (fun a w h => ihu lu fuel _ _ _ hu' hf.2.2 hok3 h) h.2.2
theorem wp_region_ordT (T : Nat → Prop) {id : Nat} {a : Act} {w : World} {L : List Oper} (order : Ord Nat) {l : Ord Oper} (hm : P.follows .mixedOrders = true)
    (hs : Region.noSelect L.toArray = true) (hok : ordOk .any L.toArray order (Array.replicate L.length false) = true) (hlen : order.depth = L.length)
    (hl : ordOf L order = some l) (h : WpO T P L.toArray (NoP Q) l a w.drew) : (Code.region id L.toArray true).wp P Q a w :=
  Code.wp_mono NoP.imp (wp_region_any hm (wpAny_of_B _ _ _ _ (wpAnyB_of_O hs (fun _ _ _ h => by unfold NoP at h; exact h) order l L.toArray.size _ _ _ (by simpa using hl) (by simp; omega) (by simpa using hok) h)))
theorem WpO.here {l : Ord Oper} {a : Act} {w : World} (h : WpO T P ops Q l a w) : WpO T P ops Q l a w := h
theorem WpO.done {a : Act} {w : World} (h : Q .normal a w) : WpO T P ops Q .nil a w := h
theorem WpO.skip {o : Oper} {c t : Bool} {r : Ord Oper} {a : Act} {w : World} (hw : Region.wanted o (yielded ops a.tmps) = false)
    (h : WpO T P ops Q r (a.put o.dst undef) w) : WpO T P ops Q (.one o c t r) a w := by
  cases c
  · simp only [WpO, wildO, hw]; exact h
  · exact .inl ⟨hw, h⟩
theorem WpO.pure {o : Oper} {t : Bool} {r : Ord Oper} {a : Act} {w : World} {v : Value} (hw : Region.wanted o (yielded ops a.tmps) = true)
    (hv : ∀ w', (execOp a.eval o).run P w' = .ok (.value v) w') (h : WpO T P ops Q r (a.put o.dst v) w) : WpO T P ops Q (.one o true t r) a w :=
  .inr ⟨hw, v, .inl hv, h⟩
theorem WpO.load {o : Oper} {t : Bool} {r : Ord Oper} {a : Act} {w : World} {v : Value} (hl : isLoad o = true) (hw : Region.wanted o (yielded ops a.tmps) = true)
    (hv : (execOp a.eval o).run P w = .ok (.value v) w) (h : WpO (fun _ => True) P ops Q r (a.put o.dst v) w) : WpO (fun _ => True) P ops Q (.one o true t r) a w :=
  .inr ⟨hw, v, .inr ⟨hl, fun _ hk => (load_below hl hk hv).2⟩, h⟩
theorem WpO.loadT {o : Oper} {t : Bool} {r : Ord Oper} {a : Act} {w : World} {v : Value} (hl : isLoad o = true) (hw : Region.wanted o (yielded ops a.tmps) = true)
    (hv : (execOp a.eval o).run P w = .ok (.value v) w) (hp : ∀ t x, o.op = .load t x → ∃ b i s cs u z, a.eval x = .pointer (some ⟨b, i, s⟩) ∧ T b ∧ w.heap[b]? = some (.cells cs u z))
    (h : WpO T P ops Q r (a.put o.dst v) w) : WpO T P ops Q (.one o true t r) a w :=
  .inr ⟨hw, v, .inr ⟨hl, fun _ hk => (load_kept hl hk hp hv).2⟩, h⟩
theorem WpO.wild {o : Oper} {t : Bool} {r : Ord Oper} {a : Act} {w : World} (h : wildO T P ops Q t o (WpO T P ops Q r) a w) : WpO T P ops Q (.one o false t r) a w := h
theorem WpO.two {x y : Oper} {r s : Ord Oper} {a : Act} {w : World} (h : wildO T P ops Q false x (WpO T P ops Q r) a w) (k : wildO T P ops Q false y (WpO T P ops Q s) a w) : WpO T P ops Q (.two x y r s) a w := ⟨h, k⟩
theorem WpO.three {x y z : Oper} {r s u : Ord Oper} {a : Act} {w : World} (h : wildO T P ops Q false x (WpO T P ops Q r) a w) (k : wildO T P ops Q false y (WpO T P ops Q s) a w) (m : wildO T P ops Q false z (WpO T P ops Q u) a w) :
    WpO T P ops Q (.three x y z r s u) a w := ⟨h, k, m⟩
theorem wildO.here {t : Bool} {o : Oper} {X : Act → World → Prop} {a : Act} {w : World} (h : wildO T P ops Q t o X a w) : wildO T P ops Q t o X a w := h
/-- an operation that writes: walked as a list of one -/
theorem wildO.go {t : Bool} {o : Oper} {X : Act → World → Prop} {a : Act} {w : World} (hw : Region.wanted o (yielded ops a.tmps) = true)
    (h : ∀ K : Act → World → Prop, (∀ a' w', Keep T t w w' (X a' w') → K a' w') → o.wp P a w K Q) : wildO T P ops Q t o X a w := by
  unfold wildO
  rw [if_pos hw]
  exact h _ fun _ _ h => h
theorem wildO.skip {t : Bool} {o : Oper} {X : Act → World → Prop} {a : Act} {w : World} (hw : Region.wanted o (yielded ops a.tmps) = false) (h : X (a.put o.dst undef) w) : wildO T P ops Q t o X a w := by
  unfold wildO
  rw [hw]
  exact h
end
attribute [irreducible] WpO wildO
end Go.Proofs.YtnpbbidiloahdaaDoor
