/- Part of a proof: what functions of the program compute. Conditions: as each theorem says. -/
import Derived.Below
import Derived.Laws.OwnMore
import Derived.Maps.AppendAt
import Derived.OrdersHeld
import Derived.Tactics
import Derived.Test.YteggpddlkkjmjaaGreatDoorProg
import Derived.WalkKit
import Derived.WalkLawsBesides
import Derived.WalkSpells
import Derived.Maps.RangeWalk
set_option linter.unusedSimpArgs false
set_option linter.unusedVariables false
set_option maxHeartbeats 1000000
namespace Go.Proofs.YteggpddlkkjmjaaGreatDoor
open Go Go.RowKit
def isLoad (o : Oper) : Bool := match o.op with | .load .. => true | _ => false
structure KeepT (T : Nat → Prop) (w w' : World) : Prop where
 size : w.heap.size ≤ w'.heap.size
 block : ∀ b, b < w.heap.size → T b → w'.heap[b]? = w.heap[b]?
theorem KeepT.refl (T : Nat → Prop) (w : World) : KeepT T w w := ⟨Nat.le_refl _, fun _ _ _ => rfl⟩
theorem KeepT.trans {T : Nat → Prop} {a b c : World} (h : KeepT T a b) (k : KeepT T b c) : KeepT T a c :=
 ⟨Nat.le_trans h.size k.size, fun i hi ht => (k.block i (Nat.lt_of_lt_of_le hi h.size) ht).trans (h.block i hi ht)⟩
theorem KeepT.of_below {T : Nat → Prop} {w w' : World} (h : Below w.heap.size w w') : KeepT T w w' := ⟨h.size, fun b hb _ => h.block b hb⟩
theorem KeepT.cell {w w' : World} (h : KeepT (fun _ => True) w w') {a : Addr} (ha : a.block < w.heap.size) : w'.cell? a = w.cell? a := World.cell?_of_block (h.block a.block ha trivial)
theorem seen_below {P : Program} {w w' : World} (hb : KeepT (fun _ => True) w w') {at_ : Addr} {u : TypeId} {k : Addr} {m : Bool} {r}
 (h : w.seen P at_ u k m = .ok r) : w'.seen P at_ u k m = .ok r := by
 by_cases hlt : at_.block < w.heap.size
 · have hh := hb.block _ hlt trivial
   unfold World.seen at *
   rw [hh]
   exact h
 · have hn : w.heap[at_.block]? = none := Array.getElem?_eq_none (by omega)
   exfalso
   unfold World.seen at h
   rw [hn] at h
   revert h
   cases k.spot.isSome || at_.spot.isSome
   · cases plainCell P P.depth u k.off with
     | none => intro h; cases h
     | some like =>
      cases hl : like.bytes?.map (·.length) with
      | none => intro h; simp [hl, bind, Except.bind, throw, throwThe, MonadExceptOf.throw] at h
      | some size =>
       cases hy : byteOfCell P P.depth u k.off with
       | none => intro h; simp [hl, hy, bind, Except.bind, throw, throwThe, MonadExceptOf.throw] at h
       | some _ => intro h; simp [hl, hy, bind, Except.bind, throw, throwThe, MonadExceptOf.throw] at h
   · intro h; cases h
theorem viewLoad_below {P : Program} {w w' : World} (hb : KeepT (fun _ => True) w w') {at_ : Addr} {u : TypeId} {k : Addr} {m : Bool} {r}
 (h : w.viewLoad P at_ u k m = .ok r) : w'.viewLoad P at_ u k m = .ok r := by
 unfold World.viewLoad at *
 cases hs : w.seen P at_ u k m with
 | error e => rw [hs] at h; cases h
 | ok x => rw [hs] at h; rw [seen_below hb hs]; exact h
theorem lt_of_heap {w : World} {b : Nat} {o : Obj} (h : w.heap[b]? = some o) : b < w.heap.size := (Array.getElem?_eq_some_iff.1 h).1
theorem lt_of_cell {w : World} {a : Addr} {v : Value} (h : w.cell? a = some v) : a.block < w.heap.size := by
 unfold World.cell? at h
 cases hh : w.heap[a.block]? with
 | none => rw [hh] at h; cases h
 | some o => exact lt_of_heap hh
theorem load1_below {α : Type} {P : Program} {w w' : World} (hb : KeepT (fun _ => True) w w') {m : Go.Mode} {a : Addr} {k : Value → Sem α} {r : α} {w1 : World}
 (hk : ∀ v, ∀ w1, (k v).run P w = .ok r w1 → w1 = w ∧ (k v).run P w' = .ok r w')
 (h : (Sem.load m a k).run P w = .ok r w1) : w1 = w ∧ (Sem.load m a k).run P w' = .ok r w' := by
 simp only [Sem.run] at h ⊢
 cases hc : w.cell? a with
 | some v =>
  rw [hc] at h
  rw [hb.cell (lt_of_cell hc), hc]
  exact hk v w1 h
 | none =>
  rw [hc] at h
  simp only at h
  cases hf : w.farLoad P a (m == .atomic) with
  | error e => rw [hf] at h; cases h
  | ok x =>
   obtain ⟨v, l⟩ := x
   rw [hf] at h
   simp only at h
   obtain ⟨e1, e2⟩ := hk v w1 h
   refine ⟨e1, ?_⟩
   unfold World.farLoad at hf
   cases hh : w.heap[a.block]? with
   | none => rw [hh] at hf; cases hf
   | some o =>
    have hlt := lt_of_heap hh
    have hh' := (hb.block _ hlt trivial).trans hh
    have hc' : w'.cell? a = none := (hb.cell hlt).trans hc
    rw [hc']
    simp only
    cases o with
    | view at_ u =>
     rw [hh] at hf
     simp only at hf
     cases hv : w.viewLoad P at_ u a (m == .atomic) with
     | error e => rw [hv] at hf; cases hf
     | ok y =>
      rw [hv] at hf
      have hy : y = (v, l) := by injection hf
      subst hy
      have hv' := viewLoad_below hb hv
      have hf' : w'.farLoad P a (m == .atomic) = .ok (v, l) := by
       unfold World.farLoad
       rw [hh']
       simp only [hv']
      rw [hf']
      exact e2
    | _ => rw [hh] at hf; cases hf
theorem load1_cells {α : Type} {P : Program} {w w' : World} {a : Addr} {cs : Array Value} {t : TypeId} {z : Nat × Nat} (h0 : w.heap[a.block]? = some (.cells cs t z)) (hb : w'.heap[a.block]? = w.heap[a.block]?) {m : Go.Mode} {k : Value → Sem α} {r : α} {w1 : World}
 (hk : ∀ v, ∀ w1, (k v).run P w = .ok r w1 → w1 = w ∧ (k v).run P w' = .ok r w')
 (h : (Sem.load m a k).run P w = .ok r w1) : w1 = w ∧ (Sem.load m a k).run P w' = .ok r w' := by
 simp only [Sem.run] at h ⊢
 have hcc : w'.cell? a = w.cell? a := World.cell?_of_block hb
 cases hc : w.cell? a with
 | some v =>
  rw [hc] at h
  rw [hcc, hc]
  exact hk v w1 h
 | none =>
  rw [hc] at h
  simp only at h
  cases hf : w.farLoad P a (m == .atomic) with
  | error e => rw [hf] at h; cases h
  | ok x =>
   unfold World.farLoad at hf
   rw [h0] at hf
   cases hf
def OneLoad (P : Program) (w w' : World) (b : Nat) : Prop := ∀ (α : Type) (m : Go.Mode) (a : Addr), a.block = b → ∀ (k : Value → Sem α) (r : α) (w1 : World),
 (∀ v, ∀ w1, (k v).run P w = .ok r w1 → w1 = w ∧ (k v).run P w' = .ok r w') → (Sem.load m a k).run P w = .ok r w1 → w1 = w ∧ (Sem.load m a k).run P w' = .ok r w'
theorem block_add (a : Addr) (i : Nat) : (a.add i).block = a.block := by unfold Addr.add; split <;> rfl
theorem loadCells_below {α : Type} {P : Program} {w w' : World} (a : Addr) (hb : OneLoad P w w' a.block) (f : Array Value → Sem α) {r : α}
 (hf : ∀ vs w1, (f vs).run P w = .ok r w1 → w1 = w ∧ (f vs).run P w' = .ok r w') :
 ∀ (n i : Nat) (acc : Array Value) (w1 : World), ((loadCellsFrom a i n acc).bind f).run P w = .ok r w1 → w1 = w ∧ ((loadCellsFrom a i n acc).bind f).run P w' = .ok r w' := by
 intro n
 induction n with
 | zero => intro i acc w1 h; exact hf acc w1 h
 | succ n ih =>
  intro i acc w1 h
  exact hb _ _ _ (block_add _ _) _ _ _ (fun v w2 h2 => ih _ _ _ h2) h
theorem isAgg_run {α : Type} {P : Program} (t : TypeId) (f : Bool → Sem α) (w : World) :
 ((isAgg t).bind f).run P w = match P.underlying t with
   | some (.struct _) | some (.array _ _) => (f true).run P w
   | some _ => (f false).run P w
   | none => .halt (.stuck "no such type") w := by
 unfold isAgg Go.underlying program
 simp only [bind, Sem.bind, Sem.run]
 cases h : P.underlying t with
 | none => simp [h, Sem.run, stuck, Sem.bind]
 | some d => cases d <;> simp [h, Sem.run, pure, Sem.bind]
theorem load_via {P : Program} {o : Oper} (ho : isLoad o = true) {ρ : Operand → Value} {w w' : World} (hB : ∀ t x, o.op = .load t x → ∀ p, ρ x = .pointer (some p) → OneLoad P w w' p.block) {n : Next} {w1 : World}
 (h : (execOp ρ o).run P w = .ok n w1) : w1 = w ∧ (execOp ρ o).run P w' = .ok n w' := by
 unfold isLoad at ho
 cases hop : o.op with
 | load t x =>
  unfold execOp at h ⊢
  simp only [hop] at h ⊢
  unfold Instr.loadAt at h ⊢
  cases hx : ρ x with
  | pointer a =>
   cases a with
   | none => rw [hx] at h; simp [Instr.sureAddr, stuck, bind, Sem.bind, Sem.run] at h
   | some a =>
    have hb : OneLoad P w w' a.block := hB t x hop a hx
    rw [hx] at h
    simp only [Instr.sureAddr] at h ⊢
    unfold loadVar at h ⊢
    simp only [bind, pure, Sem.bind] at h ⊢
    have assoc : ∀ {α β γ : Type} (s : Sem α) (f : α → Sem β) (g : β → Sem γ), (s.bind f).bind g = s.bind fun x => (f x).bind g := by
     intro α β γ s f g
     induction s with
     | pure a => rfl
     | load m a k ih => simp only [Sem.bind, ih]
     | store m a v k ih => simp only [Sem.bind, ih]
     | new o k ih => simp only [Sem.bind, ih]
     | shape r k ih => simp only [Sem.bind, ih]
     | freeze a n k ih => simp only [Sem.bind, ih]
     | frozen a k ih => simp only [Sem.bind, ih]
     | getObj r k ih => simp only [Sem.bind, ih]
     | setObj r o k ih => simp only [Sem.bind, ih]
     | choose q k ih => simp only [Sem.bind, ih]
     | sys c k ih => simp only [Sem.bind, ih]
     | program k ih => simp only [Sem.bind, ih]
     | mark m k ih => simp only [Sem.bind, ih]
     | halt h => rfl
    rw [assoc] at h ⊢
    rw [isAgg_run] at h ⊢
    have agg : ((((sizeOf t).bind fun x => (loadCells a x).bind fun x => Sem.pure (Value.agg x))).bind fun x => Sem.pure (Next.value x)).run P w = .ok n w1 → w1 = w ∧ ((((sizeOf t).bind fun x => (loadCells a x).bind fun x => Sem.pure (Value.agg x))).bind fun x => Sem.pure (Next.value x)).run P w' = .ok n w' := by
     intro h
     unfold sizeOf typeInfo program at h ⊢
     simp only [bind, pure, Sem.bind, Sem.run] at h ⊢
     cases hi : P.info? t with
     | none => rw [hi] at h; simp [Sem.run, stuck, Sem.bind] at h
     | some i =>
      rw [hi] at h
      simp only [Sem.bind, assoc] at h ⊢
      exact loadCells_below a hb _ (fun vs w2 h2 => by
       simp only [Sem.bind, Sem.run] at h2 ⊢
       injection h2 with e1 e2
       exact ⟨e2.symm, by rw [e1]⟩) _ _ _ _ h
    have one : (((Go.load a).bind fun x => Sem.pure (Next.value x))).run P w = .ok n w1 → w1 = w ∧ ((Go.load a).bind fun x => Sem.pure (Next.value x)).run P w' = .ok n w' := by
     intro h
     refine hb _ _ _ rfl _ _ _ (fun v w2 h2 => ?_) h
     simp only [Sem.bind, Sem.run] at h2 ⊢
     injection h2 with e1 e2
     exact ⟨e2.symm, by rw [e1]⟩
    cases hu : P.underlying t with
    | none => rw [hu] at h; cases h
    | some d =>
     rw [hu] at h
     cases d <;> first | exact agg h | exact one h
  | _ => rw [hx] at h; simp [Instr.sureAddr, stuck, bind, Sem.bind, Sem.run] at h
 | _ => simp [hop] at ho
theorem load_below {P : Program} {o : Oper} (ho : isLoad o = true) {ρ : Operand → Value} {w w' : World} (hb : KeepT (fun _ => True) w w') {n : Next} {w1 : World}
 (h : (execOp ρ o).run P w = .ok n w1) : w1 = w ∧ (execOp ρ o).run P w' = .ok n w' :=
 load_via ho (fun _ _ _ _ _ => fun _ _ _ _ _ _ _ hk hr => load1_below hb hk hr) h
theorem load_kept {P : Program} {o : Oper} (ho : isLoad o = true) {ρ : Operand → Value} {w w' : World} {T : Nat → Prop} (hb : KeepT T w w')
 (hp : ∀ t x, o.op = .load t x → ∃ b i s cs u z, ρ x = .pointer (some ⟨b, i, s⟩) ∧ T b ∧ w.heap[b]? = some (.cells cs u z)) {n : Next} {w1 : World}
 (h : (execOp ρ o).run P w = .ok n w1) : w1 = w ∧ (execOp ρ o).run P w' = .ok n w' := by
 refine load_via ho (fun t x hop p hx => ?_) h
 obtain ⟨b, i, s, cs, u, z, hx', hT, h0⟩ := hp t x hop
 rw [hx'] at hx
 injection hx with hx
 injection hx with hx
 subst hx
 intro α m a ha k r w2 hk hr
 refine load1_cells (by rw [ha]; exact h0) ?_ hk hr
 rw [ha]
 exact hb.block b (lt_of_heap h0) hT
section
variable {T : Nat → Prop}
variable {P : Program} {ops : Array Oper} {Q : Exit → Act → World → Prop} {md : Region.Mode}
def tailOp (md : Region.Mode) (ops : Array Oper) (j : Nat) : Bool :=
 match ops[j]? with
 | none => false
 | some oj => (List.range ops.size).all fun k => match ops[k]? with
  | some ok => !isLoad ok || oj.after.any (fun e => Region.binds md e && e.on == k)
  | none => true
theorem tailOp_spec {j k : Nat} {listed : Array Bool} (ht : tailOp md ops j = true) (hj : j ∈ Region.ready md ops listed) {ok : Oper} (hk : ops[k]? = some ok) (hl : isLoad ok = true) :
 listed.getD k false = true := by
 obtain ⟨_, oj, hoj, hall⟩ := mem_ready.1 hj
 unfold tailOp at ht
 rw [hoj] at ht
 simp only [List.all_eq_true, List.mem_range] at ht
 have h1 := ht k (Array.getElem?_eq_some_iff.1 hk).1
 simp only [hk, hl, Bool.not_true, Bool.false_or, Array.any_eq_true] at h1
 obtain ⟨i, hi, h2⟩ := h1
 simp only [Bool.and_eq_true, beq_iff_eq] at h2
 have := hall oj.after[i] (Array.getElem_mem hi) h2.1
 rw [h2.2] at this
 exact this
def wpAnyB (T : Nat → Prop) (P : Program) (md : Region.Mode) (ops : Array Oper) (Q : Exit → Act → World → Prop) : Nat → Array Bool → Act → World → Prop
 | 0, listed, a, w => Region.ready md ops listed = [] ∧ Q .normal a w
 | fuel + 1, listed, a, w =>
  (Region.ready md ops listed = [] → Q .normal a w) ∧
  ∀ i ∈ Region.ready md ops listed, wpOp P ops Q i (fun a' w' => (tailOp md ops i = true ∨ KeepT T w w') ∧ wpAnyB T P md ops Q fuel (listed.setIfInBounds i true) a' w') a w
theorem wpAny_of_B : ∀ (fuel : Nat) (listed : Array Bool) (a : Act) (w : World), wpAnyB T P md ops Q fuel listed a w → wpAny P md ops Q fuel listed a w
 | 0, _, _, _, h => h
 | fuel + 1, _, _, _, h => ⟨h.1, fun i hi => wpOp_mono (fun a' w' h' => wpAny_of_B fuel _ a' w' h'.2) (h.2 i hi)⟩
def Sof (T : Nat → Prop) (o : Oper) (w : World) (w' : World) : Prop := isLoad o = true → KeepT T w w'
theorem Sof.refl (o : Oper) (w : World) : Sof T o w w := fun _ => KeepT.refl _ _
theorem yields_weaken {S S' : World → Prop} {o : Oper} {v : Value} {a : Act} (h : YieldsIf P ops S o v a) (hs : ∀ w, S' w → S w) : YieldsIf P ops S' o v a :=
 h.imp (fun ⟨h1, h2⟩ => ⟨h1, fun w hw => h2 w (hs w hw)⟩) id
theorem wpAnyB_first {i : Nat} {oi : Oper} {v : Value} (hi : ops[i]? = some oi) (hsel : ∀ (j : Nat) (o : Oper) cs b, ops[j]? = some o → o.op ≠ .select cs b)
 (hQ : ∀ c a w, Q (.panic c) (a.put oi.dst v) w → Q (.panic c) a w) :
 ∀ (fuel : Nat) (listed : Array Bool) (a : Act) (w : World),
  (∀ j oj, ops[j]? = some oj → j ≠ i → listed.getD j true = false → (∀ e ∈ oj.after, Region.binds md e = true → e.on ≠ i) → oi.apart ops oj = true) →
  i ∈ Region.ready md ops listed → YieldsIf P ops (Sof T oi w) oi v a →
  wpAnyB T P md ops Q fuel (listed.setIfInBounds i true) (a.put oi.dst v) w → wpAnyB T P md ops Q (fuel + 1) listed a w := by
 intro fuel
 induction fuel with
 | zero =>
  intro listed a w _ hr hy H
  refine ⟨fun h => (by rw [h] at hr; cases hr), fun j hj => ?_⟩
  by_cases hji : j = i
  · subst hji; exact hy.wpOp hi (Sof.refl _ _) ⟨.inr (KeepT.refl _ _), H⟩
  · have := ready_mono hj hji
    rw [H.1] at this
    cases this
 | succ fuel ih =>
  intro listed a w hfree hr hy H
  refine ⟨fun h => (by rw [h] at hr; cases hr), fun j hj => ?_⟩
  by_cases hji : j = i
  · subst hji; exact hy.wpOp hi (Sof.refl _ _) ⟨.inr (KeepT.refl _ _), H⟩
  · have h1 := H.2 j (ready_mono hj hji)
    obtain ⟨hjun, oj, hoj, hall⟩ := mem_ready.1 hj
    have hun : listed.getD i true = false := (mem_ready.1 hr).1
    have hun' : listed.getD i false = false := by
     rcases Nat.lt_or_ge i listed.size with h' | h'
     · simp [h'] at hun ⊢; exact hun
     · simp [Array.getElem?_eq_none h'] at hun
    have hnot : ∀ e ∈ oj.after, Region.binds md e = true → e.on ≠ i := fun e he hb heq => by
     have h1 := hall e he hb
     rw [heq, hun'] at h1
     cases h1
    have htl : isLoad oi = true → tailOp md ops j = false := fun hl => by
     cases ht : tailOp md ops j with
     | false => rfl
     | true =>
      have := tailOp_spec ht hj hi hl
      rw [hun'] at this
      cases this
    have h2 := wpOp_putIf hoj (hfree j oj hoj hji hjun hnot) (fun cs b => hsel i oi cs b hi) (fun cs b => hsel j oj cs b hoj) hQ hy h1
    have hfree' : ∀ k ok, ops[k]? = some ok → k ≠ i → (listed.setIfInBounds j true).getD k true = false →
     (∀ e ∈ ok.after, Region.binds md e = true → e.on ≠ i) → oi.apart ops ok = true := fun k ok hk hki hun hno => by
     refine hfree k ok hk hki ?_ hno
     by_cases hjk : j = k
     · subst hjk; exact hjun
     · rw [getD_set_ne true hjk] at hun; exact hun
    refine wpOp_mono (fun a' w' h3 => ⟨h3.2.1, ih (listed.setIfInBounds j true) a' w' hfree' (ready_mono hr (Ne.symm hji)) ?_ ?_⟩) h2
    · refine yields_weaken h3.1 (fun w2 hs2 hl => ?_)
      have hb : KeepT T w w' := by
       rcases h3.2.1 with ht | hb
       · rw [htl hl] at ht; cases ht
       · exact hb
      exact hb.trans (hs2 hl)
    · rw [Array.setIfInBounds_comm _ _ hji]
      exact h3.2.2
def Keep (T : Nat → Prop) (t : Bool) (w w' : World) (X : Prop) : Prop := (t = true ∨ KeepT T w w') ∧ X
theorem Keep.last {w w' : World} {X : Prop} (h : X) : Keep T true w w' X := ⟨.inl rfl, h⟩
theorem Keep.below {t : Bool} {w w' : World} {X : Prop} (hb : Below w.heap.size w w') (h : X) : Keep T t w w' X := ⟨.inr (.of_below hb), h⟩
theorem Keep.alloc {t : Bool} {w : World} {o : Obj} {X : Prop} (h : X) : Keep T t w (w.alloc o) X := ⟨.inr (.of_below ((Below.refl _ _).alloc (Nat.le_refl _) _)), h⟩
theorem Keep.same {t : Bool} {w : World} {X : Prop} (h : X) : Keep T t w w X := ⟨.inr (.refl _ _), h⟩
theorem Keep.kept {t : Bool} {w w' : World} {X : Prop} (hb : KeepT T w w') (h : X) : Keep T t w w' X := ⟨.inr hb, h⟩
def WpH (T : Nat → Prop) (P : Program) (ops : Array Oper) (Q : Exit → Act → World → Prop) : List (Oper × Bool × Bool) → Act → World → Prop
 | [], a, w => Q .normal a w
 | (o, true, _) :: rest, a, w =>
  (Region.wanted o (yielded ops a.tmps) = false ∧ WpH T P ops Q rest (a.put o.dst undef) w) ∨
  (Region.wanted o (yielded ops a.tmps) = true ∧ ∃ v, ((∀ w', (execOp a.eval o).run P w' = .ok (.value v) w') ∨ (isLoad o = true ∧ ∀ w', KeepT T w w' → (execOp a.eval o).run P w' = .ok (.value v) w')) ∧ WpH T P ops Q rest (a.put o.dst v) w)
 | (o, false, t) :: rest, a, w =>
  if Region.wanted o (yielded ops a.tmps) then o.wp P a w (fun a' w' => Keep T t w w' (WpH T P ops Q rest a' w')) Q else WpH T P ops Q rest (a.put o.dst undef) w
def orderOk (md : Region.Mode) (ops : Array Oper) : List (Nat × Bool × Bool) → Array Bool → Bool
 | [], listed => (Region.ready md ops listed).isEmpty
 | (i, true, _) :: rest, listed => (Region.ready md ops listed).contains i && Region.free md ops listed i && orderOk md ops rest (listed.setIfInBounds i true)
 | (i, false, t) :: rest, listed => (Region.ready md ops listed == [i]) && (!t || tailOp md ops i) && orderOk md ops rest (listed.setIfInBounds i true)
def nthOp : List Oper → Nat → Option Oper
 | [], _ => none
 | o :: _, 0 => some o
 | _ :: l, i + 1 => nthOp l i
theorem nthOp_eq : ∀ (l : List Oper) (i : Nat), nthOp l i = l[i]?
 | [], _ => rfl
 | _ :: _, 0 => rfl
 | _ :: l, i + 1 => nthOp_eq l i
def opsOf (ops : List Oper) : List (Nat × Bool × Bool) → Option (List (Oper × Bool × Bool))
 | [] => some []
 | (i, c, t) :: rest => match nthOp ops i, opsOf ops rest with
  | some o, some l => some ((o, c, t) :: l)
  | _, _ => none
theorem wpAnyB_of_H (hsel : Region.noSelect ops = true) (hQ : ∀ c a w, ¬ Q (.panic c) a w) :
 ∀ (order : List (Nat × Bool × Bool)) (l : List (Oper × Bool × Bool)) (fuel : Nat) (listed : Array Bool) (a : Act) (w : World),
  opsOf ops.toList order = some l → order.length ≤ fuel → orderOk md ops order listed = true → WpH T P ops Q l a w → wpAnyB T P md ops Q fuel listed a w := by
 intro order
 induction order with
 | nil =>
  intro l fuel listed a w hl _ hok h
  have hl' : l = [] := by simpa [opsOf] using hl.symm
  subst hl'
  have hr : Region.ready md ops listed = [] := by simpa [orderOk] using hok
  cases fuel with
  | zero => exact ⟨hr, h⟩
  | succ f => exact ⟨fun _ => h, by rw [hr]; simp⟩
 | cons x order ih =>
  obtain ⟨i, c, t⟩ := x
  intro l fuel listed a w hl hf hok h
  obtain ⟨fuel, rfl⟩ : ∃ f, fuel = f + 1 := ⟨fuel - 1, by simp at hf; omega⟩
  unfold opsOf at hl
  rw [nthOp_eq, Array.getElem?_toList] at hl
  cases ho : ops[i]? with
  | none => rw [ho] at hl; cases hl
  | some o =>
   cases hrest : opsOf ops.toList order with
   | none => rw [ho, hrest] at hl; cases hl
   | some l' =>
    rw [ho, hrest] at hl
    injection hl with hl
    subst hl
    have hf' : order.length ≤ fuel := by simpa using hf
    cases c with
    | true =>
     simp only [orderOk, Bool.and_eq_true, List.contains_iff_mem] at hok
     obtain ⟨⟨hr, hfr⟩, hok'⟩ := hok
     rcases h with ⟨hw, h⟩ | ⟨hw, v, hv, h⟩
     · exact wpAnyB_first ho (Region.noSelect_spec hsel) (fun c a w hq => (hQ _ _ _ hq).elim) fuel listed a w (Region.free_spec ho hfr) hr (.inr ⟨hw, rfl⟩) (ih l' fuel _ _ _ hrest hf' hok' h)
     · refine wpAnyB_first ho (Region.noSelect_spec hsel) (fun c a w hq => (hQ _ _ _ hq).elim) fuel listed a w (Region.free_spec ho hfr) hr (.inl ⟨hw, fun w' hs => ?_⟩) (ih l' fuel _ _ _ hrest hf' hok' h)
       rcases hv with hv | ⟨hld, hv⟩
       · exact hv w'
       · exact hv w' (hs hld)
    | false =>
     simp only [orderOk, Bool.and_eq_true, beq_iff_eq, Bool.or_eq_true, Bool.not_eq_true'] at hok
     obtain ⟨⟨hr, ht⟩, hok'⟩ := hok
     refine ⟨fun h0 => (by rw [hr] at h0; cases h0), fun j hj => ?_⟩
     rw [hr] at hj
     obtain rfl : j = i := by simpa using hj
     unfold wpOp
     simp only [ho]
     simp only [WpH] at h
     by_cases hw : Region.wanted o (yielded ops a.tmps) = true
     · rw [if_pos hw] at h ⊢
       refine .inl (Oper.wp_mono (fun a' w' h' => ⟨?_, ih l' fuel _ _ _ hrest hf' hok' h'.2⟩) h)
       rcases h'.1 with h0 | h0
       · subst h0
         rcases ht with h1 | h1
         · cases h1
         · exact .inl h1
       · exact .inr h0
     · rw [if_neg hw] at h ⊢
       exact ⟨.inr (KeepT.refl _ _), ih l' fuel _ _ _ hrest hf' hok' h⟩
def NoP (Q : Exit → Act → World → Prop) : Exit → Act → World → Prop
 | .panic _, _, _ => False
 | e, a, w => Q e a w
theorem NoP.imp {Q : Exit → Act → World → Prop} : ∀ (e : Exit) (a : Act) (w : World), NoP Q e a w → Q e a w := fun e a w h => by
 cases e <;> first | exact h | exact (h : False).elim
theorem wp_region_orderT (T : Nat → Prop) {id : Nat} {a : Act} {w : World} {L : List Oper} (order : List (Nat × Bool × Bool)) {l : List (Oper × Bool × Bool)} (hm : P.follows .mixedOrders = true)
 (hs : Region.noSelect L.toArray = true) (hok : orderOk .any L.toArray order (Array.replicate L.length false) = true) (hlen : order.length = L.length)
 (hl : opsOf L order = some l) (h : WpH T P L.toArray (NoP Q) l a w.drew) : (Code.region id L.toArray true).wp P Q a w :=
 Code.wp_mono NoP.imp (wp_region_any hm (wpAny_of_B _ _ _ _ (wpAnyB_of_H hs (fun _ _ _ h => h) order l L.toArray.size _ _ _ (by simpa using hl) (by simp; omega) (by simpa using hok) h)))
theorem wp_region_order {id : Nat} {a : Act} {w : World} {L : List Oper} (order : List (Nat × Bool × Bool)) {l : List (Oper × Bool × Bool)} (hm : P.follows .mixedOrders = true)
 (hs : Region.noSelect L.toArray = true) (hok : orderOk .any L.toArray order (Array.replicate L.length false) = true) (hlen : order.length = L.length)
 (hl : opsOf L order = some l) (h : WpH (fun _ => True) P L.toArray (NoP Q) l a w.drew) : (Code.region id L.toArray true).wp P Q a w := wp_region_orderT _ order hm hs hok hlen hl h
theorem NoP.normal {Q : Exit → Act → World → Prop} {a : Act} {w : World} (h : Q .normal a w) : NoP Q .normal a w := h
def Stop (p : Prop) : Prop := p
theorem Stop.go {p : Prop} (h : p) : Stop p := h
theorem stop_if (t : Nat) {x y : Code} {a : Act} {w : World} (h : Stop ((Code.cond (.tmp t) x y).wp P Q a w)) : (Code.cond (.tmp t) x y).wp P Q a w := h
theorem stop_region (id : Nat) {b : Bool} {a : Act} {w : World} (h : Stop ((Code.region id ops b).wp P Q a w)) : (Code.region id ops b).wp P Q a w := h
theorem region_at (id : Nat) {a : Act} {w : World} (h : (Code.region id ops true).wp P Q a w) : (Code.region id ops true).wp P Q a w := h
theorem WpH.here {l : List (Oper × Bool × Bool)} {a : Act} {w : World} (h : WpH T P ops Q l a w) : WpH T P ops Q l a w := h
theorem WpH.nil {a : Act} {w : World} (h : Q .normal a w) : WpH T P ops Q [] a w := h
theorem WpH.skip {o : Oper} {c t : Bool} {rest : List (Oper × Bool × Bool)} {a : Act} {w : World} (hw : Region.wanted o (yielded ops a.tmps) = false)
 (h : WpH T P ops Q rest (a.put o.dst undef) w) : WpH T P ops Q ((o, c, t) :: rest) a w := by
 cases c
 · simp only [WpH, hw]; exact h
 · exact .inl ⟨hw, h⟩
theorem WpH.pure {o : Oper} {t : Bool} {rest : List (Oper × Bool × Bool)} {a : Act} {w : World} {v : Value} (hw : Region.wanted o (yielded ops a.tmps) = true)
 (hv : ∀ w', (execOp a.eval o).run P w' = .ok (.value v) w') (h : WpH T P ops Q rest (a.put o.dst v) w) : WpH T P ops Q ((o, true, t) :: rest) a w :=
 .inr ⟨hw, v, .inl hv, h⟩
theorem WpH.load {o : Oper} {t : Bool} {rest : List (Oper × Bool × Bool)} {a : Act} {w : World} {v : Value} (hl : isLoad o = true) (hw : Region.wanted o (yielded ops a.tmps) = true)
 (hv : (execOp a.eval o).run P w = .ok (.value v) w) (h : WpH (fun _ => True) P ops Q rest (a.put o.dst v) w) : WpH (fun _ => True) P ops Q ((o, true, t) :: rest) a w :=
 .inr ⟨hw, v, .inr ⟨hl, fun _ hk => (load_below hl hk hv).2⟩, h⟩
theorem WpH.loadT {o : Oper} {t : Bool} {rest : List (Oper × Bool × Bool)} {a : Act} {w : World} {v : Value} (hl : isLoad o = true) (hw : Region.wanted o (yielded ops a.tmps) = true)
 (hv : (execOp a.eval o).run P w = .ok (.value v) w) (hp : ∀ t x, o.op = .load t x → ∃ b i s cs u z, a.eval x = .pointer (some ⟨b, i, s⟩) ∧ T b ∧ w.heap[b]? = some (.cells cs u z))
 (h : WpH T P ops Q rest (a.put o.dst v) w) : WpH T P ops Q ((o, true, t) :: rest) a w :=
 .inr ⟨hw, v, .inr ⟨hl, fun _ hk => (load_kept hl hk hp hv).2⟩, h⟩
theorem WpH.wild {o : Oper} {t : Bool} {rest : List (Oper × Bool × Bool)} {a : Act} {w : World} (hg : Region.wanted o (yielded ops a.tmps) = true)
 (h : o.wp P a w (fun a' w' => Keep T t w w' (WpH T P ops Q rest a' w')) Q) : WpH T P ops Q ((o, false, t) :: rest) a w := by
 simp only [WpH, hg, if_true]; exact h
theorem WpH.wild1 {o : Oper} {t : Bool} {rest : List (Oper × Bool × Bool)} {a : Act} {w : World}  (hg : o.guard = none)
 (h : ∀ K : Act → World → Prop, (∀ a' w', Keep T t w w' (WpH T P ops Q rest a' w') → K a' w') → o.wp P a w K Q) : WpH T P ops Q ((o, false, t) :: rest) a w :=
 WpH.wild (by simp [Region.wanted, hg]) (h _ fun _ _ h => h)
end
attribute [irreducible] WpH NoP Keep Stop
inductive Ord (α : Type) where
 | nil
 | one (x : α) (c t : Bool) (r : Ord α)
 | two (x y : α) (r s : Ord α)
 | three (x y z : α) (r s u : Ord α)
def Ord.depth {α : Type} : Ord α → Nat
 | .nil => 0
 | .one _ _ _ r => r.depth + 1
 | .two _ _ r s => max r.depth s.depth + 1
 | .three _ _ _ r s u => max r.depth (max s.depth u.depth) + 1
section
variable {T : Nat → Prop}
variable {P : Program} {ops : Array Oper} {Q : Exit → Act → World → Prop} {md : Region.Mode}
def wildO (T : Nat → Prop) (P : Program) (ops : Array Oper) (Q : Exit → Act → World → Prop) (t : Bool) (o : Oper) (X : Act → World → Prop) (a : Act) (w : World) : Prop :=
 if Region.wanted o (yielded ops a.tmps) then o.wp P a w (fun a' w' => Keep T t w w' (X a' w')) Q else X (a.put o.dst undef) w
def WpO (T : Nat → Prop) (P : Program) (ops : Array Oper) (Q : Exit → Act → World → Prop) : Ord Oper → Act → World → Prop
 | .nil, a, w => Q .normal a w
 | .one o true _ r, a, w =>
  (Region.wanted o (yielded ops a.tmps) = false ∧ WpO T P ops Q r (a.put o.dst undef) w) ∨
  (Region.wanted o (yielded ops a.tmps) = true ∧ ∃ v, ((∀ w', (execOp a.eval o).run P w' = .ok (.value v) w') ∨ (isLoad o = true ∧ ∀ w', KeepT T w w' → (execOp a.eval o).run P w' = .ok (.value v) w')) ∧ WpO T P ops Q r (a.put o.dst v) w)
 | .one o false t r, a, w => wildO T P ops Q t o (WpO T P ops Q r) a w
 | .two x y r s, a, w => wildO T P ops Q false x (WpO T P ops Q r) a w ∧ wildO T P ops Q false y (WpO T P ops Q s) a w
 | .three x y z r s u, a, w => wildO T P ops Q false x (WpO T P ops Q r) a w ∧ wildO T P ops Q false y (WpO T P ops Q s) a w ∧ wildO T P ops Q false z (WpO T P ops Q u) a w
def ordOk (md : Region.Mode) (ops : Array Oper) : Ord Nat → Array Bool → Bool
 | .nil, listed => (Region.ready md ops listed).isEmpty
 | .one i true _ r, listed => (Region.ready md ops listed).contains i && Region.free md ops listed i && ordOk md ops r (listed.setIfInBounds i true)
 | .one i false t r, listed => (Region.ready md ops listed == [i]) && (!t || tailOp md ops i) && ordOk md ops r (listed.setIfInBounds i true)
 | .two i j r s, listed => (Region.ready md ops listed == [i, j]) && ordOk md ops r (listed.setIfInBounds i true) && ordOk md ops s (listed.setIfInBounds j true)
 | .three i j k r s u, listed => (Region.ready md ops listed == [i, j, k]) && ordOk md ops r (listed.setIfInBounds i true) && ordOk md ops s (listed.setIfInBounds j true) && ordOk md ops u (listed.setIfInBounds k true)
def ordOf (ops : List Oper) : Ord Nat → Option (Ord Oper)
 | .nil => some .nil
 | .one i c t r => match nthOp ops i, ordOf ops r with
  | some o, some l => some (.one o c t l)
  | _, _ => none
 | .two i j r s => match nthOp ops i, nthOp ops j, ordOf ops r, ordOf ops s with
  | some o, some p, some l, some m => some (.two o p l m)
  | _, _, _, _ => none
 | .three i j k r s u => match nthOp ops i, nthOp ops j, nthOp ops k, ordOf ops r, ordOf ops s, ordOf ops u with
  | some o, some p, some q, some l, some m, some n => some (.three o p q l m n)
  | _, _, _, _, _, _ => none
theorem wpOp_wildO {i : Nat} {o : Oper} {t : Bool} {X Y : Act → World → Prop} {a : Act} {w : World} (ho : ops[i]? = some o) (ht : t = true → tailOp md ops i = true) (hXY : ∀ a w, X a w → Y a w) (h : wildO T P ops Q t o X a w) :
 wpOp P ops Q i (fun a' w' => (tailOp md ops i = true ∨ KeepT T w w') ∧ Y a' w') a w := by
 unfold wpOp
 simp only [ho]
 unfold wildO at h
 by_cases hw : Region.wanted o (yielded ops a.tmps) = true
 · rw [if_pos hw] at h ⊢
   refine .inl (Oper.wp_mono (fun a' w' h' => ?_) h)
   unfold Keep at h'
   exact ⟨h'.1.imp ht id, hXY _ _ h'.2⟩
 · rw [if_neg hw] at h ⊢
   exact ⟨.inr (KeepT.refl _ _), hXY _ _ h⟩
theorem wpAnyB_of_O (hsel : Region.noSelect ops = true) (hQ : ∀ c a w, ¬ Q (.panic c) a w) :
 ∀ (order : Ord Nat) (l : Ord Oper) (fuel : Nat) (listed : Array Bool) (a : Act) (w : World),
  ordOf ops.toList order = some l → order.depth ≤ fuel → ordOk md ops order listed = true → WpO T P ops Q l a w → wpAnyB T P md ops Q fuel listed a w := by
 intro order
 induction order with
 | nil =>
  intro l fuel listed a w hl _ hok h
  have hl' : l = .nil := by simpa [ordOf] using hl.symm
  subst hl'
  have hr : Region.ready md ops listed = [] := by simpa [ordOk] using hok
  cases fuel with
  | zero => exact ⟨hr, h⟩
  | succ f => exact ⟨fun _ => h, by rw [hr]; simp⟩
 | one i c t r ih =>
  intro l fuel listed a w hl hf hok h
  obtain ⟨fuel, rfl⟩ : ∃ f, fuel = f + 1 := ⟨fuel - 1, by simp [Ord.depth] at hf; omega⟩
  unfold ordOf at hl
  rw [nthOp_eq, Array.getElem?_toList] at hl
  cases ho : ops[i]? with
  | none => rw [ho] at hl; cases hl
  | some o =>
   cases hrest : ordOf ops.toList r with
   | none => rw [ho, hrest] at hl; cases hl
   | some l' =>
    rw [ho, hrest] at hl
    injection hl with hl
    subst hl
    have hf' : r.depth ≤ fuel := by simpa [Ord.depth] using hf
    cases c with
    | true =>
     simp only [ordOk, Bool.and_eq_true, List.contains_iff_mem] at hok
     obtain ⟨⟨hr, hfr⟩, hok'⟩ := hok
     rcases h with ⟨hw, h⟩ | ⟨hw, v, hv, h⟩
     · exact wpAnyB_first ho (Region.noSelect_spec hsel) (fun c a w hq => (hQ _ _ _ hq).elim) fuel listed a w (Region.free_spec ho hfr) hr (.inr ⟨hw, rfl⟩) (ih l' fuel _ _ _ hrest hf' hok' h)
     · refine wpAnyB_first ho (Region.noSelect_spec hsel) (fun c a w hq => (hQ _ _ _ hq).elim) fuel listed a w (Region.free_spec ho hfr) hr (.inl ⟨hw, fun w' hs => ?_⟩) (ih l' fuel _ _ _ hrest hf' hok' h)
       rcases hv with hv | ⟨hld, hv⟩
       · exact hv w'
       · exact hv w' (hs hld)
    | false =>
     simp only [ordOk, Bool.and_eq_true, beq_iff_eq, Bool.or_eq_true, Bool.not_eq_true'] at hok
     obtain ⟨⟨hr, ht⟩, hok'⟩ := hok
     refine ⟨fun h0 => (by rw [hr] at h0; cases h0), fun j hj => ?_⟩
     rw [hr] at hj
     obtain rfl : j = i := by simpa using hj
     simp only [WpO] at h
     exact wpOp_wildO ho (fun e => by subst e; rcases ht with h1 | h1; cases h1; exact h1) (fun a w h => ih l' fuel _ _ _ hrest hf' hok' h) h
 | two i j r s ihr ihs =>
  intro l fuel listed a w hl hf hok h
  obtain ⟨fuel, rfl⟩ : ∃ f, fuel = f + 1 := ⟨fuel - 1, by simp [Ord.depth] at hf; omega⟩
  unfold ordOf at hl
  rw [nthOp_eq, nthOp_eq, Array.getElem?_toList, Array.getElem?_toList] at hl
  cases ho : ops[i]? with
  | none => rw [ho] at hl; cases hl
  | some o =>
   cases hp : ops[j]? with
   | none => rw [ho, hp] at hl; cases hl
   | some p =>
    cases hr' : ordOf ops.toList r with
    | none => rw [ho, hp, hr'] at hl; cases hl
    | some lr =>
     cases hs' : ordOf ops.toList s with
     | none => rw [ho, hp, hr', hs'] at hl; cases hl
     | some ls =>
      rw [ho, hp, hr', hs'] at hl
      injection hl with hl
      subst hl
      simp only [Ord.depth, Nat.add_le_add_iff_right, Nat.max_le] at hf
      simp only [ordOk, Bool.and_eq_true, beq_iff_eq] at hok
      obtain ⟨⟨hr, hok1⟩, hok2⟩ := hok
      simp only [WpO] at h
      refine ⟨fun h0 => (by rw [hr] at h0; cases h0), fun k hk => ?_⟩
      rw [hr] at hk
      rcases List.mem_cons.1 hk with rfl | hk
      · exact wpOp_wildO ho (fun e => by cases e) (fun a w h => ihr lr fuel _ _ _ hr' hf.1 hok1 h) h.1
      · obtain rfl : k = j := by simpa using hk
        exact wpOp_wildO hp (fun e => by cases e) (fun a w h => ihs ls fuel _ _ _ hs' hf.2 hok2 h) h.2
 | three i j k r s u ihr ihs ihu =>
  intro l fuel listed a w hl hf hok h
  obtain ⟨fuel, rfl⟩ : ∃ f, fuel = f + 1 := ⟨fuel - 1, by simp [Ord.depth] at hf; omega⟩
  unfold ordOf at hl
  rw [nthOp_eq, nthOp_eq, nthOp_eq, Array.getElem?_toList, Array.getElem?_toList, Array.getElem?_toList] at hl
  cases ho : ops[i]? with
  | none => rw [ho] at hl; cases hl
  | some o =>
   cases hp : ops[j]? with
   | none => rw [ho, hp] at hl; cases hl
   | some p =>
    cases hq : ops[k]? with
    | none => rw [ho, hp, hq] at hl; cases hl
    | some q =>
     cases hr' : ordOf ops.toList r with
     | none => rw [ho, hp, hq, hr'] at hl; cases hl
     | some lr =>
      cases hs' : ordOf ops.toList s with
      | none => rw [ho, hp, hq, hr', hs'] at hl; cases hl
      | some ls =>
       cases hu' : ordOf ops.toList u with
       | none => rw [ho, hp, hq, hr', hs', hu'] at hl; cases hl
       | some lu =>
        rw [ho, hp, hq, hr', hs', hu'] at hl
        injection hl with hl
        subst hl
        simp only [Ord.depth, Nat.add_le_add_iff_right, Nat.max_le] at hf
        simp only [ordOk, Bool.and_eq_true, beq_iff_eq] at hok
        obtain ⟨⟨⟨hr, hok1⟩, hok2⟩, hok3⟩ := hok
        simp only [WpO] at h
        refine ⟨fun h0 => (by rw [hr] at h0; cases h0), fun m hm => ?_⟩
        rw [hr] at hm
        rcases List.mem_cons.1 hm with rfl | hm
        · exact wpOp_wildO ho (fun e => by cases e) (fun a w h => ihr lr fuel _ _ _ hr' hf.1 hok1 h) h.1
        · rcases List.mem_cons.1 hm with rfl | hm
          · exact wpOp_wildO hp (fun e => by cases e) (fun a w h => ihs ls fuel _ _ _ hs' hf.2.1 hok2 h) h.2.1
          · obtain rfl : m = k := by simpa using hm
            exact wpOp_wildO hq (fun e => by cases e) (fun a w h => ihu lu fuel _ _ _ hu' hf.2.2 hok3 h) h.2.2
theorem wp_region_ordT (T : Nat → Prop) {id : Nat} {a : Act} {w : World} {L : List Oper} (order : Ord Nat) {l : Ord Oper} (hm : P.follows .mixedOrders = true)
 (hs : Region.noSelect L.toArray = true) (hok : ordOk .any L.toArray order (Array.replicate L.length false) = true) (hlen : order.depth = L.length)
 (hl : ordOf L order = some l) (h : WpO T P L.toArray (NoP Q) l a w.drew) : (Code.region id L.toArray true).wp P Q a w :=
 Code.wp_mono NoP.imp (wp_region_any hm (wpAny_of_B _ _ _ _ (wpAnyB_of_O hs (fun _ _ _ h => by unfold NoP at h; exact h) order l L.toArray.size _ _ _ (by simpa using hl) (by simp; omega) (by simpa using hok) h)))
theorem WpO.here {l : Ord Oper} {a : Act} {w : World} (h : WpO T P ops Q l a w) : WpO T P ops Q l a w := h
theorem WpO.done {a : Act} {w : World} (h : Q .normal a w) : WpO T P ops Q .nil a w := h
theorem WpO.skip {o : Oper} {c t : Bool} {r : Ord Oper} {a : Act} {w : World} (hw : Region.wanted o (yielded ops a.tmps) = false)
 (h : WpO T P ops Q r (a.put o.dst undef) w) : WpO T P ops Q (.one o c t r) a w := by
 cases c
 · simp only [WpO, wildO, hw]; exact h
 · exact .inl ⟨hw, h⟩
theorem WpO.pure {o : Oper} {t : Bool} {r : Ord Oper} {a : Act} {w : World} {v : Value} (hw : Region.wanted o (yielded ops a.tmps) = true)
 (hv : ∀ w', (execOp a.eval o).run P w' = .ok (.value v) w') (h : WpO T P ops Q r (a.put o.dst v) w) : WpO T P ops Q (.one o true t r) a w :=
 .inr ⟨hw, v, .inl hv, h⟩
theorem WpO.load {o : Oper} {t : Bool} {r : Ord Oper} {a : Act} {w : World} {v : Value} (hl : isLoad o = true) (hw : Region.wanted o (yielded ops a.tmps) = true)
 (hv : (execOp a.eval o).run P w = .ok (.value v) w) (h : WpO (fun _ => True) P ops Q r (a.put o.dst v) w) : WpO (fun _ => True) P ops Q (.one o true t r) a w :=
 .inr ⟨hw, v, .inr ⟨hl, fun _ hk => (load_below hl hk hv).2⟩, h⟩
theorem WpO.loadT {o : Oper} {t : Bool} {r : Ord Oper} {a : Act} {w : World} {v : Value} (hl : isLoad o = true) (hw : Region.wanted o (yielded ops a.tmps) = true)
 (hv : (execOp a.eval o).run P w = .ok (.value v) w) (hp : ∀ t x, o.op = .load t x → ∃ b i s cs u z, a.eval x = .pointer (some ⟨b, i, s⟩) ∧ T b ∧ w.heap[b]? = some (.cells cs u z))
 (h : WpO T P ops Q r (a.put o.dst v) w) : WpO T P ops Q (.one o true t r) a w :=
 .inr ⟨hw, v, .inr ⟨hl, fun _ hk => (load_kept hl hk hp hv).2⟩, h⟩
theorem WpO.wild {o : Oper} {t : Bool} {r : Ord Oper} {a : Act} {w : World} (h : wildO T P ops Q t o (WpO T P ops Q r) a w) : WpO T P ops Q (.one o false t r) a w := h
theorem WpO.two {x y : Oper} {r s : Ord Oper} {a : Act} {w : World} (h : wildO T P ops Q false x (WpO T P ops Q r) a w) (k : wildO T P ops Q false y (WpO T P ops Q s) a w) : WpO T P ops Q (.two x y r s) a w := ⟨h, k⟩
theorem WpO.three {x y z : Oper} {r s u : Ord Oper} {a : Act} {w : World} (h : wildO T P ops Q false x (WpO T P ops Q r) a w) (k : wildO T P ops Q false y (WpO T P ops Q s) a w) (m : wildO T P ops Q false z (WpO T P ops Q u) a w) :
 WpO T P ops Q (.three x y z r s u) a w := ⟨h, k, m⟩
theorem wildO.here {t : Bool} {o : Oper} {X : Act → World → Prop} {a : Act} {w : World} (h : wildO T P ops Q t o X a w) : wildO T P ops Q t o X a w := h
theorem wildO.go {t : Bool} {o : Oper} {X : Act → World → Prop} {a : Act} {w : World} (hw : Region.wanted o (yielded ops a.tmps) = true)
 (h : ∀ K : Act → World → Prop, (∀ a' w', Keep T t w w' (X a' w') → K a' w') → o.wp P a w K Q) : wildO T P ops Q t o X a w := by
 unfold wildO
 rw [if_pos hw]
 exact h _ fun _ _ h => h
end
attribute [irreducible] WpO wildO
theorem hid {p : Prop} (h : p) : Hid p := h
structure El where
 epoch : Int
 rep : Int
 num : Int
 char : Int
 hides : Int
deriving DecidableEq
def El.cells (e : El) : List Value := [.int .i64 e.epoch, .int .i64 e.rep, .int .i64 e.num, .int .i32 e.char, .int .i64 e.hides]
def El.live (e : El) : Nat := if e.hides > 0 then 0 else 1
def El.lines (e : El) : Nat := if e.hides > 0 then 0 else if e.char = 10 then 1 else 0
def liveOf (l : List El) : Nat := (l.map El.live).sum
def linesOf (l : List El) : Nat := (l.map El.lines).sum
def cellsOf (l : List El) : List Value := l.flatMap El.cells
theorem El.live_le (e : El) : e.live ≤ 1 := by unfold El.live; split <;> omega
theorem El.lines_le (e : El) : e.lines ≤ e.live := by
 unfold El.live El.lines
 split
 · omega
 · split <;> omega
theorem liveOf_append (a b : List El) : liveOf (a ++ b) = liveOf a + liveOf b := by simp [liveOf]
theorem linesOf_append (a b : List El) : linesOf (a ++ b) = linesOf a + linesOf b := by simp [linesOf]
theorem liveOf_cons (e : El) (b : List El) : liveOf (e :: b) = e.live + liveOf b := by simp [liveOf]
theorem linesOf_cons (e : El) (b : List El) : linesOf (e :: b) = e.lines + linesOf b := by simp [linesOf]
theorem liveOf_le (l : List El) : liveOf l ≤ l.length := by
 induction l with
 | nil => simp [liveOf]
 | cons e l ih => have := e.live_le; rw [liveOf_cons, List.length_cons]; omega
theorem linesOf_le (l : List El) : linesOf l ≤ l.length := by
 induction l with
 | nil => simp [linesOf]
 | cons e l ih => have := e.lines_le; have := e.live_le; rw [linesOf_cons, List.length_cons]; omega
theorem cellsOf_cons (e : El) (l : List El) : cellsOf (e :: l) = e.cells ++ cellsOf l := by simp [cellsOf]
theorem cellsOf_append (a b : List El) : cellsOf (a ++ b) = cellsOf a ++ cellsOf b := by simp [cellsOf]
theorem El.cells_length (e : El) : e.cells.length = 5 := rfl
theorem cellsOf_length (l : List El) : (cellsOf l).length = l.length * 5 := by
 induction l with
 | nil => rfl
 | cons e l ih => rw [cellsOf_cons, List.length_append, ih, El.cells_length, List.length_cons]; omega
theorem cellsOf_take (l : List El) (k : Nat) : (cellsOf l).take (k * 5) = cellsOf (l.take k) := by
 induction l generalizing k with
 | nil => simp [cellsOf]
 | cons e l ih =>
  cases k with
  | zero => simp [cellsOf]
  | succ k =>
   rw [List.take_succ_cons, cellsOf_cons, cellsOf_cons, List.take_append, El.cells_length, List.take_of_length_le (by rw [El.cells_length]; omega)]
   rw [show (k + 1) * 5 - 5 = k * 5 from by omega, ih]
theorem cellsOf_drop (l : List El) (k : Nat) : (cellsOf l).drop (k * 5) = cellsOf (l.drop k) := by
 induction l generalizing k with
 | nil => simp [cellsOf]
 | cons e l ih =>
  cases k with
  | zero => simp
  | succ k =>
   rw [List.drop_succ_cons, cellsOf_cons, List.drop_append, El.cells_length, List.drop_of_length_le (by rw [El.cells_length]; omega)]
   rw [show (k + 1) * 5 - 5 = k * 5 from by omega, ih, List.nil_append]
theorem cellsOf_at {l : List El} {i : Nat} {e : El} (h : l[i]? = some e) {j : Nat} (hj : j < 5) : (cellsOf l)[i * 5 + j]? = e.cells[j]? := by
 have h1 : ((cellsOf l).drop (i * 5))[j]? = e.cells[j]? := by
  rw [cellsOf_drop]
  have hlt : i < l.length := (List.getElem?_eq_some_iff.1 h).1
  have he : l[i] = e := (List.getElem?_eq_some_iff.1 h).2
  rw [List.drop_eq_getElem_cons hlt, he, cellsOf_cons, List.getElem?_append_left (by rw [El.cells_length]; exact hj)]
 rw [← h1, List.getElem?_drop]
theorem cellsOf_oneCell (l : List El) : ∀ u ∈ cellsOf l, u.oneCell' = true := by
 intro u hu
 obtain ⟨e, _, hu⟩ := List.mem_flatMap.1 hu
 simp only [El.cells, List.mem_cons, List.not_mem_nil, or_false] at hu
 rcases hu with rfl | rfl | rfl | rfl | rfl <;> rfl
def Same (S : Nat → Prop) (w w' : World) : Prop := ∀ b, S b → b < w.heap.size → w'.heap[b]? = w.heap[b]?
theorem Same.refl (S : Nat → Prop) (w : World) : Same S w w := fun _ _ _ => rfl
theorem Same.of_below {S : Nat → Prop} {w w' : World} (h : Below w.heap.size w w') : Same S w w' := fun b _ hb => h.block b hb
theorem Same.alloc (S : Nat → Prop) (w : World) (o : Obj) : Same S w (w.alloc o) := fun b _ hb => Below.heap_alloc w o b hb
theorem Same.drew (S : Nat → Prop) (w : World) : Same S w w.drew := fun _ _ _ => rfl
theorem Same.setCell {S : Nat → Prop} (w : World) {p : Addr} (hp : ¬ S p.block) (u : Value) : Same S w (w.setCell p u) :=
 fun b hb _ => Below.heap_setCell w p u b (fun e => hp (e ▸ hb))
theorem Same.trans {S : Nat → Prop} {a b c : World} (h : Same S a b) (hs : a.heap.size ≤ b.heap.size) (k : Same S b c) : Same S a c :=
 fun x hx hl => (k x hx (Nat.lt_of_lt_of_le hl hs)).trans (h x hx hl)
theorem Same.sub {S S' : Nat → Prop} {a b : World} (h : Same S a b) (hs : ∀ x, S' x → S x) : Same S' a b := fun x hx hl => h x (hs x hx) hl
theorem lt_of_heap' {w : World} {b : Nat} {o : Obj} (h : w.heap[b]? = some o) : b < w.heap.size := (Array.getElem?_eq_some_iff.1 h).1
theorem lt_of_cell' {w : World} {a : Addr} {v : Value} (h : w.cell? a = some v) : a.block < w.heap.size := by
 unfold World.cell? at h
 cases hh : w.heap[a.block]? with
 | none => rw [hh] at h; cases h
 | some o => exact lt_of_heap' hh
theorem Same.cell {S : Nat → Prop} {w w' : World} (h : Same S w w') {a : Addr} (ha : S a.block) {v : Value} (hc : w.cell? a = some v) : w'.cell? a = some v :=
 (World.cell?_of_block (h a.block ha (lt_of_cell' hc))).trans hc
def Row (w : World) (S : Nat → Prop) (A : Option Addr) (n c : Nat) (es : List El) : Prop :=
 es.length = n ∧ n ≤ c ∧ c ≤ maxLen ∧ (0 < n → ∃ b off, A = some ⟨b, off, none⟩ ∧ S b ∧ ∀ j u, (cellsOf es)[j]? = some u → w.cell? ⟨b, off + j, none⟩ = some u)
section
variable {w w' : World} {S S' : Nat → Prop} {A : Option Addr} {n c : Nat} {es : List El}
theorem Row.keep (h : Row w S A n c es) (hk : Same S w w') : Row w' S A n c es := by
 refine ⟨h.1, h.2.1, h.2.2.1, fun hn => ?_⟩
 obtain ⟨b, off, e, hs, hc⟩ := h.2.2.2 hn
 exact ⟨b, off, e, hs, fun j u hu => hk.cell (a := ⟨b, off + j, none⟩) hs (hc j u hu)⟩
theorem Row.more (h : Row w S A n c es) (hs : ∀ b, b < w.heap.size → S b → S' b) : Row w S' A n c es := by
 refine ⟨h.1, h.2.1, h.2.2.1, fun hn => ?_⟩
 obtain ⟨b, off, e, hs', hc⟩ := h.2.2.2 hn
 refine ⟨b, off, e, hs b ?_ hs', hc⟩
 have hl : 0 < (cellsOf es).length := by rw [cellsOf_length, h.1]; omega
 exact lt_of_cell' (hc 0 _ (List.getElem?_eq_getElem hl))
theorem Row.nil (w : World) (S : Nat → Prop) (A : Option Addr) (c : Nat) (hc : c ≤ maxLen) : Row w S A 0 c [] := ⟨rfl, Nat.zero_le _, hc, fun h => absurd h (by omega)⟩
theorem Row.len_le (h : Row w S A n c es) : n ≤ maxLen := Nat.le_trans h.2.1 h.2.2.1
theorem Row.at_ (h : Row w S A n c es) {k : Nat} (hk : k < n) : ∃ b off e, A = some ⟨b, off, none⟩ ∧ S b ∧ es[k]? = some e ∧
 w.cell? ⟨b, off + k * 5, none⟩ = some (.int .i64 e.epoch) ∧ w.cell? ⟨b, off + k * 5 + 1, none⟩ = some (.int .i64 e.rep) ∧ w.cell? ⟨b, off + k * 5 + 2, none⟩ = some (.int .i64 e.num) ∧
 w.cell? ⟨b, off + k * 5 + 3, none⟩ = some (.int .i32 e.char) ∧ w.cell? ⟨b, off + k * 5 + 4, none⟩ = some (.int .i64 e.hides) := by
 obtain ⟨hl, hc, hm, hr⟩ := h
 obtain ⟨b, off, hA, hs, hcell⟩ := hr (by omega)
 have hk' : k < es.length := by omega
 have he : es[k]? = some es[k] := List.getElem?_eq_getElem hk'
 have cell : ∀ j u, es[k].cells[j]? = some u → j < 5 → w.cell? ⟨b, off + (k * 5 + j), none⟩ = some u := fun j u hu hj => hcell _ _ (by rw [cellsOf_at he hj]; exact hu)
 refine ⟨b, off, es[k], hA, hs, he, ?_, ?_, ?_, ?_, ?_⟩
 · exact cell 0 _ rfl (by omega)
 · exact cell 1 _ rfl (by omega)
 · exact cell 2 _ rfl (by omega)
 · exact cell 3 _ rfl (by omega)
 · exact cell 4 _ rfl (by omega)
theorem Row.take_ (h : Row w S A n c es) {k : Nat} (hk : k ≤ n) : Row w S A k c (es.take k) := by
 refine ⟨by rw [List.length_take, h.1]; omega, by have := h.2.1; omega, h.2.2.1, fun h0 => ?_⟩
 obtain ⟨b, off, e, hs, hc⟩ := h.2.2.2 (by omega)
 refine ⟨b, off, e, hs, fun j u hu => hc j u ?_⟩
 rw [← cellsOf_take, List.getElem?_take] at hu
 split at hu
 · exact hu
 · cases hu
theorem Row.drop_ (h : Row w S A n c es) {k : Nat} (hk : k ≤ n) : Row w S (if c = k then A else A.map (·.add (k * 5))) (n - k) (c - k) (es.drop k) := by
 refine ⟨by rw [List.length_drop, h.1], by have := h.2.1; omega, by have := h.2.2.1; omega, fun h0 => ?_⟩
 obtain ⟨b, off, rfl, hs, hc⟩ := h.2.2.2 (by omega)
 have hck : ¬ c = k := by have := h.2.1; omega
 rw [if_neg hck]
 refine ⟨b, off + k * 5, ?_, hs, fun j u hu => ?_⟩
 · simp [Addr.add]
 · rw [Nat.add_assoc]
   refine hc _ u ?_
   rw [← hu, ← cellsOf_drop, List.getElem?_drop]
end
inductive Tr where
 | nil
 | node (l : Tr) (row : List El) (r : Tr)
def Tr.rows : Tr → List (List El)
 | .nil => []
 | .node l row r => l.rows ++ row :: r.rows
def Tr.all : Tr → List El
 | .nil => []
 | .node l row r => l.all ++ row ++ r.all
def Tr.high : Tr → Nat
 | .nil => 0
 | .node l _ r => max l.high r.high + 1
theorem Tr.all_eq (t : Tr) : t.all = t.rows.flatten := by
 induction t with
 | nil => rfl
 | node l row r ihl ihr => simp [Tr.all, Tr.rows, ihl, ihr]
def IsTree (w : World) (S : Nat → Prop) : Tr → Option Addr → Prop
 | .nil, p => p = none
 | .node l row r, p => row ≠ [] ∧ ∃ b A n c pl pr, p = some ⟨b, 0, none⟩ ∧ S b ∧ Row w S A n c row ∧ IsTree w S l pl ∧ IsTree w S r pr ∧
  w.cell? ⟨b, 0, none⟩ = some (.slice A n c) ∧ w.cell? ⟨b, 1, none⟩ = some (.pointer pl) ∧ w.cell? ⟨b, 2, none⟩ = some (.pointer pr) ∧
  w.cell? ⟨b, 3, none⟩ = some (.int .i64 (Tr.node l row r).all.length) ∧ w.cell? ⟨b, 4, none⟩ = some (.int .i64 (Tr.node l row r).high) ∧
  w.cell? ⟨b, 5, none⟩ = some (.int .i64 (liveOf (Tr.node l row r).all)) ∧ w.cell? ⟨b, 6, none⟩ = some (.int .i64 (linesOf (Tr.node l row r).all))
theorem IsTree.keep {w w' : World} {S : Nat → Prop} (hk : Same S w w') : ∀ {t : Tr} {p : Option Addr}, IsTree w S t p → IsTree w' S t p := by
 intro t
 induction t with
 | nil => intro p h; exact h
 | node l row r ihl ihr =>
  rintro p ⟨hne, b, A, n, c, pl, pr, rfl, hs, hr, hl, hr', c0, c1, c2, c3, c4, c5, c6⟩
  exact ⟨hne, b, A, n, c, pl, pr, rfl, hs, hr.keep hk, ihl hl, ihr hr', hk.cell hs c0, hk.cell hs c1, hk.cell hs c2, hk.cell hs c3, hk.cell hs c4, hk.cell hs c5, hk.cell hs c6⟩
theorem IsTree.more {w : World} {S S' : Nat → Prop} (hs : ∀ b, b < w.heap.size → S b → S' b) : ∀ {t : Tr} {p : Option Addr}, IsTree w S t p → IsTree w S' t p := by
 intro t
 induction t with
 | nil => intro p h; exact h
 | node l row r ihl ihr =>
  rintro p ⟨hne, b, A, n, c, pl, pr, rfl, hsb, hr, hl, hr', c0, c1, c2, c3, c4, c5, c6⟩
  exact ⟨hne, b, A, n, c, pl, pr, rfl, hs b (lt_of_cell' c0) hsb, hr.more hs, ihl hl, ihr hr', c0, c1, c2, c3, c4, c5, c6⟩
theorem IsTree.high_le {w : World} {S : Nat → Prop} {t : Tr} {p : Option Addr} (h : IsTree w S t p) : t.high ≤ t.all.length := by
 induction t generalizing p with
 | nil => exact Nat.le_refl _
 | node l row r ihl ihr =>
  obtain ⟨hne, b, A, n, c, pl, pr, _, _, _, hl, hr', _⟩ := h
  have h1 := ihl hl
  have h2 := ihr hr'
  have : 0 < row.length := List.length_pos_iff.2 hne
  simp only [Tr.high, Tr.all, List.length_append]
  omega
def Fr (w : World) (S : Nat → Prop) : Nat → Prop := fun b => S b ∨ w.heap.size ≤ b
theorem IsTree.step {w w' : World} {S : Nat → Prop} {t : Tr} {p : Option Addr} (h : IsTree w S t p) (hb : Below w.heap.size w w') : IsTree w' S t p := h.keep (Same.of_below hb)
theorem Row.step {w w' : World} {S : Nat → Prop} {A : Option Addr} {n c : Nat} {es : List El} (h : Row w S A n c es) (hb : Below w.heap.size w w') : Row w' S A n c es := h.keep (Same.of_below hb)
theorem bcell {W w1 : World} (hb : Below W.heap.size W w1) : (∀ b o, b < W.heap.size → w1.cell? ⟨b, o, none⟩ = W.cell? ⟨b, o, none⟩) ∧ (∀ b o, b < W.heap.size → w1.frozen? ⟨b, o, none⟩ = W.frozen? ⟨b, o, none⟩) :=
 ⟨fun b o h => hb.cell (p := ⟨b, o, none⟩) h, fun b o h => hb.frozen (p := ⟨b, o, none⟩) h⟩
def Blk (w : World) (g : Nat) (t : TypeId) (cs : Array Value) : Prop := w.heap[g]? = some (.cells cs t (0, 0))
section
variable {w w' : World} {g : Nat} {t : TypeId} {cs : Array Value}
theorem Blk.lt (h : Blk w g t cs) : g < w.heap.size := lt_of_heap' h
theorem Blk.cell (h : Blk w g t cs) (i : Nat) : w.cell? ⟨g, i, none⟩ = cs[i]? := by unfold Blk at h; simp [World.cell?, h]
theorem Blk.frozen (h : Blk w g t cs) (i : Nat) : w.frozen? ⟨g, i, none⟩ = false := by unfold Blk at h; simp [World.frozen?, h]
theorem Blk.new (w : World) (t : TypeId) (cs : Array Value) : Blk (w.alloc (.cells cs t)) w.heap.size t cs := by
 show (w.heap.push _)[w.heap.size]? = _
 simp
theorem Blk.keep {S : Nat → Prop} (h : Blk w g t cs) (hs : S g) (hk : Same S w w') : Blk w' g t cs := (hk g hs h.lt).trans h
theorem Blk.drew (h : Blk w g t cs) : Blk w.drew g t cs := h
theorem Blk.alloc (h : Blk w g t cs) (o : Obj) : Blk (w.alloc o) g t cs := (Below.heap_alloc w o g h.lt).trans h
theorem Blk.set_ (h : Blk w g t cs) (i : Nat) (u : Value) : Blk (w.setCell ⟨g, i, none⟩ u) g t (cs.setIfInBounds i u) := by
 unfold Blk at h ⊢
 simp [World.setCell, Array.getElem?_modify, h]
theorem Blk.far (h : Blk w g t cs) {p : Addr} (hp : g ≠ p.block) (u : Value) : Blk (w.setCell p u) g t cs := (Below.heap_setCell w p u g hp).trans h
theorem Blk.below {B : Nat} (h : Blk w g t cs) (hb : Below B w w') (hg : g < B) : Blk w' g t cs := (hb.block g hg).trans h
theorem Blk.step (h : Blk w g t cs) (hb : Below w.heap.size w w') : Blk w' g t cs := h.below hb h.lt
theorem Blk.ne {g' : Nat} {t' : TypeId} {cs' : Array Value} (h : Blk w g t cs) (h' : Blk w g' t' cs') (hne : t ≠ t') : g ≠ g' := by
 rintro rfl
 unfold Blk at h h'
 rw [h] at h'
 injection h' with h'
 injection h' with _ ht
 exact hne ht
theorem Blk.two {x y : Value} (h : Blk w g t #[x, y]) : w.cell? ⟨g, 0, none⟩ = some x ∧ w.cell? ⟨g, 1, none⟩ = some y ∧ w.frozen? ⟨g, 0, none⟩ = false ∧ w.frozen? ⟨g, 1, none⟩ = false :=
 ⟨h.cell 0, h.cell 1, h.frozen 0, h.frozen 1⟩
theorem Blk.set2 {x y x' y' : Value} (h : Blk w g t #[x, y]) : Blk ((w.setCell ⟨g, 0, none⟩ x').setCell ⟨g, 1, none⟩ y') g t #[x', y'] := (h.set_ 0 x').set_ 1 y'
end
theorem Fr.shrink {w w1 : World} {S : Nat → Prop} (hb : w.heap.size ≤ w1.heap.size) (b : Nat) (h : Fr w1 (Fr w S) b) : Fr w S b := by
 rcases h with h | h
 · exact h
 · exact .inr (by omega)
def TreeRet (w : World) (S : Nat → Prop) (Q : Tr → Prop) (e : Ending) (w' : World) : Prop :=
 ∃ p t, e = .returned (.pointer p) ∧ IsTree w' (Fr w S) t p ∧ Q t ∧ Below w.heap.size w w'
def Tr.joined (l : Tr) (row : List El) (r t : Tr) : Prop := t.rows = l.rows ++ row :: r.rows
theorem Tr.joined.all {l : Tr} {row : List El} {r t : Tr} (h : Tr.joined l row r t) : t.all = l.all ++ row ++ r.all := by
 rw [Tr.all_eq, h, Tr.all_eq, Tr.all_eq]
 simp
theorem undrew {w w1 : World} (h : Below w.drew.heap.size w.drew w1) : Below w.heap.size w w1 := ⟨h.os, h.tape, h.output, h.size, h.block⟩
theorem IsTree.drew {w : World} {S : Nat → Prop} {t : Tr} {p : Option Addr} (h : IsTree w S t p) : IsTree w.drew S t p := h.keep (Same.drew _ _)
theorem Row.drew {w : World} {S : Nat → Prop} {A : Option Addr} {n c : Nat} {es : List El} (h : Row w S A n c es) : Row w.drew S A n c es := h.keep (Same.drew _ _)
theorem IsTree.fr {w w' : World} {S : Nat → Prop} {t : Tr} {p : Option Addr} (h : IsTree w' S t p) : IsTree w' (Fr w S) t p := h.more fun _ _ h => .inl h
theorem Row.fr {w w' : World} {S : Nat → Prop} {A : Option Addr} {n c : Nat} {es : List El} (h : Row w' S A n c es) : Row w' (Fr w S) A n c es := h.more fun _ _ h => .inl h
theorem TreeRet.of {w : World} {S : Nat → Prop} {Q : Tr → Prop} {p : Option Addr} {t : Tr} {w' : World} (ht : IsTree w' (Fr w S) t p) (hq : Q t) (hb : Below w.heap.size w w') : TreeRet w S Q (.returned (.pointer p)) w' :=
 ⟨p, t, rfl, ht, hq, hb⟩
theorem undrew2 {w w1 : World} (h : Below w.drew.drew.heap.size w.drew.drew w1) : Below w.heap.size w w1 := undrew (undrew h)
section
variable {w : World} {g : Nat} {t : TypeId}
theorem cl4 {v0 v1 v2 v3 : Value} (h : Blk w g t #[v0, v1, v2, v3]) : w.cell? ⟨g, 0, none⟩ = some v0 ∧ w.cell? ⟨g, 1, none⟩ = some v1 ∧ w.cell? ⟨g, 2, none⟩ = some v2 ∧ w.cell? ⟨g, 3, none⟩ = some v3 := ⟨h.cell 0, h.cell 1, h.cell 2, h.cell 3⟩
theorem cl7 {v0 v1 v2 v3 v4 v5 v6 : Value} (h : Blk w g t #[v0, v1, v2, v3, v4, v5, v6]) : w.cell? ⟨g, 0, none⟩ = some v0 ∧ w.cell? ⟨g, 1, none⟩ = some v1 ∧ w.cell? ⟨g, 2, none⟩ = some v2 ∧ w.cell? ⟨g, 3, none⟩ = some v3 ∧ w.cell? ⟨g, 4, none⟩ = some v4 ∧ w.cell? ⟨g, 5, none⟩ = some v5 ∧ w.cell? ⟨g, 6, none⟩ = some v6 := ⟨h.cell 0, h.cell 1, h.cell 2, h.cell 3, h.cell 4, h.cell 5, h.cell 6⟩
theorem cl8 {v0 v1 v2 v3 v4 v5 v6 v7 : Value} (h : Blk w g t #[v0, v1, v2, v3, v4, v5, v6, v7]) : w.cell? ⟨g, 0, none⟩ = some v0 ∧ w.cell? ⟨g, 1, none⟩ = some v1 ∧ w.cell? ⟨g, 2, none⟩ = some v2 ∧ w.cell? ⟨g, 3, none⟩ = some v3 ∧ w.cell? ⟨g, 4, none⟩ = some v4 ∧ w.cell? ⟨g, 5, none⟩ = some v5 ∧ w.cell? ⟨g, 6, none⟩ = some v6 ∧ w.cell? ⟨g, 7, none⟩ = some v7 := ⟨h.cell 0, h.cell 1, h.cell 2, h.cell 3, h.cell 4, h.cell 5, h.cell 6, h.cell 7⟩
theorem cl13 {v0 v1 v2 v3 v4 v5 v6 v7 v8 v9 v10 v11 v12 : Value} (h : Blk w g t #[v0, v1, v2, v3, v4, v5, v6, v7, v8, v9, v10, v11, v12]) : w.cell? ⟨g, 0, none⟩ = some v0 ∧ w.cell? ⟨g, 1, none⟩ = some v1 ∧ w.cell? ⟨g, 2, none⟩ = some v2 ∧ w.cell? ⟨g, 3, none⟩ = some v3 ∧ w.cell? ⟨g, 4, none⟩ = some v4 ∧ w.cell? ⟨g, 5, none⟩ = some v5 ∧ w.cell? ⟨g, 6, none⟩ = some v6 ∧ w.cell? ⟨g, 7, none⟩ = some v7 ∧ w.cell? ⟨g, 8, none⟩ = some v8 ∧ w.cell? ⟨g, 9, none⟩ = some v9 ∧ w.cell? ⟨g, 10, none⟩ = some v10 ∧ w.cell? ⟨g, 11, none⟩ = some v11 ∧ w.cell? ⟨g, 12, none⟩ = some v12 := ⟨h.cell 0, h.cell 1, h.cell 2, h.cell 3, h.cell 4, h.cell 5, h.cell 6, h.cell 7, h.cell 8, h.cell 9, h.cell 10, h.cell 11, h.cell 12⟩
theorem bl1 {v0 : Value} (h : Blk w g t #[v0]) : g < w.heap.size ∧ w.cell? ⟨g, 0, none⟩ = some v0 ∧ w.frozen? ⟨g, 0, none⟩ = false := ⟨h.lt, h.cell 0, h.frozen 0⟩
theorem bl3 {v0 v1 v2 : Value} (h : Blk w g t #[v0, v1, v2]) : g < w.heap.size ∧ w.cell? ⟨g, 0, none⟩ = some v0 ∧ w.cell? ⟨g, 1, none⟩ = some v1 ∧ w.cell? ⟨g, 2, none⟩ = some v2 ∧ w.frozen? ⟨g, 0, none⟩ = false ∧ w.frozen? ⟨g, 1, none⟩ = false ∧ w.frozen? ⟨g, 2, none⟩ = false := ⟨h.lt, h.cell 0, h.cell 1, h.cell 2, h.frozen 0, h.frozen 1, h.frozen 2⟩
theorem bl4 {v0 v1 v2 v3 : Value} (h : Blk w g t #[v0, v1, v2, v3]) : g < w.heap.size ∧ w.cell? ⟨g, 0, none⟩ = some v0 ∧ w.cell? ⟨g, 1, none⟩ = some v1 ∧ w.cell? ⟨g, 2, none⟩ = some v2 ∧ w.cell? ⟨g, 3, none⟩ = some v3 ∧ w.frozen? ⟨g, 0, none⟩ = false ∧ w.frozen? ⟨g, 1, none⟩ = false ∧ w.frozen? ⟨g, 2, none⟩ = false ∧ w.frozen? ⟨g, 3, none⟩ = false := ⟨h.lt, h.cell 0, h.cell 1, h.cell 2, h.cell 3, h.frozen 0, h.frozen 1, h.frozen 2, h.frozen 3⟩
theorem bl13 {v0 v1 v2 v3 v4 v5 v6 v7 v8 v9 v10 v11 v12 : Value} (h : Blk w g t #[v0, v1, v2, v3, v4, v5, v6, v7, v8, v9, v10, v11, v12]) : g < w.heap.size ∧ w.cell? ⟨g, 0, none⟩ = some v0 ∧ w.cell? ⟨g, 1, none⟩ = some v1 ∧ w.cell? ⟨g, 2, none⟩ = some v2 ∧ w.cell? ⟨g, 3, none⟩ = some v3 ∧ w.cell? ⟨g, 4, none⟩ = some v4 ∧ w.cell? ⟨g, 5, none⟩ = some v5 ∧ w.cell? ⟨g, 6, none⟩ = some v6 ∧ w.cell? ⟨g, 7, none⟩ = some v7 ∧ w.cell? ⟨g, 8, none⟩ = some v8 ∧ w.cell? ⟨g, 9, none⟩ = some v9 ∧ w.cell? ⟨g, 10, none⟩ = some v10 ∧ w.cell? ⟨g, 11, none⟩ = some v11 ∧ w.cell? ⟨g, 12, none⟩ = some v12 ∧ w.frozen? ⟨g, 0, none⟩ = false ∧ w.frozen? ⟨g, 1, none⟩ = false ∧ w.frozen? ⟨g, 2, none⟩ = false ∧ w.frozen? ⟨g, 3, none⟩ = false ∧ w.frozen? ⟨g, 4, none⟩ = false ∧ w.frozen? ⟨g, 5, none⟩ = false ∧ w.frozen? ⟨g, 6, none⟩ = false ∧ w.frozen? ⟨g, 7, none⟩ = false ∧ w.frozen? ⟨g, 8, none⟩ = false ∧ w.frozen? ⟨g, 9, none⟩ = false ∧ w.frozen? ⟨g, 10, none⟩ = false ∧ w.frozen? ⟨g, 11, none⟩ = false ∧ w.frozen? ⟨g, 12, none⟩ = false := ⟨h.lt, h.cell 0, h.cell 1, h.cell 2, h.cell 3, h.cell 4, h.cell 5, h.cell 6, h.cell 7, h.cell 8, h.cell 9, h.cell 10, h.cell 11, h.cell 12, h.frozen 0, h.frozen 1, h.frozen 2, h.frozen 3, h.frozen 4, h.frozen 5, h.frozen 6, h.frozen 7, h.frozen 8, h.frozen 9, h.frozen 10, h.frozen 11, h.frozen 12⟩
abbrev rgl : List Nat → List (Nat × Bool × Bool)
  | [] => []
  | n :: l => (match n % 4 with | 0 => (n / 4, true, false) | 1 => (n / 4, false, false) | 2 => (n / 4, true, true) | _ => (n / 4, false, true)) :: rgl l
abbrev rgo : List Nat → Ord Nat → Ord Nat
  | [], r => r
  | n :: l, r => match n % 4 with | 0 => .one (n / 4) true false (rgo l r) | 1 => .one (n / 4) false false (rgo l r) | 2 => .one (n / 4) true true (rgo l r) | _ => .one (n / 4) false true (rgo l r)
end
theorem plus_any (a b c d : Int) (w : World) :
 Calls Tryz.prog 164 #[.agg #[.int .i64 a, .int .i64 b], .agg #[.int .i64 c, .int .i64 d]] w fun e w' => e = .returned (.agg #[.int .i64 (wrap64 (a + c)), .int .i64 (wrap64 (b + d))]) ∧ Below w.heap.size w w' := by
 go_enter Tryz.func164, Tryz.ntmps164
 go_wp2
 exact bodyPost_ret (v := .agg #[.int .i64 (wrap64 (a + c)), .int .i64 (wrap64 (b + d))]) (by simp [results, Tryz.results164, go_sem]) rfl ⟨rfl, (((Below.refl _ _).alloc (Nat.le_refl _) _).alloc (by simp) _).alloc (by simp; omega) _⟩
theorem plus_in (a b c d : Int) (w : World) (h1 : 0 ≤ a) (h2 : 0 ≤ b) (h3 : 0 ≤ c) (h4 : 0 ≤ d) (h5 : a + c ≤ 4611686018427387904) (h6 : b + d ≤ 4611686018427387904) :
 Calls Tryz.prog 164 #[.agg #[.int .i64 a, .int .i64 b], .agg #[.int .i64 c, .int .i64 d]] w fun e w' => e = .returned (.agg #[.int .i64 (a + c), .int .i64 (b + d)]) ∧ Below w.heap.size w w' := by
 have h := plus_any a b c d w
 rw [IntWalk.wrap64_in _ ⟨by omega, by omega⟩, IntWalk.wrap64_in _ ⟨by omega, by omega⟩] at h
 exact h
theorem weight_any (e : El) (w : World) :
 Calls Tryz.prog 82 #[.agg #[.int .i64 e.epoch, .int .i64 e.rep, .int .i64 e.num, .int .i32 e.char, .int .i64 e.hides]] w fun en w' => en = .returned (.agg #[.int .i64 e.live, .int .i64 e.lines]) ∧ Below w.heap.size w w' := by
 go_enter Tryz.func82, Tryz.ntmps82
 go_wp2
 · have h : 0 < e.hides := by assumption
   exact bodyPost_ret (v := .agg #[.int .i64 0, .int .i64 0]) (by simp [results, Tryz.results82, go_sem]) rfl ⟨by simp [El.live, El.lines, h], (((Below.refl _ _).alloc (Nat.le_refl _) _).alloc (by simp) _)⟩
 · have h : e.hides ≤ 0 := by assumption
   have hc : (e.char == 10) = true := by assumption
   have hc' : e.char = 10 := by simpa using hc
   have h' : ¬ 0 < e.hides := by omega
   exact bodyPost_ret (v := .agg #[.int .i64 1, .int .i64 1]) (by simp [results, Tryz.results82, go_sem]) rfl ⟨by simp [El.live, El.lines, h', hc'], (((Below.refl _ _).alloc (Nat.le_refl _) _).alloc (by simp) _)⟩
 · have h : e.hides ≤ 0 := by assumption
   have hc : (e.char == 10) = false := by assumption
   have hc' : ¬ e.char = 10 := by simpa using hc
   have h' : ¬ 0 < e.hides := by omega
   exact bodyPost_ret (v := .agg #[.int .i64 1, .int .i64 0]) (by simp [results, Tryz.results82, go_sem]) rfl ⟨by simp [El.live, El.lines, h', hc'], (((Below.refl _ _).alloc (Nat.le_refl _) _).alloc (by simp) _)⟩
theorem size_any (t : Tr) (p : Option Addr) (S : Nat → Prop) (w : World) (h : IsTree w S t p) :
 Calls Tryz.prog 117 #[.pointer p] w fun e w' => e = .returned (.int .i64 t.all.length) ∧ w = w' := by
 cases t with
 | nil =>
  obtain rfl := h
  go_enter Tryz.func117, Tryz.ntmps117
  go_wp2
  go_ret
  exact ⟨rfl, rfl⟩
 | node l row r =>
  obtain ⟨hne, b, A, n, c, pl, pr, rfl, hs, hr, hl, hr', c0, c1, c2, c3, c4, c5, c6⟩ := h
  clear hr hl hr' c0 c1 c2 c4 c5 c6
  go_enter Tryz.func117, Tryz.ntmps117
  go_wp2
  go_ret
  exact ⟨rfl, rfl⟩
theorem high_any (t : Tr) (p : Option Addr) (S : Nat → Prop) (w : World) (h : IsTree w S t p) :
 Calls Tryz.prog 161 #[.pointer p] w fun e w' => e = .returned (.int .i64 t.high) ∧ w = w' := by
 cases t with
 | nil =>
  obtain rfl := h
  go_enter Tryz.func161, Tryz.ntmps161
  go_wp2
  go_ret
  exact ⟨rfl, rfl⟩
 | node l row r =>
  obtain ⟨hne, b, A, n, c, pl, pr, rfl, hs, hr, hl, hr', c0, c1, c2, c3, c4, c5, c6⟩ := h
  clear hr hl hr' c0 c1 c2 c3 c5 c6
  go_enter Tryz.func161, Tryz.ntmps161
  go_wp2
  go_ret
  exact ⟨rfl, rfl⟩
theorem weighs_any (t : Tr) (p : Option Addr) (S : Nat → Prop) (w : World) (h : IsTree w S t p) :
 Calls Tryz.prog 122 #[.pointer p] w fun e w' => e = .returned (.agg #[.int .i64 (liveOf t.all), .int .i64 (linesOf t.all)]) ∧ Below w.heap.size w w' := by
 cases t with
 | nil =>
  obtain rfl := h
  go_enter Tryz.func122, Tryz.ntmps122
  go_wp2
  exact bodyPost_ret (v := .agg #[.int .i64 0, .int .i64 0]) (by simp [results, Tryz.results122, go_sem]) rfl ⟨rfl, ((Below.refl _ _).alloc (Nat.le_refl _) _)⟩
 | node l row r =>
  obtain ⟨hne, b, A, n, c, pl, pr, rfl, hs, hr, hl, hr', c0, c1, c2, c3, c4, c5, c6⟩ := h
  clear hr hl hr' c0 c1 c2 c3 c4
  have hb := lt_of_cell' c5
  go_enter Tryz.func122, Tryz.ntmps122
  go_wp2
  exact bodyPost_ret (v := .agg #[.int .i64 (liveOf (Tr.node l row r).all), .int .i64 (linesOf (Tr.node l row r).all)]) (by simp [results, Tryz.results122, go_sem]) rfl ⟨rfl, ((Below.refl _ _).alloc (Nat.le_refl _) _)⟩
theorem method_weight (v : Array Value) (w : World) : (method 344 113 (.agg v) "Weight").run Tryz.prog w = .ok (82, .agg v) w := by kernel_rfl
theorem take_snoc_el {es : List El} {k : Nat} {e : El} (h : es[k]? = some e) : es.take (k + 1) = es.take k ++ [e] := by
 obtain ⟨hk, rfl⟩ := List.getElem?_eq_some_iff.1 h
 rw [List.take_succ_eq_append_getElem hk]
theorem liveOf_snoc {es : List El} {k : Nat} {e : El} (h : es[k]? = some e) : liveOf (es.take (k + 1)) = liveOf (es.take k) + e.live := by
 rw [take_snoc_el h, liveOf_append]; simp [liveOf]
theorem linesOf_snoc {es : List El} {k : Nat} {e : El} (h : es[k]? = some e) : linesOf (es.take (k + 1)) = linesOf (es.take k) + e.lines := by
 rw [take_snoc_el h, linesOf_append]; simp [linesOf]
theorem weigh_any (A : Option Addr) (n c : Nat) (es : List El) (S : Nat → Prop) (w : World) (h : Row w S A n c es) (hn : n ≤ 1099511627776) :
 Calls Tryz.prog 165 #[.slice A n c] w fun e w' => e = .returned (.agg #[.int .i64 (liveOf es), .int .i64 (linesOf es)]) ∧ Below w.heap.size w w' := by
 have methW := method_weight
 have Hr := hid h
 clear h
 go_enter Tryz.func165, Tryz.ntmps165
 go_wp2
 go_loopw [7] (fun i wr => ∃ k : Nat, i = .int .i64 k ∧ k ≤ n ∧ Blk wr w.heap.size 146 #[.int .i64 (liveOf (es.take k)), .int .i64 (linesOf (es.take k))] ∧ Below w.heap.size w wr) (fun i wr => n - (intOf i).toNat)
 case atStart => exact ⟨0, rfl, by omega, Blk.new _ _ _, (Below.refl _ _).alloc (Nat.le_refl _) _⟩
 case round =>
  obtain ⟨k, rfl, hk, hblk, hbel⟩ := hrel
  have hl1 := liveOf_le (es.take k)
  have hl2 := linesOf_le (es.take k)
  have hl3 : (es.take k).length ≤ k := List.length_take_le _ _
  have hsz := hblk.lt
  obtain ⟨hz0, hz1, hf0, hf1⟩ := hblk.two
  have HB := hid hblk
  clear hblk
  by_cases hlt : k < n
  · obtain ⟨b, off, e, rfl, hS, he, c0, c1, c2, c3, c4⟩ := (Hr.out.step hbel).at_ hlt
    have hls := liveOf_snoc he
    have hns := linesOf_snoc he
    have hel := e.live_le
    have hen := e.lines_le
    have HH := hid (And.intro hls (And.intro hns he))
    clear hls hns he
    go_wp2_with fail
    clear c0 c1 c2 c3 c4
    refine wp_region_order (rgl [0,4,8,13,17,23]) (by kernel_rfl) (by kernel_rfl) (by kernel_rfl) rfl rfl ?_
    repeat' (first | (go_at_call 82; refine (weight_any e _).mono ?_; rintro _ w1 ⟨rfl, hb1⟩; obtain ⟨hc1, hg1⟩ := bcell hb1; have hs1 := hb1.size; simp only [World.size_drew, World.size_alloc] at hs1; have hq1 : w.heap.size < w1.heap.size := (by omega); dsimp only) | (go_at_call 164; refine (plus_in _ _ _ _ _ (by omega) (by omega) (by omega) (by omega) (by omega) (by omega)).mono ?_; rintro _ w2 ⟨rfl, hb2⟩; obtain ⟨hc2, hg2⟩ := bcell hb2; have hs2 := hb2.size; dsimp only) | (with_reducible first | refine Keep.last ?_ | refine Keep.below (by assumption) ?_) | ((with_reducible refine WpH.here ?_); first | (refine WpH.nil ?_; refine NoP.normal ?_) | ((first | refine WpH.load (by rfl) (by rfl) (by go_simp; rfl) ?_ | refine WpH.pure (by rfl) (fun w_ => by go_simp; (try go_bits); rfl) ?_); go_frame) | (refine WpH.wild1 (by rfl) (fun _ _ => ?_))) | go_step)
    go_roundw
    case rel =>
     obtain ⟨h1, h2, _⟩ := HH.out
     refine ⟨k + 1, by go_num, by omega, ?_, ?_⟩
     · rw [h1, h2]
       simpa using (((HB.out.alloc _).drew.step hb1).step hb2).set2
     · exact (((hbel.alloc (by omega) _).drew.trans ((hb1.mono (by simp; omega)).trans (hb2.mono (by omega)))).setCell (Nat.le_refl _) _).setCell (Nat.le_refl _) _
    case measure => simp [intOf]; omega
  · obtain rfl : k = n := by omega
    have hl : es.take k = es := List.take_of_length_le (by rw [Hr.out.1]; omega)
    rw [hl] at HB hz0 hz1
    clear hl
    go_wp2
    exact bodyPost_ret (v := .agg #[.int .i64 (liveOf es), .int .i64 (linesOf es)]) (by simp [results, Tryz.results165, go_sem, hz0, hz1]) rfl ⟨rfl, (hbel.setCell (Nat.le_refl _) _).setCell (Nat.le_refl _) _⟩
theorem made_any (l r : Tr) (pl pr : Option Addr) (A : Option Addr) (n c : Nat) (row : List El) (S : Nat → Prop) (w : World) (hl : IsTree w S l pl) (hr : IsTree w S r pr) (hrow : Row w S A n c row) (hne : row ≠ [])
 (hbd : l.all.length + row.length + r.all.length ≤ 1099511627776) :
 Calls Tryz.prog 163 #[.pointer pl, .slice A n c, .pointer pr] w (TreeRet w S (· = .node l row r)) := by
 have hn : n = row.length := hrow.1.symm
 subst hn
 have h1 := liveOf_le l.all
 have h2 := liveOf_le r.all
 have h3 := liveOf_le row
 have h4 := linesOf_le l.all
 have h5 := linesOf_le r.all
 have h6 := linesOf_le row
 have h7 := hl.high_le
 have h8 := hr.high_le
 have hl0 := hid hl
 have hr0 := hid hr
 have hrow0 := hid hrow
 go_enter Tryz.func163, Tryz.ntmps163
 have hB : Below w.heap.size w w := Below.refl _ _
 repeat' (first | (go_at_call 117; first | ((with_reducible refine (size_any l pl S _ hl).mono ?_); rintro _ _ ⟨rfl, rfl⟩; dsimp only) | ((with_reducible refine (size_any r pr S _ hr).mono ?_); rintro _ _ ⟨rfl, rfl⟩; dsimp only)) | (go_at_call 161; first | ((with_reducible refine (high_any l pl S _ hl).mono ?_); rintro _ _ ⟨rfl, rfl⟩; dsimp only) | ((with_reducible refine (high_any r pr S _ hr).mono ?_); rintro _ _ ⟨rfl, rfl⟩; dsimp only)) | (go_at_call 122; first | ((with_reducible refine (weighs_any l pl S _ hl).mono ?_); rintro _ wk ⟨rfl, hbk⟩; replace hl := hl.step hbk; replace hr := hr.step hbk; replace hrow := hrow.step hbk; replace hB := hB.trans (hbk.mono hB.size); dsimp only) | ((with_reducible refine (weighs_any r pr S _ hr).mono ?_); rintro _ wk ⟨rfl, hbk⟩; replace hl := hl.step hbk; replace hr := hr.step hbk; replace hrow := hrow.step hbk; replace hB := hB.trans (hbk.mono hB.size); dsimp only)) | (go_at_call 165; ((with_reducible refine (weigh_any A _ c row S _ hrow (by omega)).mono ?_); rintro _ wk ⟨rfl, hbk⟩; replace hl := hl.step hbk; replace hr := hr.step hbk; replace hrow := hrow.step hbk; replace hB := hB.trans (hbk.mono hB.size); dsimp only)) | (go_at_call 164; ((with_reducible refine (plus_in _ _ _ _ _ (by omega) (by omega) (by omega) (by omega) (by omega) (by omega)).mono ?_); rintro _ wk ⟨rfl, hbk⟩; replace hl := hl.step hbk; replace hr := hr.step hbk; replace hrow := hrow.step hbk; replace hB := hB.trans (hbk.mono hB.size); dsimp only)) | go_step)
 go_ret
 have hmax : (if l.high < r.high then (r.high : Int) else l.high) + 1 = ((Tr.node l row r).high : Int) := by
  simp only [Tr.high]
  split <;> omega
 have hlen : (l.all.length : Int) + row.length + r.all.length = ((Tr.node l row r).all.length : Int) := by simp [Tr.all]; omega
 have hliv : (liveOf l.all : Int) + liveOf row + liveOf r.all = (liveOf (Tr.node l row r).all : Int) := by simp [Tr.all, liveOf_append]; omega
 have hlin : (linesOf l.all : Int) + linesOf row + linesOf r.all = (linesOf (Tr.node l row r).all : Int) := by simp [Tr.all, linesOf_append]; omega
 rw [hmax, hlen, hliv, hlin]
 have hsz := hB.size
 have hblk := Blk.new wk 191 #[.slice A row.length c, .pointer pl, .pointer pr, .int .i64 (Tr.node l row r).all.length, .int .i64 (Tr.node l row r).high, .int .i64 (liveOf (Tr.node l row r).all), .int .i64 (linesOf (Tr.node l row r).all)]
 refine ⟨_, .node l row r, rfl, ⟨hne, wk.heap.size, A, row.length, c, pl, pr, rfl, .inr hsz, ?_, ?_, ?_, hblk.cell 0, hblk.cell 1, hblk.cell 2, hblk.cell 3, hblk.cell 4, hblk.cell 5, hblk.cell 6⟩, rfl, hB.alloc hsz _⟩
 · exact (hrow.keep (Same.alloc _ _ _)).more fun _ _ h => .inl h
 · exact (hl.keep (Same.alloc _ _ _)).more fun _ _ h => .inl h
 · exact (hr.keep (Same.alloc _ _ _)).more fun _ _ h => .inl h
end Go.Proofs.YteggpddlkkjmjaaGreatDoor
