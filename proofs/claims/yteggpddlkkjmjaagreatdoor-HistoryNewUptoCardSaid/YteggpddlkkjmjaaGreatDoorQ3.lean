/- Part of a proof: what functions of the program compute. Conditions: as each theorem says. -/
import Derived.Carry
import Derived.Deep.DeepCutAuto
import Derived.Deep.DeepHandedRow
import Derived.Deep.Slices
import Derived.Deep.Strs
import Derived.DeepKeys4
import Derived.LaidEql
import Derived.LaidSub
import Derived.Laws.Externs
import Derived.Laws.StructEq
import Derived.MakeChecks
import Derived.Maps.OwnSet
import Derived.OpenShut
import Derived.OrdersIn
import Derived.ProofKit
import Derived.RangeFuncBound
import Derived.RangeFuncCalls
import Derived.RangeFuncLeaves
import Derived.RangeFuncNested
import Derived.Shelf.Abstract
import Derived.Shelf.Strings.BuilderK
import Derived.Shelf.Strings.BuilderRune
import Derived.Stop.LaidTwo
import Derived.TacticsIn
import Derived.Test.YteggpddlkkjmjaaGreatDoorCards
import Derived.Test.YteggpddlkkjmjaaGreatDoorTie
import Derived.Test.YteggpddlkkjmjaaGreatDoorQ0
set_option linter.unusedSimpArgs false
set_option linter.unusedVariables false
set_option maxHeartbeats 4000000
set_option maxRecDepth 100000
namespace Go.Proofs.YteggpddlkkjmjaaGreatDoor
open Go Go.RowKit
abbrev Wr (l : Nat) : Fence := Fence.wide.inRound l
theorem callsIn_r {l n : Nat} {P : Program} {f : FuncId} {args : Array Value} {w : World} {R : Ending → World → Prop} : CallsIn (Wr l) n P f args w R ↔ Calls P f args w R := callsIn_wide (n := n)
theorem rowsIn_r {l n : Nat} {P : Program} {row : String} {args : Array Value} {w : World} {R : Value → World → Prop} (h : Rows P row args w R) : RowsIn (Wr l) n P row args w R :=
 fun c cs _ => let ⟨v, w', r, s⟩ := h c cs; ⟨v, w', r, stepsIn_wide.2 s⟩
def noDefer (o : Oper) : Bool := match o.op with | .defer .. => false | _ => true
section
variable {l n : Nat} {P : Program} {o : Oper} {a : Act} {w : World} {K : Act → World → Prop} {Q : Exit → Act → World → Prop} {ops : Array Oper}
theorem semAt_noDefer {ρ : Operand → Value} (h : noDefer o = true) : o.semAt (some l) ρ = execOp ρ o :=
 Oper.semAt_some l ρ o fun c hc => by unfold noDefer at h; rw [hc] at h; cases h
theorem Oper.wpIn_of_wp (hd : noDefer o = true) (h : o.wp P a w K Q) : o.wpIn (Wr l) n P a w K Q := by
 refine ⟨fun _ _ => trivial, ?_⟩
 show o.uponIn (Wr l) n P a K Q ((o.semAt (some l) a.eval).run P w)
 rw [semAt_noDefer hd]
 unfold Oper.wp at h
 generalize (execOp a.eval o).run P w = r at h
 cases r with
 | ok x w' =>
  cases x with
  | value v => exact h
  | skip => exact h
  | defer d => exact h
  | enter f args => exact ⟨fun h => (by cases h), callsIn_r.2 h⟩
  | row r args => exact ⟨fun h => (by cases h), rowsIn_r h⟩
  | _ => exact (h : False).elim
 | halt x w' =>
  cases x with
  | panic v => exact h
  | _ => exact (h : False).elim
def NoO (Q : Exit → Act → World → Prop) : Exit → Act → World → Prop
 | .panic _, _, _ => False
 | .outgrown, _, _ => False
 | e, a, w => Q e a w
theorem NoO.imp : ∀ (e : Exit) (a : Act) (w : World), NoO Q e a w → Q e a w := fun e a w h => by
 cases e <;> first | exact h | exact (h : False).elim
theorem NoO.letsOut : ¬ LetsOut (NoO Q) := fun ⟨_, _, h⟩ => h
theorem wpOpsIn_of_wpOps (hd : ∀ (i : Nat) (o : Oper), ops[i]? = some o → noDefer o = true) : ∀ (L : List Nat) (a : Act) (w : World), wpOps P ops (NoO Q) L a w → wpOpsIn (Wr l) n P ops (NoO Q) L a w := by
 intro L
 induction L with
 | nil => intro a w h; exact h
 | cons i rest ih =>
  intro a w h
  rw [wpOps_cons] at h
  rw [wpOpsIn_cons]
  unfold wpOp at h
  unfold wpOpIn
  cases ho : ops[i]? with
  | none => rw [ho] at h; exact ih _ _ h
  | some o =>
   rw [ho] at h
   simp only at h ⊢
   by_cases hw : Region.wanted o (yielded ops a.tmps) = true
   · rw [if_pos hw] at h ⊢
     rcases h with h | h
     · exact Oper.wpIn_of_wp (hd i o ho) (Oper.wp_mono ih h)
     · exact absurd h.2 NoO.letsOut
   · rw [if_neg hw] at h ⊢
     exact ⟨fun _ _ => trivial, ih _ _ h⟩
theorem noDefer_all {L : List Oper} (h : L.all noDefer = true) : ∀ (i : Nat) (o : Oper), L.toArray[i]? = some o → noDefer o = true := fun i o ho => by
 rw [List.getElem?_toArray] at ho
 exact List.all_eq_true.1 h o (List.mem_of_getElem? ho)
theorem wpIn_region_r {id : Nat} {L : List Oper} (hd : L.all noDefer = true) (h : wpList P L.toArray (NoO Q) L a w) : (Code.region id L.toArray false).wpIn (Wr l) n P Q a w := by
 refine Go.wpIn_mono (wpIn_region (wpOpsIn_of_wpOps (noDefer_all hd) _ _ _ ?_)) NoO.imp
 rw [List.range_eq_range', ← Array.length_toList, wpOps_eq_wpList _ 0 (by simp)]
 exact h
theorem wpIn_region_ordT (T : Nat → Prop) {id : Nat} {L : List Oper} (hd : L.all noDefer = true) (order : Ord Nat) {l' : Ord Oper} (hm : P.follows .mixedOrders = true)
 (hs : Region.noSelect L.toArray = true) (hok : ordOk .any L.toArray order (Array.replicate L.length false) = true) (hlen : order.depth = L.length)
 (hl : ordOf L order = some l') (h : WpO T P L.toArray (NoO Q) l' a w.drew) : (Code.region id L.toArray true).wpIn (Wr l) n P Q a w := by
 refine Go.wpIn_mono (wpIn_region_draw fun t => wpOpsIn_of_wpOps (noDefer_all hd) _ _ _ ?_) NoO.imp
 simp only [Region.schedule, hm, Bool.true_or, if_true]
 exact wpAny_sound L.toArray.size t _ a _ (wpAny_of_B _ _ _ _ (wpAnyB_of_O hs (fun _ _ _ h => h) order l' L.toArray.size _ _ _ (by simpa using hl) (by simp; omega) (by simpa using hok) h))
theorem NoO.normal (h : Q .normal a w) : NoO Q .normal a w := h
theorem regionIn_ff {id : Nat} {F : Fence} (h : (Code.region id ops false).wpIn F n P Q a w) : (Code.region id ops false).wpIn F n P Q a w := h
theorem regionIn_at (id : Nat) {F : Fence} {b : Bool} (h : (Code.region id ops b).wpIn F n P Q a w) : (Code.region id ops b).wpIn F n P Q a w := h
end
structure Turn (t : TypeId) (base : Nat) (A B : World) : Prop where
 os : B.os = A.os
 tape : B.tape = A.tape
 output : B.output = A.output
 size : A.heap.size ≤ B.heap.size
 low : ∀ b, b < A.heap.size → b < base → B.heap[b]? = A.heap[b]?
 cells : ∀ b cs u z, A.heap[b]? = some (.cells cs u z) → ¬(base ≤ b ∧ u = t ∧ cs.size = 1) → B.heap[b]? = A.heap[b]?
theorem Turn.of_below {t : TypeId} {base : Nat} {A B : World} (h : Below A.heap.size A B) : Turn t base A B :=
 ⟨h.os, h.tape, h.output, h.size, fun b hb _ => h.block b hb, fun b cs u z hb _ => h.block b (lt_of_heap hb)⟩
theorem Turn.less {t : TypeId} {base base' : Nat} {A B : World} (h : Turn t base A B) (hb : base' ≤ base) : Turn t base' A B :=
 ⟨h.os, h.tape, h.output, h.size, fun b hl hlt => h.low b hl (Nat.lt_of_lt_of_le hlt hb), fun b cs u z hc hn => h.cells b cs u z hc fun ⟨h1, h2⟩ => hn ⟨Nat.le_trans hb h1, h2⟩⟩
theorem Turn.putObj {t : TypeId} {base : Nat} {A : World} {r : Nat} {o o' : Obj} (hr : base ≤ r) (h : A.heap[r]? = some o) (hc : o.isCells = false) : Turn t base A (A.putObj r o') :=
 ⟨rfl, rfl, rfl, by simp, fun b _ hl => World.putObj_heap_other (by omega), fun b cs u z hb _ => World.putObj_heap_other (fun e => by subst e; rw [hb] at h; injection h with h; subst h; cases hc)⟩
theorem Turn.setBox {t : TypeId} {base : Nat} {A : World} {g : Nat} {v u : Value} (hg : base ≤ g) (h : A.heap[g]? = some (.cells #[v] t (0, 0))) : Turn t base A (A.setCell ⟨g, 0, none⟩ u) := by
 refine ⟨rfl, rfl, rfl, by simp [World.setCell], fun b _ hl => Below.heap_setCell _ _ _ _ (by show b ≠ g; omega), fun b cs u' z hb hn => Below.heap_setCell _ _ _ _ (fun e => ?_)⟩
 have e' : b = g := e
 subst e'
 rw [h] at hb
 injection hb with hb
 injection hb with h1 h2 h3
 subst h1 h2
 exact hn ⟨hg, rfl, rfl⟩
def Abides {σ : Type} (t : TypeId) (base : Nat) (J : σ → World → Prop) : Prop := ∀ s A B, J s A → Turn t base A B → J s B
def YieldW (P : Program) (l : Nat) (args : Array Value) (W : World) (R : Ending → World → Prop) : Prop := YieldAt Fence.wide 0 P l args W R
theorem YieldW.mono {P : Program} {l : Nat} {args : Array Value} {W : World} {R R' : Ending → World → Prop} (h : YieldW P l args W R) (hr : ∀ e w, R e w → R' e w) : YieldW P l args W R' := by
 obtain ⟨fn, tmps, assign, body, hy, hR⟩ := h
 exact ⟨fn, tmps, assign, body, hy, hR.mono hr⟩
def SeqT {α : Type} (P : Program) (t : TypeId) (g : Nat) (lb : Array Value) (encs : α → Array Value) (Kp : World → World → Prop) (S : List α → Prop) (G : List α → α → Prop) (w : World) : Prop :=
 ∀ (l : Nat) (J Jx : List α → World → Prop) (W : World), Below w.heap.size w W → Abides t W.heap.size J → Abides t W.heap.size Jx →
  (∀ pre x W1, J pre W1 → G pre x → YieldW P l (encs x) W1 fun e W' =>
   (e = .returned (.bool true) ∧ J (pre ++ [x]) W' ∧ Kp W1 W') ∨ (e = .returned (.bool false) ∧ Jx (pre ++ [x]) W')) →
  J [] W →
  Calls P g (#[.func (.yield l) #[] #[]] ++ lb) W fun e W' => (∃ v, e = .returned v) ∧ ((∃ xs, S xs ∧ J xs W') ∨ (∃ pre, Jx pre W'))
def KeepN (base : Nat) (W W' : World) : Prop := ∀ b o, base ≤ b → W.heap[b]? = some o → o.isCells = false → W'.heap[b]? = some o
theorem KeepN.refl (base : Nat) (W : World) : KeepN base W W := fun _ _ _ h _ => h
theorem KeepN.of_below {base : Nat} {A B : World} (h : Below A.heap.size A B) : KeepN base A B := fun b o _ ho _ => (h.block b (lt_of_heap ho)).trans ho
def roundEnd {α : Type} (base : Nat) (Kp : World → World → Prop) (I : List α → World → Prop) (Ix : Code → List α → World → Prop) (xs : List α) (W : World) : Exit → Act → World → Prop
 | .normal, _, W' => KeepN base W W' ∧ Kp W W' ∧ I xs W'
 | .ret, _, W' => KeepN base W W' ∧ Ix .ret xs W'
 | .exit id, _, W' => KeepN base W W' ∧ Ix (.exit id) xs W'
 | .goto t, _, W' => KeepN base W W' ∧ Ix (.goto t) xs W'
 | .panic _, _, _ => False
 | .outgrown, _, _ => False
structure Begun (l : Nat) (W W2 : World) : Prop where
 os : W2.os = W.os
 tape : W2.tape = W.tape
 output : W2.output = W.output
 size : W2.heap.size = W.heap.size
 block : ∀ b, b ≠ l → W2.heap[b]? = W.heap[b]?
 record : ∃ r r', W.heap[l]? = some (.loop r) ∧ W2.heap[l]? = some (.loop r')
def putArgs (ps : Array Tmp) (args : Array Value) (t : Array Value) : Array Value := (ps.zip args).foldl (fun t (p, v) => t.setIfInBounds p v) t
theorem putArgs2 (p q : Tmp) (x y : Value) (t : Array Value) : putArgs #[p, q] #[x, y] t = (t.setIfInBounds p x).setIfInBounds q y := by
 have hz : ((#[p, q] : Array Tmp).zip #[x, y]) = #[(p, x), (q, y)] := by
  apply Array.toList_inj.1
  simp
 unfold putArgs
 rw [hz]
 simp
theorem wp_rangeFunc {α : Type} {P : Program} {g : Operand} {ps : Array Tmp} {assign body : Code} {Q : Exit → Act → World → Prop} {a : Act} {w : World} (t : TypeId)
 {gf : Nat} {lb : Array Value} (hg : a.eval g = .func (.func gf) #[] lb) (eg : ∀ args w, (callFunc gf args).run P w = .ok (.enter gf args) w)
 {encs : α → Array Value} {Kp : World → World → Prop} {S : List α → Prop} {G : List α → α → Prop} (hseq : SeqT P t gf lb encs Kp S G w)
 (hKt : ∀ {A B C : World}, Kp A B → Kp B C → Kp A C) (hKb : ∀ (W : World) (l : Nat) (o o' : Obj), w.heap.size ≤ l → W.heap[l]? = some o → o.isCells = false → Kp W (W.putObj l o')) (hps : ∀ x, (encs x).size = ps.size)
 (I : List α → World → Prop) (Ix : Code → List α → World → Prop) (hI : Abides t w.heap.size I) (hIx : ∀ c, Abides t w.heap.size (Ix c)) (h0 : I [] w)
 (hround : ∀ (l : Nat) (pre : List α) (x : α) (W : World), w.heap.size ≤ l → (∃ r, W.heap[l]? = some (.loop r)) → I pre W → G pre x →
  assign.wpIn (Wr l) 0 P (Exit.then (fun a' W' => KeepN w.heap.size W W' ∧ Kp W W' ∧ ∀ W2, Begun l W' W2 → body.wpIn (Wr l) 0 P (roundEnd w.heap.size Kp I Ix (pre ++ [x]) W2) a' W2) (fun _ _ _ => False))
   { tmps := putArgs ps (encs x) a.tmps, defers := [] } W)
 (hdone : ∀ (D : Nat) (xs : List α) (W : World), w.heap.size ≤ D → S xs → I xs W → W.heap[D]? = some (.deferred (some [])) → Q .normal { a with defers := { target := .collected D, args := #[] } :: a.defers } W)
 (hstop : ∀ (D : Nat) (c : Code) (pre : List α) (W : World), w.heap.size ≤ D → Ix c pre W → W.heap[D]? = some (.deferred (some [])) → c.wp P Q { a with defers := { target := .collected D, args := #[] } :: a.defers } W) :
 (Code.rangeFunc g ps assign body).wp P Q a w := by
 refine (wpIn_wide (n := 0)).1 (wpIn_rangeFunc ?_)
 intro fn hfn
 show ∃ l mark w₁ d w₁' f args w₂, (Instr.enterLoop fn a.tmps ps assign body none).run P w = .ok (l, mark) w₁ ∧ _
 obtain ⟨rec, hrec⟩ : ∃ rec : LoopState → Option Code → Loop, rec = fun st pe => { state := st, pending := pe, fn, tmps := a.tmps, params := ps, assign, body, defers := w.heap.size } := ⟨_, rfl⟩
 obtain ⟨W1, hW1⟩ : ∃ W1, (w.alloc (.deferred (some []))).alloc (.loop (rec .ready none)) = W1 := ⟨_, rfl⟩
 have hL1 : W1.heap[w.heap.size + 1]? = some (.loop (rec .ready none)) := by
  rw [← hW1]; have := World.alloc_heap_new (w.alloc (.deferred (some []))) (.loop (rec .ready none)); rwa [World.size_alloc] at this
 have hK1 : W1.heap[w.heap.size]? = some (.deferred (some [])) := by
  rw [← hW1]; exact (Below.heap_alloc _ _ _ (by simp)).trans (World.alloc_heap_new w _)
 have hb1 : Below w.heap.size w W1 := by
  rw [← hW1]; exact ((Below.refl _ w).alloc (Nat.le_refl _) _).alloc (by simp) _
 have hI1 : I [] W1 := hI _ _ _ h0 (Turn.of_below hb1)
 have hlt1 : w.heap.size + 1 < W1.heap.size := lt_of_heap hL1
 refine ⟨w.heap.size + 1, [{ target := .collected w.heap.size, args := #[] }], W1, { target := .fn (.func gf) lb, args := #[.func (.yield (w.heap.size + 1)) #[] #[]] }, W1, gf,
  #[.func (.yield (w.heap.size + 1)) #[] #[]] ++ lb, W1, ?_, ?_, ?_, ?_, fun h => (by cases h), ?_⟩
 · rw [← hW1, hrec]; exact run_enterLoop_outer _ _ _ _ _
 · simp only [resolve, hg]
   simp [go_sem]
 · intro f' _; exact trivial
 · simp [invoke, go_sem, eg]
 · refine callsIn_wide.2 ((hseq (w.heap.size + 1)
    (fun pre W => I pre W ∧ W.heap[w.heap.size + 1]? = some (.loop (rec .ready none)) ∧ W.heap[w.heap.size]? = some (.deferred (some [])))
    (fun pre W => ∃ c, Ix c pre W ∧ W.heap[w.heap.size + 1]? = some (.loop (rec .done (some c))) ∧ W.heap[w.heap.size]? = some (.deferred (some [])))
    W1 hb1
    (fun s A B hs hT => ⟨hI s A B hs.1 (hT.less hb1.size), (hT.low _ (lt_of_heap hs.2.1) hlt1).trans hs.2.1, (hT.low _ (lt_of_heap hs.2.2) (by omega)).trans hs.2.2⟩)
    (fun s A B hs hT => by
     obtain ⟨c, hc, hl, hk⟩ := hs
     exact ⟨c, hIx c s A B hc (hT.less hb1.size), (hT.low _ (lt_of_heap hl) hlt1).trans hl, (hT.low _ (lt_of_heap hk) (by omega)).trans hk⟩)
    ?_ ⟨hI1, hL1, hK1⟩).mono ?_)
   · rintro pre x W ⟨hi, hl, hk⟩ hlen
     have hlt : w.heap.size + 1 < W.heap.size := lt_of_heap hl
     have hy := run_yield (P := P) (args := encs x) hl (by rw [hrec]; exact hps x)
     rw [hrec] at hy
     refine ⟨fn, _, assign, body, hy, roundIn_of_wpIn hfn (Go.wpIn_mono (hround _ pre x W (by omega) ⟨_, hl⟩ hi hlen) ?_)⟩
     clear hy
     intro e a' Wa hq
     cases e with
     | normal =>
      obtain ⟨hkn, hkp, hbody⟩ := hq
      have hl' := hkn _ _ (by omega) hl rfl
      have hk' := hkn _ _ (Nat.le_refl _) hk rfl
      have hlt' : w.heap.size + 1 < Wa.heap.size := lt_of_heap hl'
      refine ⟨_, run_beginRound hl' (by rw [hrec]), ?_⟩
      have hl2 : (Wa.putObj (w.heap.size + 1) (.loop { rec .ready none with state := .busy })).heap[w.heap.size + 1]? = some (.loop { rec .ready none with state := .busy }) := World.putObj_heap_same hlt'
      have hk2 : (Wa.putObj (w.heap.size + 1) (.loop { rec .ready none with state := .busy })).heap[w.heap.size]? = some (.deferred (some [])) := (World.putObj_heap_other (by omega)).trans hk'
      have hw2 : Kp Wa (Wa.putObj (w.heap.size + 1) (.loop { rec .ready none with state := .busy })) := hKb _ _ _ _ (by omega) hl' rfl
      refine Go.wpIn_mono (hbody (Wa.putObj (w.heap.size + 1) (.loop { rec .ready none with state := .busy })) ⟨rfl, rfl, rfl, by simp, fun b hb => World.putObj_heap_other hb, ⟨_, _, hl', hl2⟩⟩) ?_
      have fin : ∀ (jump : Option Code) (W3 : World), KeepN w.heap.size (Wa.putObj (w.heap.size + 1) (.loop { rec .ready none with state := .busy })) W3 →
       (Instr.endRound (w.heap.size + 1) jump).run P W3 = .ok (.bool jump.isNone) (W3.putObj (w.heap.size + 1) (.loop (rec (if jump.isNone then .ready else .done) jump))) ∧
       W3.heap[w.heap.size + 1]? = some (.loop { rec .ready none with state := .busy }) ∧
       (W3.putObj (w.heap.size + 1) (.loop (rec (if jump.isNone then .ready else .done) jump))).heap[w.heap.size + 1]? = some (.loop (rec (if jump.isNone then .ready else .done) jump)) ∧
       (W3.putObj (w.heap.size + 1) (.loop (rec (if jump.isNone then .ready else .done) jump))).heap[w.heap.size]? = some (.deferred (some [])) := fun jump W3 hk3 => by
       have hl3 := hk3 _ _ (by omega) hl2 rfl
       have := run_endRound (P := P) jump hl3
       rw [hrec] at this ⊢
       exact ⟨this, by rw [hrec] at hl3; exact hl3, World.putObj_heap_same (lt_of_heap hl3), (World.putObj_heap_other (by omega)).trans (hk3 _ _ (Nat.le_refl _) hk2 rfl)⟩
      rintro e a3 W3 hp
      cases e with
      | normal =>
       obtain ⟨hk3, hkp3, hi3⟩ := hp
       obtain ⟨hr, hl3, hl4, hk4⟩ := fin none W3 hk3
       exact ⟨_, _, hr, .inl ⟨rfl, ⟨hI _ _ _ hi3 (Turn.putObj (by omega) hl3 rfl), hl4, hk4⟩, hKt hkp (hKt (hKt hw2 hkp3) (hKb _ _ _ _ (by omega) hl3 rfl))⟩⟩
      | ret =>
       obtain ⟨hk3, hi3⟩ := hp
       obtain ⟨hr, hl3, hl4, hk4⟩ := fin (some .ret) W3 hk3
       exact ⟨_, _, hr, .inr ⟨rfl, .ret, hIx _ _ _ _ hi3 (Turn.putObj (by omega) hl3 rfl), hl4, hk4⟩⟩
      | exit id =>
       obtain ⟨hk3, hi3⟩ := hp
       obtain ⟨hr, hl3, hl4, hk4⟩ := fin (some (.exit id)) W3 hk3
       exact ⟨_, _, hr, .inr ⟨rfl, .exit id, hIx _ _ _ _ hi3 (Turn.putObj (by omega) hl3 rfl), hl4, hk4⟩⟩
      | goto t =>
       obtain ⟨hk3, hi3⟩ := hp
       obtain ⟨hr, hl3, hl4, hk4⟩ := fin (some (.goto t)) W3 hk3
       exact ⟨_, _, hr, .inr ⟨rfl, .goto t, hIx _ _ _ _ hi3 (Turn.putObj (by omega) hl3 rfl), hl4, hk4⟩⟩
      | panic ch => exact hp.elim
      | outgrown => exact hp.elim
     | _ => exact hq.elim
   · rintro e W2 ⟨⟨v, rfl⟩, (⟨xs, hS, hi, hl, hk⟩ | ⟨pre, c, hi, hl, hk⟩)⟩
     · exact ⟨none, _, by have := run_endLoop (P := P) hl (by rw [hrec]; simp); rw [hrec] at this; exact this, hdone _ xs _ (Nat.le_refl _) hS (hI _ _ _ hi (Turn.putObj (by omega) hl rfl)) ((World.putObj_heap_other (by omega)).trans hk)⟩
     · exact ⟨some c, _, by have := run_endLoop (P := P) hl (by rw [hrec]; simp); rw [hrec] at this; exact this, wpIn_wide.2 (hstop _ c pre _ (Nat.le_refl _) (hIx _ _ _ _ hi (Turn.putObj (by omega) hl rfl)) ((World.putObj_heap_other (by omega)).trans hk))⟩
theorem calls_of_marks {P : Program} {f : FuncId} {fn : Func} {c : Code} {args : Array Value} {w : World} {R : Ending → World → Prop} (hf : P.funcs[f]? = some fn) (hb : fn.body = some c)
 (h : c.wp P (bodyPostM Fence.wide 0 P fn R) { tmps := args ++ Array.replicate (fn.ntmps - args.size) undef, defers := [] } w) : Calls P f args w R :=
 callsIn_wide.1 (callsIn_of_wp_marks hf hb trivial ((wpIn_wide (n := 0)).2 h) rfl)
theorem leaves1 {P : Program} {fn : Func} {tmps : Array Value} {R : Ending → World → Prop} {D : Nat} {w : World} {v : Value} (hD : w.heap[D]? = some (.deferred (some [])))
 (hr : ∀ w', w' = w.putObj D (.deferred none) → (results fn tmps).run P w' = .ok v w') (hR : R (.returned v) (w.putObj D (.deferred none))) : LeavesInM Fence.wide 0 P fn tmps R [{ target := .collected D, args := #[] }] .returning w :=
 ⟨by simp, .inl ⟨D, _, rfl, run_takeDeferred hD, v, hr _ rfl, hR⟩⟩
theorem leaves2 {P : Program} {fn : Func} {tmps : Array Value} {R : Ending → World → Prop} {D D' : Nat} {w : World} {v : Value} (hD : w.heap[D]? = some (.deferred (some []))) (hD' : w.heap[D']? = some (.deferred (some []))) (hne : D' ≠ D)
 (hr : ∀ w', w' = (w.putObj D (.deferred none)).putObj D' (.deferred none) → (results fn tmps).run P w' = .ok v w') (hR : R (.returned v) ((w.putObj D (.deferred none)).putObj D' (.deferred none))) :
 LeavesInM Fence.wide 0 P fn tmps R [{ target := .collected D, args := #[] }, { target := .collected D', args := #[] }] .returning w :=
 ⟨by simp, .inl ⟨D, _, rfl, run_takeDeferred hD, leaves1 ((World.putObj_heap_other hne).trans hD') hr hR⟩⟩
attribute [irreducible] NoO
def Big (W : World) (b : Nat) : Prop := ∃ cs u z, W.heap[b]? = some (.cells cs u z) ∧ 2 ≤ cs.size
theorem Big.of_cell {W : World} {b o : Nat} {v : Value} (h : W.cell? ⟨b, o, none⟩ = some v) (ho : 1 ≤ o) : Big W b := by
 unfold World.cell? at h
 cases hh : W.heap[b]? with
 | none => rw [show ((⟨b, o, none⟩ : Addr)).block = b from rfl, hh] at h; cases h
 | some x =>
  rw [show ((⟨b, o, none⟩ : Addr)).block = b from rfl, hh] at h
  cases x with
  | cells cs u z =>
   simp at h
   refine ⟨cs, u, z, hh, ?_⟩
   have := (Array.getElem?_eq_some_iff.1 h).1
   omega
  | _ => cases h
theorem Row.strict {w : World} {S : Nat → Prop} {A : Option Addr} {n c : Nat} {es : List El} (h : Row w S A n c es) : Row w (fun b => S b ∧ Big w b) A n c es := by
 refine ⟨h.1, h.2.1, h.2.2.1, fun hn => ?_⟩
 obtain ⟨b, off, e, hs, hc⟩ := h.2.2.2 hn
 refine ⟨b, off, e, ⟨hs, ?_⟩, hc⟩
 have hl : 1 < (cellsOf es).length := by rw [cellsOf_length, h.1]; omega
 exact Big.of_cell (o := off + 1) (hc 1 _ (List.getElem?_eq_getElem hl)) (by omega)
theorem IsTree.strict {w : World} {S : Nat → Prop} : ∀ {t : Tr} {p : Option Addr}, IsTree w S t p → IsTree w (fun b => S b ∧ Big w b) t p := by
 intro t
 induction t with
 | nil => intro p h; exact h
 | node l row r ihl ihr =>
  rintro p ⟨hne, b, A, n, c, pl, pr, rfl, hs, hr, hl, hr', c0, c1, c2, c3, c4, c5, c6⟩
  exact ⟨hne, b, A, n, c, pl, pr, rfl, ⟨hs, Big.of_cell c1 (Nat.le_refl _)⟩, hr.strict, ihl hl, ihr hr', c0, c1, c2, c3, c4, c5, c6⟩
theorem Blk.turn {t u : TypeId} {base g : Nat} {A B : World} {cs : Array Value} (h : Blk A g u cs) (hT : Turn t base A B) (hg : g < base) : Blk B g u cs := (hT.low g h.lt hg).trans h
theorem Begun.blk {l g : Nat} {u : TypeId} {A B : World} {cs : Array Value} (hT : Begun l A B) (h : Blk A g u cs) : Blk B g u cs := by
 obtain ⟨r, r', hr, _⟩ := hT.record
 exact (hT.block g fun e => by subst e; unfold Blk at h; rw [hr] at h; cases h).trans h
theorem zipIdx_prefix {l : List El} {pre : List (El × Nat)} {x : El × Nat} (h : pre ++ [x] <+: l.zipIdx) : x.2 = pre.length ∧ l[pre.length]? = some x.1 ∧ pre.length < l.length := by
 obtain ⟨r, hr⟩ := h
 have h1 : l.zipIdx[pre.length]? = some x := by rw [← hr, List.append_assoc, List.getElem?_append_right (Nat.le_refl _)]; simp
 rw [List.getElem?_zipIdx] at h1
 cases hl : l[pre.length]? with
 | none => rw [hl] at h1; cases h1
 | some e =>
  rw [hl] at h1
  simp at h1
  subst h1
  exact ⟨rfl, rfl, (List.getElem?_eq_some_iff.1 hl).1⟩
def roundsW (P : Program) (c : Code) (Q : Exit → Act → World → Prop) : Nat → Act → World → Prop
 | 0, _, _ => False
 | n + 1, a, w => c.wp P (Exit.then (roundsW P c Q n) Q) a w
theorem wp_rangeFunc_block {α : Type} {P : Program} {id : Nat} {g : Operand} {ps : Array Tmp} {assign body : Code} {Q : Exit → Act → World → Prop} {a : Act} {w : World} (t : TypeId)
 {gf : Nat} {lb : Array Value} (hg : a.eval g = .func (.func gf) #[] lb) (eg : ∀ args w, (callFunc gf args).run P w = .ok (.enter gf args) w)
 {encs : α → Array Value} {Kp : World → World → Prop} {S : List α → Prop} {G : List α → α → Prop} (hseq : SeqT P t gf lb encs Kp S G w)
 (hKt : ∀ {A B C : World}, Kp A B → Kp B C → Kp A C) (hKb : ∀ (W : World) (l : Nat) (o o' : Obj), w.heap.size ≤ l → W.heap[l]? = some o → o.isCells = false → Kp W (W.putObj l o')) (hps : ∀ x, (encs x).size = ps.size)
 (I : List α → World → Prop) (E : World → Prop) (hI : Abides t w.heap.size I) (hE : Abides t w.heap.size (fun (_ : Unit) => E)) (h0 : I [] w)
 (hround : ∀ (l : Nat) (pre : List α) (x : α) (W : World), w.heap.size ≤ l → (∃ r, W.heap[l]? = some (.loop r)) → I pre W → G pre x →
  assign.wpIn (Wr l) 0 P (Exit.then (fun a' W' => KeepN w.heap.size W W' ∧ Kp W W' ∧ ∀ W2, Begun l W' W2 → body.wpIn (Wr l) 0 P (roundEnd w.heap.size Kp I (fun c _ W => c = .exit id ∧ E W) (pre ++ [x]) W2) a' W2) (fun _ _ _ => False))
   { tmps := putArgs ps (encs x) a.tmps, defers := [] } W)
 (hdone : ∀ xs W, S xs → I xs W → E W)
 (hend : ∀ (D : Nat) (W : World), w.heap.size ≤ D → E W → W.heap[D]? = some (.deferred (some [])) → Q .normal { a with defers := { target := .collected D, args := #[] } :: a.defers } W) :
 (Code.block id (Code.rangeFunc g ps assign body)).wp P Q a w := by
 refine wp_block (wp_rangeFunc t hg eg hseq hKt hKb hps I (fun c _ W => c = .exit id ∧ E W) hI (fun c s A B h hT => ⟨h.1, hE () A B h.2 hT⟩) h0 hround ?_ ?_)
 · intro D xs W hD hS hi hK
   exact hend D W hD (hdone xs W hS hi) hK
 · rintro D c pre W hD ⟨rfl, he⟩ hK
   refine wp_exit ?_
   simp only [Exit.inBlock, if_true]
   exact hend D W hD he hK
theorem stop_block (id : Nat) {P : Program} {c : Code} {Q : Exit → Act → World → Prop} {a : Act} {w : World} (h : Stop ((Code.block id c).wp P Q a w)) : (Code.block id c).wp P Q a w := by unfold Stop at h; exact h
attribute [irreducible] roundsW
def KeepE (base l : Nat) (W W' : World) : Prop := ∀ b o, base ≤ b → b ≠ l → W.heap[b]? = some o → o.isCells = false → W'.heap[b]? = some o
theorem KeepE.of_keepN {base l : Nat} {W W' : World} (h : KeepN base W W') : KeepE base l W W' := fun b o hb _ ho hc => h b o hb ho hc
theorem KeepE.trans {base l : Nat} {A B C : World} (h : KeepE base l A B) (k : KeepE base l B C) : KeepE base l A C := fun b o hb hl ho hc => k b o hb hl (h b o hb hl ho hc) hc
theorem KeepE.putObj {base l : Nat} (W : World) (o' : Obj) : KeepE base l W (W.putObj l o') := fun b o _ hl ho _ => (World.putObj_heap_other hl).trans ho
theorem KeepE.keepN {base l : Nat} {W W' : World} (h : KeepE base l W W') {z : Nat} (hz : base ≤ z) (hl : l < z) : KeepN z W W' := fun b o hb ho hc => h b o (Nat.le_trans hz hb) (by omega) ho hc
def SeqN {α : Type} (P : Program) (t : TypeId) (g : Nat) (lb : Array Value) (encs : α → Array Value) (Kp : World → World → Prop) (S : List α → Prop) (G : List α → α → Prop) (w : World) : Prop :=
 ∀ (l : Nat) (J Jx : List α → World → Prop) (W : World), Below w.heap.size w W → w.heap.size ≤ l → l < W.heap.size → Abides t W.heap.size J → Abides t W.heap.size Jx →
  (∀ pre x W1, J pre W1 → G pre x → YieldW P l (encs x) W1 fun e W' =>
   (e = .returned (.bool true) ∧ J (pre ++ [x]) W' ∧ Kp W1 W' ∧ KeepE w.heap.size l W1 W') ∨ (e = .returned (.bool false) ∧ Jx (pre ++ [x]) W' ∧ KeepE w.heap.size l W1 W')) →
  J [] W →
  Calls P g (#[.func (.yield l) #[] #[]] ++ lb) W fun e W' => (∃ v, e = .returned v) ∧ ((∃ xs, S xs ∧ J xs W') ∨ (∃ pre, Jx pre W'))
theorem wp_rangeFuncN {α : Type} {P : Program} {g : Operand} {ps : Array Tmp} {assign body : Code} {Q : Exit → Act → World → Prop} {a : Act} {w : World} (t : TypeId)
 {gf : Nat} {lb : Array Value} (hg : a.eval g = .func (.func gf) #[] lb) (eg : ∀ args w, (callFunc gf args).run P w = .ok (.enter gf args) w)
 {encs : α → Array Value} {Kp : World → World → Prop} {S : List α → Prop} {G : List α → α → Prop} (hseq : SeqN P t gf lb encs Kp S G w)
 (hKt : ∀ {A B C : World}, Kp A B → Kp B C → Kp A C) (hKb : ∀ (W : World) (l : Nat) (o o' : Obj), w.heap.size ≤ l → W.heap[l]? = some o → o.isCells = false → Kp W (W.putObj l o')) (hps : ∀ x, (encs x).size = ps.size)
 (I : List α → World → Prop) (Ix : Code → List α → World → Prop) (hI : Abides t w.heap.size I) (hIx : ∀ c, Abides t w.heap.size (Ix c)) (h0 : I [] w)
 (hround : ∀ (l : Nat) (pre : List α) (x : α) (W : World), w.heap.size ≤ l → (∃ r, W.heap[l]? = some (.loop r)) → I pre W → G pre x →
  assign.wpIn (Wr l) 0 P (Exit.then (fun a' W' => KeepN w.heap.size W W' ∧ Kp W W' ∧ ∀ W2, Begun l W' W2 → body.wpIn (Wr l) 0 P (roundEnd w.heap.size Kp I Ix (pre ++ [x]) W2) a' W2) (fun _ _ _ => False))
   { tmps := putArgs ps (encs x) a.tmps, defers := [] } W)
 (hdone : ∀ (D : Nat) (xs : List α) (W : World), w.heap.size ≤ D → S xs → I xs W → W.heap[D]? = some (.deferred (some [])) → Q .normal { a with defers := { target := .collected D, args := #[] } :: a.defers } W)
 (hstop : ∀ (D : Nat) (c : Code) (pre : List α) (W : World), w.heap.size ≤ D → Ix c pre W → W.heap[D]? = some (.deferred (some [])) → c.wp P Q { a with defers := { target := .collected D, args := #[] } :: a.defers } W) :
 (Code.rangeFunc g ps assign body).wp P Q a w := by
 refine (wpIn_wide (n := 0)).1 (wpIn_rangeFunc ?_)
 intro fn hfn
 show ∃ l mark w₁ d w₁' f args w₂, (Instr.enterLoop fn a.tmps ps assign body none).run P w = .ok (l, mark) w₁ ∧ _
 obtain ⟨rec, hrec⟩ : ∃ rec : LoopState → Option Code → Loop, rec = fun st pe => { state := st, pending := pe, fn, tmps := a.tmps, params := ps, assign, body, defers := w.heap.size } := ⟨_, rfl⟩
 obtain ⟨W1, hW1⟩ : ∃ W1, (w.alloc (.deferred (some []))).alloc (.loop (rec .ready none)) = W1 := ⟨_, rfl⟩
 have hL1 : W1.heap[w.heap.size + 1]? = some (.loop (rec .ready none)) := by
  rw [← hW1]; have := World.alloc_heap_new (w.alloc (.deferred (some []))) (.loop (rec .ready none)); rwa [World.size_alloc] at this
 have hK1 : W1.heap[w.heap.size]? = some (.deferred (some [])) := by
  rw [← hW1]; exact (Below.heap_alloc _ _ _ (by simp)).trans (World.alloc_heap_new w _)
 have hb1 : Below w.heap.size w W1 := by
  rw [← hW1]; exact ((Below.refl _ w).alloc (Nat.le_refl _) _).alloc (by simp) _
 have hI1 : I [] W1 := hI _ _ _ h0 (Turn.of_below hb1)
 have hlt1 : w.heap.size + 1 < W1.heap.size := lt_of_heap hL1
 refine ⟨w.heap.size + 1, [{ target := .collected w.heap.size, args := #[] }], W1, { target := .fn (.func gf) lb, args := #[.func (.yield (w.heap.size + 1)) #[] #[]] }, W1, gf,
  #[.func (.yield (w.heap.size + 1)) #[] #[]] ++ lb, W1, ?_, ?_, ?_, ?_, fun h => (by cases h), ?_⟩
 · rw [← hW1, hrec]; exact run_enterLoop_outer _ _ _ _ _
 · simp only [resolve, hg]
   simp [go_sem]
 · intro f' _; exact trivial
 · simp [invoke, go_sem, eg]
 · refine callsIn_wide.2 ((hseq (w.heap.size + 1)
    (fun pre W => I pre W ∧ W.heap[w.heap.size + 1]? = some (.loop (rec .ready none)) ∧ W.heap[w.heap.size]? = some (.deferred (some [])))
    (fun pre W => ∃ c, Ix c pre W ∧ W.heap[w.heap.size + 1]? = some (.loop (rec .done (some c))) ∧ W.heap[w.heap.size]? = some (.deferred (some [])))
    W1 hb1 (Nat.le_succ _) hlt1
    (fun s A B hs hT => ⟨hI s A B hs.1 (hT.less hb1.size), (hT.low _ (lt_of_heap hs.2.1) hlt1).trans hs.2.1, (hT.low _ (lt_of_heap hs.2.2) (by omega)).trans hs.2.2⟩)
    (fun s A B hs hT => by
     obtain ⟨c, hc, hl, hk⟩ := hs
     exact ⟨c, hIx c s A B hc (hT.less hb1.size), (hT.low _ (lt_of_heap hl) hlt1).trans hl, (hT.low _ (lt_of_heap hk) (by omega)).trans hk⟩)
    ?_ ⟨hI1, hL1, hK1⟩).mono ?_)
   · rintro pre x W ⟨hi, hl, hk⟩ hlen
     have hlt : w.heap.size + 1 < W.heap.size := lt_of_heap hl
     have hy := run_yield (P := P) (args := encs x) hl (by rw [hrec]; exact hps x)
     rw [hrec] at hy
     refine ⟨fn, _, assign, body, hy, roundIn_of_wpIn hfn (Go.wpIn_mono (hround _ pre x W (by omega) ⟨_, hl⟩ hi hlen) ?_)⟩
     clear hy
     intro e a' Wa hq
     cases e with
     | normal =>
      obtain ⟨hkn, hkp, hbody⟩ := hq
      have hl' := hkn _ _ (by omega) hl rfl
      have hk' := hkn _ _ (Nat.le_refl _) hk rfl
      have hlt' : w.heap.size + 1 < Wa.heap.size := lt_of_heap hl'
      refine ⟨_, run_beginRound hl' (by rw [hrec]), ?_⟩
      have hl2 : (Wa.putObj (w.heap.size + 1) (.loop { rec .ready none with state := .busy })).heap[w.heap.size + 1]? = some (.loop { rec .ready none with state := .busy }) := World.putObj_heap_same hlt'
      have hk2 : (Wa.putObj (w.heap.size + 1) (.loop { rec .ready none with state := .busy })).heap[w.heap.size]? = some (.deferred (some [])) := (World.putObj_heap_other (by omega)).trans hk'
      have hw2 : Kp Wa (Wa.putObj (w.heap.size + 1) (.loop { rec .ready none with state := .busy })) := hKb _ _ _ _ (by omega) hl' rfl
      refine Go.wpIn_mono (hbody (Wa.putObj (w.heap.size + 1) (.loop { rec .ready none with state := .busy })) ⟨rfl, rfl, rfl, by simp, fun b hb => World.putObj_heap_other hb, ⟨_, _, hl', hl2⟩⟩) ?_
      have fin : ∀ (jump : Option Code) (W3 : World), KeepN w.heap.size (Wa.putObj (w.heap.size + 1) (.loop { rec .ready none with state := .busy })) W3 →
       (Instr.endRound (w.heap.size + 1) jump).run P W3 = .ok (.bool jump.isNone) (W3.putObj (w.heap.size + 1) (.loop (rec (if jump.isNone then .ready else .done) jump))) ∧
       W3.heap[w.heap.size + 1]? = some (.loop { rec .ready none with state := .busy }) ∧
       (W3.putObj (w.heap.size + 1) (.loop (rec (if jump.isNone then .ready else .done) jump))).heap[w.heap.size + 1]? = some (.loop (rec (if jump.isNone then .ready else .done) jump)) ∧
       (W3.putObj (w.heap.size + 1) (.loop (rec (if jump.isNone then .ready else .done) jump))).heap[w.heap.size]? = some (.deferred (some [])) ∧
       KeepE w.heap.size (w.heap.size + 1) W (W3.putObj (w.heap.size + 1) (.loop (rec (if jump.isNone then .ready else .done) jump))) := fun jump W3 hk3 => by
       have hl3 := hk3 _ _ (by omega) hl2 rfl
       have := run_endRound (P := P) jump hl3
       rw [hrec] at this ⊢
       exact ⟨this, by rw [hrec] at hl3; exact hl3, World.putObj_heap_same (lt_of_heap hl3), (World.putObj_heap_other (by omega)).trans (hk3 _ _ (Nat.le_refl _) hk2 rfl), ((KeepE.of_keepN hkn).trans (KeepE.putObj Wa _)).trans ((KeepE.of_keepN hk3).trans (KeepE.putObj W3 _))⟩
      rintro e a3 W3 hp
      cases e with
      | normal =>
       obtain ⟨hk3, hkp3, hi3⟩ := hp
       obtain ⟨hr, hl3, hl4, hk4, hke⟩ := fin none W3 hk3
       exact ⟨_, _, hr, .inl ⟨rfl, ⟨hI _ _ _ hi3 (Turn.putObj (by omega) hl3 rfl), hl4, hk4⟩, hKt hkp (hKt (hKt hw2 hkp3) (hKb _ _ _ _ (by omega) hl3 rfl)), hke⟩⟩
      | ret =>
       obtain ⟨hk3, hi3⟩ := hp
       obtain ⟨hr, hl3, hl4, hk4, hke⟩ := fin (some .ret) W3 hk3
       exact ⟨_, _, hr, .inr ⟨rfl, ⟨.ret, hIx _ _ _ _ hi3 (Turn.putObj (by omega) hl3 rfl), hl4, hk4⟩, hke⟩⟩
      | exit id =>
       obtain ⟨hk3, hi3⟩ := hp
       obtain ⟨hr, hl3, hl4, hk4, hke⟩ := fin (some (.exit id)) W3 hk3
       exact ⟨_, _, hr, .inr ⟨rfl, ⟨.exit id, hIx _ _ _ _ hi3 (Turn.putObj (by omega) hl3 rfl), hl4, hk4⟩, hke⟩⟩
      | goto t =>
       obtain ⟨hk3, hi3⟩ := hp
       obtain ⟨hr, hl3, hl4, hk4, hke⟩ := fin (some (.goto t)) W3 hk3
       exact ⟨_, _, hr, .inr ⟨rfl, ⟨.goto t, hIx _ _ _ _ hi3 (Turn.putObj (by omega) hl3 rfl), hl4, hk4⟩, hke⟩⟩
      | panic ch => exact hp.elim
      | outgrown => exact hp.elim
     | _ => exact hq.elim
   · rintro e W2 ⟨⟨v, rfl⟩, (⟨xs, hS, hi, hl, hk⟩ | ⟨pre, c, hi, hl, hk⟩)⟩
     · exact ⟨none, _, by have := run_endLoop (P := P) hl (by rw [hrec]; simp); rw [hrec] at this; exact this, hdone _ xs _ (Nat.le_refl _) hS (hI _ _ _ hi (Turn.putObj (by omega) hl rfl)) ((World.putObj_heap_other (by omega)).trans hk)⟩
     · exact ⟨some c, _, by have := run_endLoop (P := P) hl (by rw [hrec]; simp); rw [hrec] at this; exact this, wpIn_wide.2 (hstop _ c pre _ (Nat.le_refl _) (hIx _ _ _ _ hi (Turn.putObj (by omega) hl rfl)) ((World.putObj_heap_other (by omega)).trans hk))⟩
theorem putArgs1 (p : Tmp) (x : Value) (t : Array Value) : putArgs #[p] #[x] t = t.setIfInBounds p x := by
 have hz : ((#[p] : Array Tmp).zip #[x]) = #[(p, x)] := by
  apply Array.toList_inj.1
  simp
 unfold putArgs
 rw [hz]
 simp
theorem wp_rangeFuncN_block {α : Type} {P : Program} {id : Nat} {g : Operand} {ps : Array Tmp} {assign body : Code} {Q : Exit → Act → World → Prop} {a : Act} {w : World} (t : TypeId)
 {gf : Nat} {lb : Array Value} (hg : a.eval g = .func (.func gf) #[] lb) (eg : ∀ args w, (callFunc gf args).run P w = .ok (.enter gf args) w)
 {encs : α → Array Value} {Kp : World → World → Prop} {S : List α → Prop} {G : List α → α → Prop} (hseq : SeqN P t gf lb encs Kp S G w)
 (hKt : ∀ {A B C : World}, Kp A B → Kp B C → Kp A C) (hKb : ∀ (W : World) (l : Nat) (o o' : Obj), w.heap.size ≤ l → W.heap[l]? = some o → o.isCells = false → Kp W (W.putObj l o')) (hps : ∀ x, (encs x).size = ps.size)
 (I : List α → World → Prop) (E : World → Prop) (hI : Abides t w.heap.size I) (hE : Abides t w.heap.size (fun (_ : Unit) => E)) (h0 : I [] w)
 (hround : ∀ (l : Nat) (pre : List α) (x : α) (W : World), w.heap.size ≤ l → (∃ r, W.heap[l]? = some (.loop r)) → I pre W → G pre x →
  assign.wpIn (Wr l) 0 P (Exit.then (fun a' W' => KeepN w.heap.size W W' ∧ Kp W W' ∧ ∀ W2, Begun l W' W2 → body.wpIn (Wr l) 0 P (roundEnd w.heap.size Kp I (fun c _ W => c = .exit id ∧ E W) (pre ++ [x]) W2) a' W2) (fun _ _ _ => False))
   { tmps := putArgs ps (encs x) a.tmps, defers := [] } W)
 (hdone : ∀ xs W, S xs → I xs W → E W)
 (hend : ∀ (D : Nat) (W : World), w.heap.size ≤ D → E W → W.heap[D]? = some (.deferred (some [])) → Q .normal { a with defers := { target := .collected D, args := #[] } :: a.defers } W) :
 (Code.block id (Code.rangeFunc g ps assign body)).wp P Q a w := by
 refine wp_block (wp_rangeFuncN t hg eg hseq hKt hKb hps I (fun c _ W => c = .exit id ∧ E W) hI (fun c s A B h hT => ⟨h.1, hE () A B h.2 hT⟩) h0 hround ?_ ?_)
 · intro D xs W hD hS hi hK
   exact hend D W hD (hdone xs W hS hi) hK
 · rintro D c pre W hD ⟨rfl, he⟩ hK
   refine wp_exit ?_
   simp only [Exit.inBlock, if_true]
   exact hend D W hD he hK
section
variable {l n m : Nat} {P : Program} {o : Oper} {a : Act} {w : World} {K : Act → World → Prop} {Q : Exit → Act → World → Prop} {ops : Array Oper}
theorem roundIn_r {l' : Nat} {f : FuncId} {tmps : Array Value} {assign body : Code} {R : Ending → World → Prop} (h : RoundIn Fence.wide m P l' f tmps assign body w R) : RoundIn (Wr l) n P l' f tmps assign body w R :=
 ⟨h.1, fun c cs _ => h.2 c cs (room_wide _)⟩
theorem Oper.wpIn_of_wide (hd : noDefer o = true) (h : o.wpIn Fence.wide m P a w K Q) : o.wpIn (Wr l) n P a w K Q := by
 refine ⟨fun _ _ => trivial, ?_⟩
 show o.uponIn (Wr l) n P a K Q ((o.semAt (some l) a.eval).run P w)
 rw [semAt_noDefer hd]
 have h3 : o.uponIn Fence.wide m P a K Q ((execOp a.eval o).run P w) := h.2
 clear h
 generalize (execOp a.eval o).run P w = r at h3
 cases r with
 | ok x w' =>
  cases x with
  | value v => exact h3
  | skip => exact h3
  | defer d => exact h3
  | enter f args => exact ⟨fun h => (by cases h), callsIn_r.2 (callsIn_wide.1 h3.2)⟩
  | row r args => exact ⟨fun h => (by cases h), fun c cs _ => h3.2 c cs (room_wide _)⟩
  | round l' f tmps assign body => exact ⟨fun h => (by cases h), roundIn_r h3.2⟩
  | _ => exact (h3 : False).elim
 | halt x w' =>
  cases x with
  | panic v => exact h3
  | _ => exact (h3 : False).elim
theorem wpOpsIn_of_wide (hd : ∀ (i : Nat) (o : Oper), ops[i]? = some o → noDefer o = true) : ∀ (L : List Nat) (a : Act) (w : World), wpOpsIn Fence.wide m P ops Q L a w → wpOpsIn (Wr l) n P ops Q L a w := by
 intro L
 induction L with
 | nil => intro a w h; exact h
 | cons i rest ih =>
  intro a w h
  unfold wpOpsIn at h ⊢
  cases ho : ops[i]? with
  | none => rw [ho] at h; exact ih _ _ h
  | some o =>
   rw [ho] at h
   simp only at h ⊢
   by_cases hw : Region.wanted o (yielded ops a.tmps) = true
   · rw [if_pos hw] at h ⊢
     have h2 := Oper.wpIn_of_wide (l := l) (n := n) (hd i o ho) h
     exact Oper.wpIn_mono (fun a' w' h' => ih a' w' h') h2
   · rw [if_neg hw] at h ⊢
     exact ⟨fun _ _ => trivial, ih _ _ h.2⟩
theorem wpIn_region_wide {id : Nat} {L : List Oper} (hd : L.all noDefer = true) (h : wpListIn Fence.wide 0 P L.toArray Q L a w) : (Code.region id L.toArray false).wpIn (Wr l) n P Q a w := by
 refine wpIn_region (wpOpsIn_of_wide (m := 0) (noDefer_all hd) _ _ _ ?_)
 rw [List.range_eq_range', ← Array.length_toList, wpOpsIn_eq_wpListIn L.toArray.toList 0 (by simp)]
 simpa using h
end
end Go.Proofs.YteggpddlkkjmjaaGreatDoor
namespace Go.Proofs.YteggpddlkkjmjaaGreatDoor
open Go Go.RowKit Go.Shelf
def renB : Ren := ⟨fun | 242 => 119 | 278 => 144 | 169 => 84 | _ => 0, fun | 0 => 0 | 3 => 3 | 4 => 4 | 5 => 5 | 9 => 9 | 21 => 21 | 37 => 142 | 46 => 222 | 51 => 207 | 70 => 141 | 72 => 144 | 127 => 186 | _ => 0, fun _ => 0⟩
theorem laysB242 : Lays.n242 Tryz.prog renB where
 mixed := by kernel_rfl
 f242 := Tryz.func119.trans (congrArg some (by kernel_rfl))
 f278 := Tryz.func144.trans (congrArg some (by kernel_rfl))
 t4 := Tryz.underlying4
 a4 := Tryz.isAgg4
 z4 := Tryz.sizeOf4
 v4 := Tryz.zeroValue4
 t5 := Tryz.underlying5
 a5 := Tryz.isAgg5
 z5 := Tryz.sizeOf5
 v5 := Tryz.zeroValue5
 t21 := Tryz.underlying21
 a21 := Tryz.isAgg21
 z21 := Tryz.sizeOf21
 v21 := Tryz.zeroValue21
 t37 := Tryz.underlying142
 a37 := Tryz.isAgg142
 z37 := Tryz.sizeOf142
 v37 := Tryz.zeroValue142
 t46 := Tryz.underlying222
 a46 := Tryz.isAgg222
 z46 := Tryz.sizeOf222
 v46 := Tryz.zeroValue222
 t51 := Tryz.underlying207
 a51 := Tryz.isAgg207
 z51 := Tryz.sizeOf207
 v51 := Tryz.zeroValue207
theorem laysB169 : Lays.n169 Tryz.prog renB where
 mixed := by kernel_rfl
 f169 := Tryz.func84.trans (congrArg some (by kernel_rfl))
 t0 := Tryz.underlying0
 a0 := Tryz.isAgg0
 z0 := Tryz.sizeOf0
 v0 := Tryz.zeroValue0
 t3 := Tryz.underlying3
 a3 := Tryz.isAgg3
 z3 := Tryz.sizeOf3
 v3 := Tryz.zeroValue3
 t9 := Tryz.underlying9
 a9 := Tryz.isAgg9
 z9 := Tryz.sizeOf9
 v9 := Tryz.zeroValue9
 t37 := Tryz.underlying142
 a37 := Tryz.isAgg142
 z37 := Tryz.sizeOf142
 v37 := Tryz.zeroValue142
 t70 := Tryz.underlying141
 a70 := Tryz.isAgg141
 z70 := Tryz.sizeOf141
 v70 := Tryz.zeroValue141
 t72 := Tryz.underlying144
 a72 := Tryz.isAgg144
 z72 := Tryz.sizeOf144
 v72 := Tryz.zeroValue144
 t127 := Tryz.underlying186
 a127 := Tryz.isAgg186
 z127 := Tryz.sizeOf186
 v127 := Tryz.zeroValue186
theorem extraB : Builder.Extra Tryz.prog renB where
 sizeBuilder := by kernel_rfl
 liesBuilder := by kernel_rfl
 t5 := Tryz.underlying5
 a5 := Tryz.isAgg5
 z5 := Tryz.sizeOf5
 v5 := Tryz.zeroValue5
 infoByte := by kernel_rfl
 cellsByte := by kernel_rfl
 sizeByte := by kernel_rfl
 neB5 := by decide
theorem appendRune_b (B : Nat) (v : Value) (n : Nat) (xs : List Value) (r : Int) (hr0 : -2147483648 ≤ r) (hr1 : r ≤ 2147483647) (w : World) (hown : w.ownsRowF B 5 1 v n xs) (hlen : n + 4 ≤ 140737488355328) (hBw : B ≤ w.heap.size) :
 Calls Tryz.prog 119 #[v, .int .i32 r] w fun e w' => ∃ v', e = .returned v' ∧ w'.ownsRowF B 5 1 v' (n + (Lib.runeCells r).length) (xs ++ Lib.runeCells r) ∧ ∃ o, (w.alloc o).grownBy w' v.ownBlock :=
 Any.utf8_AppendRune_own laysB242 extraB B v n xs r hr0 hr1 w hown hlen hBw
theorem bstring_b (B b : Nat) (l : List UInt8) (w : World) (h : Lib.IsBuilderF 144 5 B b (Lib.byteCells l) w) (hBw : B ≤ w.heap.size) :
 Calls Tryz.prog 84 #[.pointer (some ⟨b, 0, none⟩)] w fun e w' => e = .returned (.string ⟨l.toArray⟩) ∧ Below B w w' ∧ Lib.OthersKept 5 (some b) w w' :=
 (Any.Builder_String_any_k laysB169 extraB B b l w h hBw).mono fun e w' h => ⟨h.1, h.2.2⟩
theorem copyCheck_used (b : Nat) (w : World) (h0 : w.cell? ⟨b, 0, none⟩ = some (.pointer (some ⟨b, 0, none⟩))) :
 Calls Tryz.prog 118 #[.pointer (some ⟨b, 0, none⟩)] w fun e w' => e = .returned (.tuple #[]) ∧ w' = w := by
 obtain ⟨j, hj, _⟩ := Option.map_eq_some_iff.1 (extraB).sizeBuilder
 have hj' : Tryz.prog.info? 144 = some j := hj
 go_enter Tryz.func118, Tryz.ntmps118
 repeat' (first | go_step)
 rw [Lib.run_neq_ptr_same w _ Tryz.underlying141 hj']
 repeat' (first | go_step | go_upon)
 go_end0
 exact ⟨rfl, rfl⟩
theorem copyCheck_fresh (b : Nat) (w : World) (h0 : w.cell? ⟨b, 0, none⟩ = some (.pointer none)) (hsh : w.shape? b = some (144, 2)) (hfz : w.frozen? ⟨b, 0, none⟩ = false) :
 Calls Tryz.prog 118 #[.pointer (some ⟨b, 0, none⟩)] w fun e w' => e = .returned (.tuple #[]) ∧ w' = w.setCell ⟨b, 0, none⟩ (.pointer (some ⟨b, 0, none⟩)) := by
 obtain ⟨j, hj, hjs⟩ := Option.map_eq_some_iff.1 (extraB).sizeBuilder
 have hj' : Tryz.prog.info? 144 = some j := hj
 go_enter Tryz.func118, Tryz.ntmps118
 repeat' (first | go_step)
 rw [Lib.run_to_unsafe w ⟨b, 0, none⟩ Tryz.underlying141 Tryz.underlying205 hj' (by rw [hjs]; decide) hsh (Nat.zero_lt_succ 1)]
 simp only [Result.andThen]
 rw [Oper.upon_value]
 repeat' (first | go_step)
 rw [run_callFunc_extern Tryz.func143 (by kernel_rfl) (by kernel_rfl) (by kernel_rfl) (e := Extern.AbiNoEscape.same) (by kernel_rfl)]
 rw [Lib.run_noEscape]
 simp only [Result.andThen]
 rw [Oper.upon_value]
 repeat' (first | go_step)
 rw [Lib.run_from_unsafe w ⟨b, 0, none⟩ Tryz.underlying205 Tryz.underlying141 hj' hsh extraB.liesBuilder]
 simp only [Result.andThen]
 rw [Oper.upon_value]
 repeat' (first | go_step)
 go_end0
 exact ⟨rfl, rfl⟩
theorem copyCheck_b (B b : Nat) (bs : List Value) (w : World) (h : Lib.IsBuilderF 144 5 B b bs w) :
 Calls Tryz.prog 118 #[.pointer (some ⟨b, 0, none⟩)] w fun e w' => e = .returned (.tuple #[]) ∧ Lib.BuilderAtF 144 5 B b (.pointer (some ⟨b, 0, none⟩)) bs w' ∧ Below B w w' ∧ Lib.OthersKept 5 (some b) w w' := by
 rcases h with h | h
 · refine (copyCheck_fresh b w h.cell0 h.shape h.frozen0).mono ?_
   rintro e w' ⟨rfl, rfl⟩
   exact ⟨rfl, h.used _, (Below.refl B w).setCell (p := ⟨b, 0, none⟩) h.1 _, (Lib.OthersKept.refl _ _ _).setCell ⟨b, 0, none⟩ rfl _⟩
 · refine (copyCheck_used b w h.cell0).mono ?_
   rintro e w' ⟨rfl, rfl⟩
   exact ⟨rfl, h, Below.refl B _, Lib.OthersKept.refl _ _ _⟩
theorem writeRune_b (B b : Nat) (bs : List Value) (r : Int) (hr0 : -2147483648 ≤ r) (hr1 : r ≤ 2147483647) (w : World) (h : Lib.IsBuilderF 144 5 B b bs w) (hlen : bs.length + 4 ≤ 140737488355328) (hBw : B ≤ w.heap.size) :
 Calls Tryz.prog 83 #[.pointer (some ⟨b, 0, none⟩), .int .i32 r] w fun e w' => e = .returned (.tuple #[.int .i64 (Lib.runeCells r).length, .nilIface]) ∧ Lib.BuilderAtF 144 5 B b (.pointer (some ⟨b, 0, none⟩)) (bs ++ Lib.runeCells r) w' ∧ Below B w w' ∧ Lib.OthersKept 5 (some b) w w' := by
 have hk4 := Lib.runeCells_le r
 go_enter Tryz.func83, Tryz.ntmps83
 repeat' (first | (go_at_call 118; go_must ((with_reducible refine Calls.mono (copyCheck_b B b bs _ h) ?_); rintro e w1 ⟨rfl, h1, hb1, hk1⟩; obtain ⟨hB, v, hbk, hown, hne⟩ := h1; obtain ⟨ao, cap, rfl⟩ : ∃ ao cap, v = .slice ao bs.length cap := (by rcases hown.2 with ⟨hv, h0⟩ | ⟨g, cap, cur, fz, hv, _⟩; exact ⟨none, 0, by rw [hv, h0]⟩; exact ⟨_, _, hv⟩); have c0 : w1.cell? ⟨b, 0, none⟩ = some (.pointer (some ⟨b, 0, none⟩)) := (by rw [Lib.cell_of_heap hbk]; rfl); have c1 : w1.cell? ⟨b, 1, none⟩ = some (.slice ao bs.length cap) := (by rw [Lib.cell_of_heap hbk]; rfl); dsimp only)) | (go_at_call 119; go_must ((with_reducible refine Calls.mono (appendRune_b B _ bs.length bs r hr0 hr1 _ hown hlen (by have := hb1.size; omega)) ?_); rintro e w2 ⟨v', rfl, hown', o, hgrow⟩; have hlt : b < w1.heap.size := lt_of_heap hbk; have hb2 : w2.heap[b]? = some (.cells #[.pointer (some ⟨b, 0, none⟩), .slice ao bs.length cap] 144 (0, 0)) := (by rw [hgrow.block b (by simp; omega) (fun e => hne e.symm), Lib.alloc_old w1 _ b hlt]; exact hbk); have d0 : w2.cell? ⟨b, 0, none⟩ = some (.pointer (some ⟨b, 0, none⟩)) := (by rw [Lib.cell_of_heap hb2]; rfl); have d1 : w2.cell? ⟨b, 1, none⟩ = some (.slice ao bs.length cap) := (by rw [Lib.cell_of_heap hb2]; rfl); have f1 : w2.frozen? ⟨b, 1, none⟩ = false := Lib.frozen_of_heap hb2 1; obtain ⟨g, cap', rfl⟩ : ∃ g cap', v' = .slice (some ⟨g, 0, none⟩) (bs.length + (Lib.runeCells r).length) cap' := (by rcases hown'.2 with ⟨_, h0⟩ | ⟨g, cap', cur, fz, hv, _⟩; omega; exact ⟨g, cap', hv⟩); dsimp only)) | go_step)
 go_ret2
 refine ⟨?_, ?_, ?_, ((hk1.alloc _).grown hgrow (Lib.ownsRowF_kind (hown.alloc _))).setCell ⟨b, 1, none⟩ rfl _⟩
 · have e : ((bs.length : Int) + ((Lib.runeCells r).length : Int) - (bs.length : Int)) = ((Lib.runeCells r).length : Int) := by omega
   simp [e]
 · exact Lib.BuilderAtF.put (T := 144) (e := 5) hB hb2 (bs' := bs ++ Lib.runeCells r) (by simpa using hown') (by decide)
 · exact ((hb1.alloc (by have := hb1.size; omega) _).grown hgrow (by have := hb1.size; simp; omega) (fun k hk => (hown.lt k hk).1)).setCell (p := ⟨b, 1, none⟩) hB _
end Go.Proofs.YteggpddlkkjmjaaGreatDoor
