/- A range over a function whose iterator ranges over another one: a round leaves the marks and records of other loops as they are. No condition. Plain wp theory, no program in sight. -/
import Derived.Test.YtfihjajllfihjaaDoorLeaves
namespace Go.Proofs.YtfihjajllfihjaaDoor
set_option linter.unusedSimpArgs false
set_option linter.unusedVariables false
open Go Go.RowKit
/-- what is no cells stands, from base on, but for one loop's record -/
def KeepE (base l : Nat) (W W' : World) : Prop := ∀ b o, base ≤ b → b ≠ l → W.heap[b]? = some o → o.isCells = false → W'.heap[b]? = some o
theorem KeepE.of_keepN {base l : Nat} {W W' : World} (h : KeepN base W W') : KeepE base l W W' := fun b o hb _ ho hc => h b o hb ho hc
theorem KeepE.trans {base l : Nat} {A B C : World} (h : KeepE base l A B) (k : KeepE base l B C) : KeepE base l A C := fun b o hb hl ho hc => k b o hb hl (h b o hb hl ho hc) hc
theorem KeepE.putObj {base l : Nat} (W : World) (o' : Obj) : KeepE base l W (W.putObj l o') := fun b o _ hl ho _ => (World.putObj_heap_other hl).trans ho
theorem KeepE.keepN {base l : Nat} {W W' : World} (h : KeepE base l W W') {z : Nat} (hz : base ≤ z) (hl : l < z) : KeepN z W W' := fun b o hb ho hc => h b o (Nat.le_trans hz hb) (by omega) ho hc
/-- an iterator's contract, as SeqT; a round leaves what belongs to other loops -/
def SeqN {α : Type} (P : Program) (t : TypeId) (g : Nat) (lb : Array Value) (encs : α → Array Value) (Kp : World → World → Prop) (S : List α → Prop) (G : List α → α → Prop) (w : World) : Prop :=
  ∀ (l : Nat) (J Jx : List α → World → Prop) (W : World), Below w.heap.size w W → w.heap.size ≤ l → l < W.heap.size → Abides t W.heap.size J → Abides t W.heap.size Jx →
    (∀ pre x W1, J pre W1 → G pre x → YieldW P l (encs x) W1 fun e W' =>
      (e = .returned (.bool true) ∧ J (pre ++ [x]) W' ∧ Kp W1 W' ∧ KeepE w.heap.size l W1 W') ∨ (e = .returned (.bool false) ∧ Jx (pre ++ [x]) W' ∧ KeepE w.heap.size l W1 W')) →
    J [] W →
    Calls P g (#[.func (.yield l) #[] #[]] ++ lb) W fun e W' => (∃ v, e = .returned v) ∧ ((∃ xs, S xs ∧ J xs W') ∨ (∃ pre, Jx pre W'))
/-- an iterator that needs less -/
theorem SeqT.seqN {α : Type} {P : Program} {t : TypeId} {g : Nat} {lb : Array Value} {encs : α → Array Value} {Kp : World → World → Prop} {S : List α → Prop} {G : List α → α → Prop} {w : World} (h : SeqT P t g lb encs Kp S G w) : SeqN P t g lb encs Kp S G w :=
  fun l J Jx W hb _ _ hJ hJx hY h0 => h l J Jx W hb hJ hJx (fun pre x W1 h1 h2 => (hY pre x W1 h1 h2).mono fun e W' h => h.imp (fun ⟨e1, e2, e3, _⟩ => ⟨e1, e2, e3⟩) fun ⟨e1, e2, _⟩ => ⟨e1, e2⟩) h0
/-- a range over a function whose iterator may range over another one -/
theorem wp_rangeFuncN {α : Type} {P : Program} {g : Operand} {ps : Array Tmp} {assign body : Code} {Q : Exit → Act → World → Prop} {a : Act} {w : World} (t : TypeId)
    {gf : Nat} {lb : Array Value} (hg : a.eval g = .func (.func gf) #[] lb) (eg : ∀ args w, (callFunc gf args).run P w = .ok (.enter gf args) w)
    {encs : α → Array Value} {Kp : World → World → Prop} {S : List α → Prop} {G : List α → α → Prop} (hseq : SeqN P t gf lb encs Kp S G w)
    (hKt : ∀ {A B C : World}, Kp A B → Kp B C → Kp A C) (hKb : ∀ (W : World) (l : Nat) (o o' : Obj), w.heap.size ≤ l → W.heap[l]? = some o → o.isCells = false → Kp W (W.putObj l o')) (hps : ∀ x, (encs x).size = ps.size)
    (I : List α → World → Prop) (Ix : Code → List α → World → Prop) (hI : Abides t w.heap.size I) (hIx : ∀ c, Abides t w.heap.size (Ix c)) (h0 : I [] w)
    (hround : ∀ (l : Nat) (pre : List α) (x : α) (W : World), w.heap.size ≤ l → (∃ r, W.heap[l]? = some (.loop r)) → I pre W → G pre x →
      assign.wpIn (Wr l) 0 P (Exit.then (fun a' W' => KeepN w.heap.size W W' ∧ Kp W W' ∧ ∀ W2, Begun l W' W2 → body.wpIn (Wr l) 0 P (roundEnd w.heap.size Kp I Ix (pre ++ [x]) W2) a' W2) (fun _ _ _ => False))
        { tmps := putArgs ps (encs x) a.tmps, defers := [] } W)
    (hdone : ∀ (D : Nat) (xs : List α) (W : World), w.heap.size ≤ D → S xs → I xs W → W.heap[D]? = some (.deferred (some [])) → Q .normal { a with defers := { target := .collected D, args := #[] } :: a.defers } W)
    (hstop : ∀ (D : Nat) (c : Code) (pre : List α) (W : World), w.heap.size ≤ D → Ix c pre W → W.heap[D]? = some (.deferred (some [])) → c.wp P Q { a with defers := { target := .collected D, args := #[] } :: a.defers } W) :
    (Code.rangeFunc g ps assign body).wp P Q a w := by
  refine (wpIn_wide (n := 0)).1 (wpIn_rangeFunc ?_)
  intro fn hfn
  show ∃ l mark w₁ d w₁' f args w₂, (Instr.enterLoop fn a.tmps ps assign body none).run P w = .ok (l, mark) w₁ ∧ _
  obtain ⟨rec, hrec⟩ : ∃ rec : LoopState → Option Code → Loop, rec = fun st pe => { state := st, pending := pe, fn, tmps := a.tmps, params := ps, assign, body, defers := w.heap.size } := ⟨_, rfl⟩
  obtain ⟨W1, hW1⟩ : ∃ W1, (w.alloc (.deferred (some []))).alloc (.loop (rec .ready none)) = W1 := ⟨_, rfl⟩
  have hL1 : W1.heap[w.heap.size + 1]? = some (.loop (rec .ready none)) := by
    rw [← hW1]; have := World.alloc_heap_new (w.alloc (.deferred (some []))) (.loop (rec .ready none)); rwa [World.size_alloc] at this
  have hK1 : W1.heap[w.heap.size]? = some (.deferred (some [])) := by
    rw [← hW1]; exact (Below.heap_alloc _ _ _ (by simp)).trans (World.alloc_heap_new w _)
  have hb1 : Below w.heap.size w W1 := by
    rw [← hW1]; exact ((Below.refl _ w).alloc (Nat.le_refl _) _).alloc (by simp) _
  have hI1 : I [] W1 := hI _ _ _ h0 (Turn.of_below hb1)
  have hlt1 : w.heap.size + 1 < W1.heap.size := lt_of_heap hL1
  refine ⟨w.heap.size + 1, [{ target := .collected w.heap.size, args := #[] }], W1, { target := .fn (.func gf) lb, args := #[.func (.yield (w.heap.size + 1)) #[] #[]] }, W1, gf,
    #[.func (.yield (w.heap.size + 1)) #[] #[]] ++ lb, W1, ?_, ?_, ?_, ?_, fun h => (by cases h), ?_⟩
  · rw [← hW1, hrec]; exact run_enterLoop_outer _ _ _ _ _
  · simp only [resolve, hg]
    simp [go_sem]
  · intro f' _; exact trivial
  · simp [invoke, go_sem, eg]
  · refine callsIn_wide.2 ((hseq (w.heap.size + 1)
      (fun pre W => I pre W ∧ W.heap[w.heap.size + 1]? = some (.loop (rec .ready none)) ∧ W.heap[w.heap.size]? = some (.deferred (some [])))
      (fun pre W => ∃ c, Ix c pre W ∧ W.heap[w.heap.size + 1]? = some (.loop (rec .done (some c))) ∧ W.heap[w.heap.size]? = some (.deferred (some [])))
      W1 hb1 (Nat.le_succ _) hlt1
      (fun s A B hs hT => ⟨hI s A B hs.1 (hT.less hb1.size), (hT.low _ (lt_of_heap hs.2.1) hlt1).trans hs.2.1, (hT.low _ (lt_of_heap hs.2.2) (by omega)).trans hs.2.2⟩)
      (fun s A B hs hT => by
        obtain ⟨c, hc, hl, hk⟩ := hs
        exact ⟨c, hIx c s A B hc (hT.less hb1.size), (hT.low _ (lt_of_heap hl) hlt1).trans hl, (hT.low _ (lt_of_heap hk) (by omega)).trans hk⟩)
      ?_ ⟨hI1, hL1, hK1⟩).mono ?_)
    · rintro pre x W ⟨hi, hl, hk⟩ hlen
      have hlt : w.heap.size + 1 < W.heap.size := lt_of_heap hl
      have hy := run_yield (P := P) (args := encs x) hl (by rw [hrec]; exact hps x)
      rw [hrec] at hy
      refine ⟨fn, _, assign, body, hy, roundIn_of_wpIn hfn (Go.wpIn_mono (hround _ pre x W (by omega) ⟨_, hl⟩ hi hlen) ?_)⟩
      clear hy
      intro e a' Wa hq
      cases e with
      | normal =>
        obtain ⟨hkn, hkp, hbody⟩ := hq
        have hl' := hkn _ _ (by omega) hl rfl
        have hk' := hkn _ _ (Nat.le_refl _) hk rfl
        have hlt' : w.heap.size + 1 < Wa.heap.size := lt_of_heap hl'
        refine ⟨_, run_beginRound hl' (by rw [hrec]), ?_⟩
        have hl2 : (Wa.putObj (w.heap.size + 1) (.loop { rec .ready none with state := .busy })).heap[w.heap.size + 1]? = some (.loop { rec .ready none with state := .busy }) := World.putObj_heap_same hlt'
        have hk2 : (Wa.putObj (w.heap.size + 1) (.loop { rec .ready none with state := .busy })).heap[w.heap.size]? = some (.deferred (some [])) := (World.putObj_heap_other (by omega)).trans hk'
        have hw2 : Kp Wa (Wa.putObj (w.heap.size + 1) (.loop { rec .ready none with state := .busy })) := hKb _ _ _ _ (by omega) hl' rfl
        refine Go.wpIn_mono (hbody (Wa.putObj (w.heap.size + 1) (.loop { rec .ready none with state := .busy })) ⟨rfl, rfl, rfl, by simp, fun b hb => World.putObj_heap_other hb, ⟨_, _, hl', hl2⟩⟩) ?_
        have fin : ∀ (jump : Option Code) (W3 : World), KeepN w.heap.size (Wa.putObj (w.heap.size + 1) (.loop { rec .ready none with state := .busy })) W3 →
            (Instr.endRound (w.heap.size + 1) jump).run P W3 = .ok (.bool jump.isNone) (W3.putObj (w.heap.size + 1) (.loop (rec (if jump.isNone then .ready else .done) jump))) ∧
            W3.heap[w.heap.size + 1]? = some (.loop { rec .ready none with state := .busy }) ∧
            (W3.putObj (w.heap.size + 1) (.loop (rec (if jump.isNone then .ready else .done) jump))).heap[w.heap.size + 1]? = some (.loop (rec (if jump.isNone then .ready else .done) jump)) ∧
            (W3.putObj (w.heap.size + 1) (.loop (rec (if jump.isNone then .ready else .done) jump))).heap[w.heap.size]? = some (.deferred (some [])) ∧
            KeepE w.heap.size (w.heap.size + 1) W (W3.putObj (w.heap.size + 1) (.loop (rec (if jump.isNone then .ready else .done) jump))) := fun jump W3 hk3 => by
          have hl3 := hk3 _ _ (by omega) hl2 rfl
          have := run_endRound (P := P) jump hl3
          rw [hrec] at this ⊢
          exact ⟨this, by rw [hrec] at hl3; exact hl3, World.putObj_heap_same (lt_of_heap hl3), (World.putObj_heap_other (by omega)).trans (hk3 _ _ (Nat.le_refl _) hk2 rfl), ((KeepE.of_keepN hkn).trans (KeepE.putObj Wa _)).trans ((KeepE.of_keepN hk3).trans (KeepE.putObj W3 _))⟩
        rintro e a3 W3 hp
        cases e with
        | normal =>
          obtain ⟨hk3, hkp3, hi3⟩ := hp
          obtain ⟨hr, hl3, hl4, hk4, hke⟩ := fin none W3 hk3
          exact ⟨_, _, hr, .inl ⟨rfl, ⟨hI _ _ _ hi3 (Turn.putObj (by omega) hl3 rfl), hl4, hk4⟩, hKt hkp (hKt (hKt hw2 hkp3) (hKb _ _ _ _ (by omega) hl3 rfl)), hke⟩⟩
        | ret =>
          obtain ⟨hk3, hi3⟩ := hp
          obtain ⟨hr, hl3, hl4, hk4, hke⟩ := fin (some .ret) W3 hk3
          exact ⟨_, _, hr, .inr ⟨rfl, ⟨.ret, hIx _ _ _ _ hi3 (Turn.putObj (by omega) hl3 rfl), hl4, hk4⟩, hke⟩⟩
        | exit id =>
          obtain ⟨hk3, hi3⟩ := hp
          obtain ⟨hr, hl3, hl4, hk4, hke⟩ := fin (some (.exit id)) W3 hk3
          exact ⟨_, _, hr, .inr ⟨rfl, ⟨.exit id, hIx _ _ _ _ hi3 (Turn.putObj (by omega) hl3 rfl), hl4, hk4⟩, hke⟩⟩
        | goto t =>
          obtain ⟨hk3, hi3⟩ := hp
          obtain ⟨hr, hl3, hl4, hk4, hke⟩ := fin (some (.goto t)) W3 hk3
          exact ⟨_, _, hr, .inr ⟨rfl, ⟨.goto t, hIx _ _ _ _ hi3 (Turn.putObj (by omega) hl3 rfl), hl4, hk4⟩, hke⟩⟩
        | panic ch => exact hp.elim
        | outgrown => exact hp.elim
      | _ => exact hq.elim
    · rintro e W2 ⟨⟨v, rfl⟩, (⟨xs, hS, hi, hl, hk⟩ | ⟨pre, c, hi, hl, hk⟩)⟩
      · exact ⟨none, _, by have := run_endLoop (P := P) hl (by rw [hrec]; simp); rw [hrec] at this; exact this, hdone _ xs _ (Nat.le_refl _) hS (hI _ _ _ hi (Turn.putObj (by omega) hl rfl)) ((World.putObj_heap_other (by omega)).trans hk)⟩
      · exact ⟨some c, _, by have := run_endLoop (P := P) hl (by rw [hrec]; simp); rw [hrec] at this; exact this, wpIn_wide.2 (hstop _ c pre _ (Nat.le_refl _) (hIx _ _ _ _ hi (Turn.putObj (by omega) hl rfl)) ((World.putObj_heap_other (by omega)).trans hk))⟩

theorem putArgs1 (p : Tmp) (x : Value) (t : Array Value) : putArgs #[p] #[x] t = t.setIfInBounds p x := by
  have hz : ((#[p] : Array Tmp).zip #[x]) = #[(p, x)] := by
    apply Array.toList_inj.1
    simp
  unfold putArgs
  rw [hz]
  simp
/-- such a range that may be broken off: both ways go on alike -/
theorem wp_rangeFuncN_block {α : Type} {P : Program} {id : Nat} {g : Operand} {ps : Array Tmp} {assign body : Code} {Q : Exit → Act → World → Prop} {a : Act} {w : World} (t : TypeId)
    {gf : Nat} {lb : Array Value} (hg : a.eval g = .func (.func gf) #[] lb) (eg : ∀ args w, (callFunc gf args).run P w = .ok (.enter gf args) w)
    {encs : α → Array Value} {Kp : World → World → Prop} {S : List α → Prop} {G : List α → α → Prop} (hseq : SeqN P t gf lb encs Kp S G w)
    (hKt : ∀ {A B C : World}, Kp A B → Kp B C → Kp A C) (hKb : ∀ (W : World) (l : Nat) (o o' : Obj), w.heap.size ≤ l → W.heap[l]? = some o → o.isCells = false → Kp W (W.putObj l o')) (hps : ∀ x, (encs x).size = ps.size)
    (I : List α → World → Prop) (E : World → Prop) (hI : Abides t w.heap.size I) (hE : Abides t w.heap.size (fun (_ : Unit) => E)) (h0 : I [] w)
    (hround : ∀ (l : Nat) (pre : List α) (x : α) (W : World), w.heap.size ≤ l → (∃ r, W.heap[l]? = some (.loop r)) → I pre W → G pre x →
      assign.wpIn (Wr l) 0 P (Exit.then (fun a' W' => KeepN w.heap.size W W' ∧ Kp W W' ∧ ∀ W2, Begun l W' W2 → body.wpIn (Wr l) 0 P (roundEnd w.heap.size Kp I (fun c _ W => c = .exit id ∧ E W) (pre ++ [x]) W2) a' W2) (fun _ _ _ => False))
        { tmps := putArgs ps (encs x) a.tmps, defers := [] } W)
    (hdone : ∀ xs W, S xs → I xs W → E W)
    (hend : ∀ (D : Nat) (W : World), w.heap.size ≤ D → E W → W.heap[D]? = some (.deferred (some [])) → Q .normal { a with defers := { target := .collected D, args := #[] } :: a.defers } W) :
    (Code.block id (Code.rangeFunc g ps assign body)).wp P Q a w := by
  refine wp_block (wp_rangeFuncN t hg eg hseq hKt hKb hps I (fun c _ W => c = .exit id ∧ E W) hI (fun c s A B h hT => ⟨h.1, hE () A B h.2 hT⟩) h0 hround ?_ ?_)
  · intro D xs W hD hS hi hK
    exact hend D W hD (hdone xs W hS hi) hK
  · rintro D c pre W hD ⟨rfl, he⟩ hK
    refine wp_exit ?_
    simp only [Exit.inBlock, if_true]
    exact hend D W hD he hK
/-! ### a region of a round that calls another loop's yield -/
section
variable {l n m : Nat} {P : Program} {o : Oper} {a : Act} {w : World} {K : Act → World → Prop} {Q : Exit → Act → World → Prop} {ops : Array Oper}
theorem roundIn_r {l' : Nat} {f : FuncId} {tmps : Array Value} {assign body : Code} {R : Ending → World → Prop} (h : RoundIn Fence.wide m P l' f tmps assign body w R) : RoundIn (Wr l) n P l' f tmps assign body w R :=
  ⟨h.1, fun c cs _ => h.2 c cs (room_wide _)⟩
theorem Oper.wpIn_of_wide (hd : noDefer o = true) (h : o.wpIn Fence.wide m P a w K Q) : o.wpIn (Wr l) n P a w K Q := by
  refine ⟨fun _ _ => trivial, ?_⟩
  show o.uponIn (Wr l) n P a K Q ((o.semAt (some l) a.eval).run P w)
  rw [semAt_noDefer hd]
  have h3 : o.uponIn Fence.wide m P a K Q ((execOp a.eval o).run P w) := h.2
  clear h
  generalize (execOp a.eval o).run P w = r at h3
  cases r with
  | ok x w' =>
    cases x with
    | value v => exact h3
    | skip => exact h3
    | defer d => exact h3
    | enter f args => exact ⟨fun h => (by cases h), callsIn_r.2 (callsIn_wide.1 h3.2)⟩
    | row r args => exact ⟨fun h => (by cases h), fun c cs _ => h3.2 c cs (room_wide _)⟩
    | round l' f tmps assign body => exact ⟨fun h => (by cases h), roundIn_r h3.2⟩
    | _ => exact (h3 : False).elim
  | halt x w' =>
    cases x with
    | panic v => exact h3
    | _ => exact (h3 : False).elim
theorem wpOpsIn_of_wide (hd : ∀ (i : Nat) (o : Oper), ops[i]? = some o → noDefer o = true) : ∀ (L : List Nat) (a : Act) (w : World), wpOpsIn Fence.wide m P ops Q L a w → wpOpsIn (Wr l) n P ops Q L a w := by
  intro L
  induction L with
  | nil => intro a w h; exact h
  | cons i rest ih =>
    intro a w h
    unfold wpOpsIn at h ⊢
    cases ho : ops[i]? with
    | none => rw [ho] at h; exact ih _ _ h
    | some o =>
      rw [ho] at h
      simp only at h ⊢
      by_cases hw : Region.wanted o (yielded ops a.tmps) = true
      · rw [if_pos hw] at h ⊢
        have h2 := Oper.wpIn_of_wide (l := l) (n := n) (hd i o ho) h
        exact Oper.wpIn_mono (fun a' w' h' => ih a' w' h') h2
      · rw [if_neg hw] at h ⊢
        exact ⟨fun _ _ => trivial, ih _ _ h.2⟩
theorem wpIn_region_wide {id : Nat} {L : List Oper} (hd : L.all noDefer = true) (h : wpListIn Fence.wide 0 P L.toArray Q L a w) : (Code.region id L.toArray false).wpIn (Wr l) n P Q a w := by
  refine wpIn_region (wpOpsIn_of_wide (m := 0) (noDefer_all hd) _ _ _ ?_)
  rw [List.range_eq_range', ← Array.length_toList, wpOpsIn_eq_wpListIn L.toArray.toList 0 (by simp)]
  simpa using h
end
end Go.Proofs.YtfihjajllfihjaaDoor
