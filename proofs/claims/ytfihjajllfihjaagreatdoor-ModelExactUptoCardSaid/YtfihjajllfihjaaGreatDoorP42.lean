/- Arguments opened: calls of chapter 5, and rows of them. No condition. Chapter 5: one call of any kind, and what it leaves. Conditions: the model, its row and the reasons lie in memory, fewer than 2^20 elements. A region whose order is open, walked in one order in two parts: behind the first one all old memory stands. No condition. Plain wp theory, no program in sight. barrowlaw05.ModelExact: the walk: it returns true, old memory stands. Conditions: the row, the calls and the reasons lie in memory, the numbers fit their kinds. Arguments opened: rows of calls of chapter 5. No condition. -/
import Derived.Test.YtfihjajllfihjaaGreatDoorP30
import Derived.Test.YtfihjajllfihjaaGreatDoorP15
import Derived.Test.YtfihjajllfihjaaGreatDoorSDoes5b
import Derived.Test.YtfihjajllfihjaaGreatDoorSDoes5c
import Derived.Test.YtfihjajllfihjaaGreatDoorSRegion
import Derived.Test.YtfihjajllfihjaaGreatDoorP28
namespace Go.Proofs.YtfihjajllfihjaaGreatDoor
set_option linter.unusedSimpArgs false
set_option linter.unusedVariables false
open Go Go.RowKit Go.ChangeShapes Go.WideShapes Go.ChangeAt Go.Deep
/-- a call -/
structure Op5 where
  do_ : Int
  i : Int
  n : Int
  e : El
def Op5.cells (o : Op5) : List Value := [.int .i64 o.do_, .int .i64 o.i, .int .i64 o.n, .int .i64 o.e.epoch, .int .i64 o.e.rep, .int .i64 o.e.num, .int .i32 o.e.char, .int .i64 o.e.hides]
instance : Enc Op5 where
  k := 8
  cells := Op5.cells
  len _ := rfl
  one := by
    intro a u hu
    simp only [Op5.cells, List.mem_cons, List.not_mem_nil, or_false] at hu
    rcases hu with rfl | rfl | rfl | rfl | rfl | rfl | rfl | rfl <;> rfl
instance : Inhabited Op5 := ⟨⟨0, 0, 0, ⟨0, 0, 0, 0, 0⟩⟩⟩
structure Op5.In (o : Op5) : Prop where
  do_ : I64 o.do_
  i : I64 o.i
  n : I64 o.n
  e : o.e.In
set_option maxRecDepth 20000 in
theorem op5_of_trod {H : Type} {enc : TypeId × Value → H} {w : World} {base : Nat} {spare : Nat → Bool} {held : Bool} {fuel : Nat} {cs : List Value} {x : DataW H × List MemPlace} (hl : cs.length = 8) (h : DataW.trod enc Tryz.prog w base spare held fuel 34 cs = some x) : ∃ o : Op5, cs = o.cells ∧ o.In := by
  obtain ⟨xs, n, _, _, _, hxl, hf⟩ := DataW.trod_struct Tryz.underlying34 h
  match cs, hl with
  | [v0, v1, v2, v3, v4, v5, v6, v7], _ =>
    have c3 : Tryz.prog.cellsOf 3 = 1 := by kernel_rfl
    have c5 : Tryz.prog.cellsOf 32 = 5 := by kernel_rfl
    match xs, hxl with
    | [y0, y1, y2, y3], _ =>
      have g0 := hf 0 _ rfl
      have g1 := hf 1 _ rfl
      have g2 := hf 2 _ rfl
      have g3 := hf 3 _ rfl
      simp [c3, c5] at g0 g1 g2 g3
      obtain ⟨n0, e0, q0⟩ := one_of_trod Tryz.underlying3 g0 rfl
      obtain ⟨n1, e1, q1⟩ := one_of_trod Tryz.underlying3 g1 rfl
      obtain ⟨n2, e2, q2⟩ := one_of_trod Tryz.underlying3 g2 rfl
      obtain ⟨e, he, hin⟩ := el_of_trod rfl g3
      injection e0 with e0
      injection e1 with e1
      injection e2 with e2
      simp only [El.cells, List.cons.injEq, and_true] at he
      obtain ⟨rfl, rfl, rfl, rfl, rfl⟩ := he
      subst e0 e1 e2
      exact ⟨⟨n0, n1, n2, e⟩, rfl, wf_i64 q0, wf_i64 q1, wf_i64 q2, hin⟩
end Go.Proofs.YtfihjajllfihjaaGreatDoor
namespace Go.Proofs.YtfihjajllfihjaaGreatDoor
set_option linter.unusedSimpArgs false
set_option linter.unusedVariables false
open Go Go.RowKit
variable {a : Nat → Addr}
theorem wrongOf_le9 (l : List El) (e : El) : wrongOf l e ≤ 9 := by
  unfold wrongOf
  repeat' split
  all_goals omega
theorem does_any (w : World) (pb mb : Nat) (S S' : Nat → Prop) (l : List El) (K base : Nat) (do_ n : Int) (e : El) (hP : MPair w pb mb S l K base) (hl : l.length ≤ 1048000) (hK : K ≤ 1099511627776) (hs : Sents w S' a) (hsb : ∀ b, S' b → b < base) (hin : e.In) (i : Int) (hi : -9223372036854775808 ≤ i ∧ i ≤ 9223372036854775807) : Calls Tryz.prog 9 #[.pointer (some ⟨pb, 0, none⟩), .agg #[.int .i64 do_, .int .i64 i, .int .i64 n, .int .i64 e.epoch, .int .i64 e.rep, .int .i64 e.num, .int .i32 e.char, .int .i64 e.hides]] w fun r w' => r = .returned (.bool true) ∧ Did w w' pb mb S l K base := by
  obtain ⟨q, hq, hq0, hq11⟩ : ∃ q, do_ % 11 = q ∧ 0 ≤ q ∧ q < 11 := ⟨_, rfl, by omega, by omega⟩
  rcases (show q = 0 ∨ q = 1 ∨ q = 2 ∨ q = 3 ∨ q = 4 ∨ q = 5 ∨ q = 6 ∨ q = 7 ∨ q = 8 ∨ q = 9 ∨ q = 10 from by omega) with rfl | rfl | rfl | rfl | rfl | rfl | rfl | rfl | rfl | rfl | rfl
  · by_cases h : i < 0 ∨ (l.length : Int) < i
    · exact does0_range (a := a) w pb mb S S' l K base do_ n e hP hl hK hs hsb hin i hq h
    · obtain ⟨k, rfl⟩ := Int.eq_ofNat_of_zero_le (show 0 ≤ i by omega)
      by_cases hw : wrongOf l e = 0
      · exact does0_ok w pb mb S S' l K base do_ n e hP hl hK hs hsb hin hq k (by omega) hw
      · exact does0_wrong (a := a) w pb mb S S' l K base do_ n e hP hl hK hs hsb hin hq k (wrongOf l e) (by omega) rfl (by omega) (by have := wrongOf_le9 l e; omega)
  · by_cases h : i < 0 ∨ (l.length : Int) ≤ i
    · exact does1_range (a := a) w pb mb S S' l K base do_ n e hP hl hK hs hsb hin i hq h
    · obtain ⟨k, rfl⟩ := Int.eq_ofNat_of_zero_le (show 0 ≤ i by omega)
      have hk : k < l.length := by omega
      have he0 := List.getElem?_eq_getElem hk
      by_cases hn : n = 1 ∨ n = -1
      · rcases hf : fairH (l[k].hides + n) with _ | _
        · exact does1_arg (a := a) w pb mb S S' l K base do_ n e hP hl hK hs hsb hin hq k _ he0 hn hf
        · exact does1_ok w pb mb S S' l K base do_ n e hP hl hK hs hsb hin hq k _ he0 hn hf
      · exact does1_by (a := a) w pb mb S S' l K base do_ n e hP hl hK hs hsb hin hq k _ he0 (fun h => hn (.inl h)) (fun h => hn (.inr h))
  · by_cases h : i < 0 ∨ (l.length : Int) ≤ i
    · exact does2_no (a := a) w pb mb S S' l K base do_ n e hP hl hK hs hsb hin i hq h
    · obtain ⟨k, rfl⟩ := Int.eq_ofNat_of_zero_le (show 0 ≤ i by omega)
      have hk : k < l.length := by omega
      exact does2_ok w pb mb S S' l K base do_ n e hP hl hK hs hsb hin hq k _ (List.getElem?_eq_getElem hk)
  · by_cases h : e.nm ∈ l.map El.nm
    · exact does3_yes w pb mb S S' l K base do_ n e hP hl hK hs hsb hin i hq h
    · exact does3_no w pb mb S S' l K base do_ n e hP hl hK hs hsb hin i hq h
  · exact does4_any (a := a) w pb mb S S' l K base do_ n e hP hl hK hs hsb hin i hq trivial
  · exact does5_any (a := a) w pb mb S S' l K base do_ n e hP hl hK hs hsb hin i hq trivial
  · exact does6_any (a := a) w pb mb S S' l K base do_ n e hP hl hK hs hsb hin i hq trivial
  · exact does7_any (a := a) w pb mb S S' l K base do_ n e hP hl hK hs hsb hin i hq trivial
  · exact does8_any (a := a) w pb mb S S' l K base do_ n e hP hl hK hs hsb hin i hq hi
  · exact does9_any w pb mb S S' l K base do_ n e hP hl hK hs hsb hin i hq
  · exact does10_any w pb mb S S' l K base do_ n e hP hl hK hs hsb hin i hq trivial
/-- one call changes nothing that was there ahead of the pair -/
theorem Did.below {w0 X w' : World} {pb mb K base : Nat} {S : Nat → Prop} {l : List El} (hP : MPair X pb mb S l K base) (h : Did X w' pb mb S l K base) (hb : Below base w0 X) (hz : base ≤ w0.heap.size) : Below base w0 w' := by
  obtain ⟨S', l', K', h1, h2, h3, h4, h5, h6⟩ := h
  obtain ⟨A, c, -, -, -, hS, hbp, -⟩ := hP
  refine h5.below hb hz fun b hb => ?_
  rcases hb with hb | hb
  · exact (hS b hb).1
  · omega
end Go.Proofs.YtfihjajllfihjaaGreatDoor
namespace Go.Proofs.YtfihjajllfihjaaGreatDoor
set_option linter.unusedSimpArgs false
set_option linter.unusedVariables false
open Go Go.RowKit
section
variable {T : Nat → Prop} {P : Program} {ops : Array Oper} {Q : Exit → Act → World → Prop} {md : Region.Mode}
theorem Keep.mono {T T' : Nat → Prop} {t : Bool} {w w' : World} {X Y : Prop} (hT : ∀ b, T b → T' b) (hXY : X → Y) (h : Keep T' t w w' X) : Keep T t w w' Y := by
  unfold Keep at h ⊢
  exact ⟨h.1.imp id fun k => ⟨k.size, fun b hb ht => k.block b hb (hT b ht)⟩, hXY h.2⟩
theorem wpAnyB_less {T' : Nat → Prop} (hT : ∀ b, T b → T' b) : ∀ (fuel : Nat) (listed : Array Bool) (a : Act) (w : World), wpAnyB T' P md ops Q fuel listed a w → wpAnyB T P md ops Q fuel listed a w
  | 0, _, _, _, h => h
  | fuel + 1, _, _, _, h => ⟨h.1, fun i hi => wpOp_mono (fun _ _ h' => ⟨h'.1.imp id fun k => ⟨k.size, fun b hb ht => k.block b hb (hT b ht)⟩, wpAnyB_less hT fuel _ _ _ h'.2⟩) (h.2 i hi)⟩
/-- Q, but on at the end -/
def TwoQ (Q : Exit → Act → World → Prop) (X : Act → World → Prop) : Exit → Act → World → Prop
  | .normal, a, w => X a w
  | e, a, w => Q e a w
theorem TwoQ.go {X : Act → World → Prop} {a : Act} {w : World} (h : X a w) : TwoQ Q X .normal a w := h
/-- the first part of an order: what is listed behind it -/
def orderTo (md : Region.Mode) (ops : Array Oper) : List (Nat × Bool × Bool) → Array Bool → Option (Array Bool)
  | [], listed => some listed
  | (i, true, _) :: rest, listed => if (Region.ready md ops listed).contains i && Region.free md ops listed i then orderTo md ops rest (listed.setIfInBounds i true) else none
  | (i, false, _) :: rest, listed => if Region.ready md ops listed == [i] then orderTo md ops rest (listed.setIfInBounds i true) else none
theorem wp_two {o : Oper} {a : Act} {w : World} {K : Act → World → Prop} {X : Act → World → Prop} (h : o.wp P a w K (TwoQ Q X)) (hQ : ∀ c a w, ¬ Q (.panic c) a w) : o.wp P a w K Q := by
  unfold Oper.wp at h ⊢
  generalize (execOp a.eval o).run P w = r at h
  cases r with
  | ok x w' =>
    cases x with
    | value v => exact h
    | skip => exact h
    | defer d => exact h
    | enter f args => exact h
    | row r args => exact h
    | _ => exact (h : False).elim
  | halt x w' =>
    cases x with
    | panic v => exact h
    | _ => exact (h : False).elim
theorem wpAnyB_two (hsel : Region.noSelect ops = true) (hQ : ∀ c a w, ¬ Q (.panic c) a w) (X : Act → World → Prop) (fin : Array Bool) (fz : Nat) (hX : ∀ fuel a w, fz ≤ fuel → X a w → wpAnyB T P md ops Q fuel fin a w) :
    ∀ (order : List (Nat × Bool × Bool)) (l : List (Oper × Bool × Bool)) (fuel : Nat) (listed : Array Bool) (a : Act) (w : World),
      opsOf ops.toList order = some l → order.length + fz ≤ fuel → orderTo md ops order listed = some fin → (∀ x ∈ l, x.2.2 = false) → WpH T P ops (TwoQ Q X) l a w → wpAnyB T P md ops Q fuel listed a w := by
  intro order
  induction order with
  | nil =>
    intro l fuel listed a w hl hz hok _ h
    have hl' : l = [] := by simpa [opsOf] using hl.symm
    subst hl'
    simp only [orderTo, Option.some.injEq] at hok
    subst hok
    unfold WpH at h
    exact hX fuel a w (by simpa using hz) h
  | cons x order ih =>
    obtain ⟨i, c, t⟩ := x
    intro l fuel listed a w hl hf hok hlast h
    obtain ⟨fuel, rfl⟩ : ∃ f, fuel = f + 1 := ⟨fuel - 1, by simp at hf; omega⟩
    unfold opsOf at hl
    rw [nthOp_eq, Array.getElem?_toList] at hl
    cases ho : ops[i]? with
    | none => rw [ho] at hl; cases hl
    | some o =>
      cases hrest : opsOf ops.toList order with
      | none => rw [ho, hrest] at hl; cases hl
      | some l' =>
        rw [ho, hrest] at hl
        injection hl with hl
        subst hl
        have hf' : order.length + fz ≤ fuel := by simp at hf; omega
        have hlast' : ∀ x ∈ l', x.2.2 = false := fun x hx => hlast x (List.mem_cons_of_mem _ hx)
        have ht0 : t = false := hlast _ List.mem_cons_self
        subst ht0
        cases c with
        | true =>
          simp only [orderTo] at hok
          split at hok
          · next hc =>
            simp only [Bool.and_eq_true, List.contains_iff_mem] at hc
            obtain ⟨hr, hfr⟩ := hc
            unfold WpH at h
            rcases h with ⟨hw, h⟩ | ⟨hw, v, hv, h⟩
            · exact wpAnyB_first ho (Region.noSelect_spec hsel) (fun c a w hq => (hQ _ _ _ hq).elim) fuel listed a w (Region.free_spec ho hfr) hr (.inr ⟨hw, rfl⟩) (ih l' fuel _ _ _ hrest hf' hok hlast' h)
            · refine wpAnyB_first ho (Region.noSelect_spec hsel) (fun c a w hq => (hQ _ _ _ hq).elim) fuel listed a w (Region.free_spec ho hfr) hr (.inl ⟨hw, fun w' hs => ?_⟩) (ih l' fuel _ _ _ hrest hf' hok hlast' h)
              rcases hv with hv | ⟨hld, hv⟩
              · exact hv w'
              · exact hv w' (hs hld)
          · cases hok
        | false =>
          simp only [orderTo] at hok
          split at hok
          · next hc =>
            have hr : Region.ready md ops listed = [i] := by simpa using hc
            refine ⟨fun h0 => (by rw [hr] at h0; cases h0), fun j hj => ?_⟩
            rw [hr] at hj
            obtain rfl : j = i := by simpa using hj
            unfold wpOp
            simp only [ho]
            unfold WpH at h
            by_cases hw : Region.wanted o (yielded ops a.tmps) = true
            · rw [if_pos hw] at h ⊢
              refine .inl (Oper.wp_mono (fun a' w' h' => ?_) (wp_two h hQ))
              unfold Keep at h'
              refine ⟨?_, ih l' fuel _ _ _ hrest hf' hok hlast' h'.2⟩
              rcases h'.1 with h0 | h0
              · cases h0
              · exact .inr h0
            · rw [if_neg hw] at h ⊢
              exact ⟨.inr (KeepT.refl _ _), ih l' fuel _ _ _ hrest hf' hok hlast' h⟩
          · cases hok
/-- both parts fit -/
def phasesOk (md : Region.Mode) (ops : Array Oper) (o1 o2 : List (Nat × Bool × Bool)) (listed : Array Bool) : Bool :=
  (o1.all fun x => !x.2.2) && match orderTo md ops o1 listed with
  | some l => orderOk md ops o2 l
  | none => false
theorem opsOf_last {L : List Oper} : ∀ {o : List (Nat × Bool × Bool)} {l : List (Oper × Bool × Bool)}, opsOf L o = some l → (o.all fun x => !x.2.2) = true → ∀ x ∈ l, x.2.2 = false := by
  intro o
  induction o with
  | nil => intro l h _ x hx; simp only [opsOf, Option.some.injEq] at h; subst h; cases hx
  | cons y o ih =>
    intro l h ha x hx
    obtain ⟨i, c, t⟩ := y
    unfold opsOf at h
    cases hn : nthOp L i with
    | none => rw [hn] at h; cases h
    | some u =>
      cases hr : opsOf L o with
      | none => rw [hn, hr] at h; cases h
      | some l' =>
        rw [hn, hr] at h
        injection h with h
        subst h
        simp only [List.all_cons, Bool.and_eq_true, Bool.not_eq_true'] at ha
        rcases List.mem_cons.1 hx with rfl | hx
        · exact ha.1
        · exact ih hr ha.2 x hx
/-- **a region that draws its order, in one order of two parts** -/
theorem wp_region_phases (T : Nat → Prop) {id : Nat} {a : Act} {w : World} {L : List Oper} (o1 o2 : List (Nat × Bool × Bool)) {l1 l2 : List (Oper × Bool × Bool)} (hm : P.follows .mixedOrders = true)
    (hs : Region.noSelect L.toArray = true) (hok : phasesOk .any L.toArray o1 o2 (Array.replicate L.length false) = true) (hlen : o1.length + o2.length = L.length)
    (hl1 : opsOf L o1 = some l1) (hl2 : opsOf L o2 = some l2) (h : WpH T P L.toArray (TwoQ (NoP Q) (WpH (fun _ => True) P L.toArray (NoP Q) l2)) l1 a w.drew) : (Code.region id L.toArray true).wp P Q a w := by
  have hnp : ∀ c a w, ¬ NoP Q (.panic c) a w := fun _ _ _ h => by unfold NoP at h; exact h
  unfold phasesOk at hok
  simp only [Bool.and_eq_true] at hok
  obtain ⟨ha, hok⟩ := hok
  cases hf : orderTo .any L.toArray o1 (Array.replicate L.length false) with
  | none => rw [hf] at hok; cases hok
  | some fin =>
    rw [hf] at hok
    refine Code.wp_mono NoP.imp (wp_region_any hm (wpAny_of_B (T := T) _ _ _ _ (wpAnyB_two hs hnp _ fin o2.length (fun fuel a w hz hX => wpAnyB_less (T' := fun _ => True) (fun _ _ => trivial) _ _ _ _ (wpAnyB_of_H hs hnp o2 l2 fuel fin a w (by simpa using hl2) hz hok hX)) o1 l1 L.toArray.size _ _ _ (by simpa using hl1) (by simp; omega) hf (opsOf_last hl1 ha) h)))
end
end Go.Proofs.YtfihjajllfihjaaGreatDoor
namespace Go.Proofs.YtfihjajllfihjaaGreatDoor
set_option linter.unusedSimpArgs false
set_option linter.unusedVariables false
open Go Go.RowKit
variable {a : Nat → Addr}
theorem MPair.drew {w : World} {pb mb K base : Nat} {S : Nat → Prop} {l : List El} (h : MPair w pb mb S l K base) : MPair w.drew pb mb S l K base := h.step ((Below.refl _ _).drew)
theorem MPair.open_ {w : World} {pb mb K base : Nat} {S : Nat → Prop} {l : List El} (h : MPair w pb mb S l K base) :
    ∃ A c, w.cell? ⟨pb, 0, none⟩ = some (.pointer (some ⟨mb, 0, none⟩)) ∧ w.cell? ⟨pb, 1, none⟩ = some (.slice A l.length c) ∧ pb < w.heap.size ∧ Row w (fun _ => True) A l.length c l := by
  obtain ⟨A, c, hB, hr, -⟩ := h
  have h0 := hB.cell 0
  have h1 := hB.cell 1
  simp at h0 h1
  exact ⟨A, c, h0, h1, hB.lt, hr.more fun _ _ _ => trivial⟩
theorem MPair.low {w : World} {pb mb K base : Nat} {S : Nat → Prop} {l : List El} (h : MPair w pb mb S l K base) {b : Nat} (hb : b < base) : ¬ (S b ∨ b = pb) := by
  obtain ⟨A, c, -, -, -, hS, hbp, -⟩ := h
  rintro (h | h)
  · have := (hS b h).1; omega
  · omega
set_option maxRecDepth 100000 in
set_option maxHeartbeats 4000000 in
theorem mexact_no (w : World) (A B : Option Addr) (n c m d j : Nat) (ls : List El) (ej : El) (S S' : Nat → Prop) (hr : Row w S A n c ls) (hg : AllRight ((ls.take (min n 100)).take j)) (hj : (ls.take (min n 100))[j]? = some ej) (hw : wrongS (((ls.take (min n 100)).take j).map El.nm) ej ≠ 0) (hin : ∀ e ∈ ls, e.In) (hs : Sents w S' a) :
    Calls Tryz.prog 3 #[.slice A n c, .slice B m d] w fun e w' => e = .returned (.bool true) ∧ Below w.heap.size w w' := by
  have HB := hid (begun5_no w A n c j ls ej S S' hr hg hj hw hin hs)
  have HK := hid wakes5_any
  clear hr hg hj hw hin hs
  go_enter Tryz.func3, Tryz.ntmps3
  repeat' (first | (go_at_call 7; go_must ((with_reducible refine Calls.mono HB.out ?_); rintro _ w1 ⟨rfl, hb1⟩; dsimp only)) | (go_at_call 8; go_must ((with_reducible refine Calls.mono (HK.out _) ?_); rintro _ w9 ⟨rfl, hb9⟩; dsimp only)) | go_values | go_skip | go_guarded | go_step | go_upon | go_back)
  (all_goals (try trace_state))
  go_ret
  exact ⟨rfl, bvia hb1 hb9⟩
set_option maxRecDepth 100000 in
set_option maxHeartbeats 8000000 in
theorem mexact_ok (w : World) (A B : Option Addr) (n c m d : Nat) (ls : List El) (os : List Op5) (S S' SO : Nat → Prop) (hr : Row w S A n c ls) (ho : GRow w SO B m d os) (hio : ∀ o ∈ os, o.In) (hg : AllRight (ls.take (min n 100))) (hin : ∀ e ∈ ls, e.In) (hs : Sents w S' a) :
    Calls Tryz.prog 3 #[.slice A n c, .slice B m d] w fun e w' => e = .returned (.bool true) ∧ Below w.heap.size w w' := by
  have HB := hid (begun5_ok w A n c ls S hr hg hin)
  have HK := hid wakes5_any
  have hL : (ls.take (min n 100)).length ≤ 100 := by rw [List.length_take]; omega
  generalize ls.take (min n 100) = L at *
  have Hs := hid hs.narrow
  have Ho := hid (ho.more (S' := fun b => b < w.heap.size) fun b h _ => h)
  have Hio := hid hio
  have hmm := ho.len_le
  unfold maxLen at hmm
  clear hr hg hin hs ho hio
  go_enter Tryz.func3, Tryz.ntmps3
  repeat' (first | (go_at_call 7; go_must ((with_reducible refine Calls.mono HB.out ?_); rintro _ w1 ⟨⟨pb, mb, SM, rfl, hP⟩, hb1⟩; dsimp only)) | go_values | go_skip | go_guarded | go_step | go_upon | go_back)
  go_loopw [7] (fun i wr => ∃ (k : Nat) (l : List El) (S : Nat → Prop) (K : Nat), i = .int .i64 k ∧ k ≤ m ∧ k ≤ 200 ∧ MPair wr pb mb S l K w.heap.size ∧ l.length ≤ 100 + k ∧ K ≤ 100 + k ∧ Below w.heap.size w wr) (fun i _ => m - (intOf i).toNat)
  case atStart => exact ⟨0, L, SM, L.length, rfl, Nat.zero_le _, Nat.zero_le _, hP, hL, hL, hb1⟩
  case round =>
    clear hP hb1
    obtain ⟨k, l, S, K, rfl, hk, hk2, hP, hl, hK, hbr⟩ := hrel
    by_cases hlt : k < m ∧ k < 200
    · obtain ⟨hlt1, hlt2⟩ := hlt
      have hlt2' : (k : Int) < 200 := by omega
      obtain ⟨b, off, o, rfl, hSb, hbl, hok, hcell⟩ := (Ho.out.step hbr).at_ hlt1
      have io := Hio.out o (List.mem_of_getElem? hok)
      have c0 : wr.drew.cell? ⟨b, off + k * 8, none⟩ = some (.int .i64 o.do_) := hcell 0 _ rfl
      have c1 : wr.drew.cell? ⟨b, off + k * 8 + 1, none⟩ = some (.int .i64 o.i) := hcell 1 _ rfl
      have c2 : wr.drew.cell? ⟨b, off + k * 8 + 2, none⟩ = some (.int .i64 o.n) := hcell 2 _ rfl
      have c3 : wr.drew.cell? ⟨b, off + k * 8 + 3, none⟩ = some (.int .i64 o.e.epoch) := hcell 3 _ rfl
      have c4 : wr.drew.cell? ⟨b, off + k * 8 + 4, none⟩ = some (.int .i64 o.e.rep) := hcell 4 _ rfl
      have c5 : wr.drew.cell? ⟨b, off + k * 8 + 5, none⟩ = some (.int .i64 o.e.num) := hcell 5 _ rfl
      have c6 : wr.drew.cell? ⟨b, off + k * 8 + 6, none⟩ = some (.int .i32 o.e.char) := hcell 6 _ rfl
      have c7 : wr.drew.cell? ⟨b, off + k * 8 + 7, none⟩ = some (.int .i64 o.e.hides) := hcell 7 _ rfl
      obtain ⟨cs, u, z, hH⟩ := cell_obj c0
      have HD := hid (does_any (a := a) wr.drew pb mb S (fun b => b < w.heap.size) l K w.heap.size o.do_ o.n o.e hP.drew (by omega) (by omega) (Hs.out.step hbr).drew (fun b h => h) io.e o.i io.i)
      have HPd := hid hP.drew
      clear hcell hP io hok
      repeat' (first | ((with_reducible refine region_at 7 ?_); refine wp_region_phases (fun b => b < w.heap.size) [(0, true, false), (1, true, false), (2, true, false), (3, true, false), (4, true, false), (5, false, false)] [(6, true, false), (7, true, false), (8, true, false), (9, true, false), (10, true, false), (11, true, false), (13, true, false), (14, true, false), (15, true, false), (16, true, false), (17, true, false), (12, false, false), (18, true, false), (19, true, false), (20, true, false), (21, true, false), (22, true, false), (23, true, false), (24, true, false), (26, true, false), (27, true, false), (28, true, false), (29, true, false), (25, false, false), (30, false, false), (31, true, false), (32, true, false), (33, true, false)] (by kernel_rfl) (by kernel_rfl) (by kernel_rfl) rfl rfl rfl ?_) | ((with_reducible refine WpH.here ?_); refine WpH.nil ?_; refine TwoQ.go ?_) | ((with_reducible refine WpH.here ?_); refine WpH.wild2 (by rfl) (fun _ _ => ?_)) | (go_at_call 9; go_must ((with_reducible refine Calls.mono HD.out ?_); rintro _ w3 ⟨rfl, hD3⟩; have hbw3 := Did.below HPd.out hD3 (hbr.drew) (Nat.le_refl _); obtain ⟨S3, l3, K3, hP3, hl3, hK3, -, hO3, -⟩ := hD3; have hk3 : KeepT (fun b => b < w.heap.size) wr.drew w3 := ⟨hO3.size, fun b h1 h2 => hO3.block b h1 (HPd.out.low h2)⟩; obtain ⟨A3, c3, q0, q1, ql, hrow3⟩ := hP3.open_; have HN := hid (mlen_any w3 S3 mb l3 K3 hP3.mdl); have HV := hid (mlive_any w3 S3 mb l3 K3 hP3.mdl); have HP3 := hid (And.intro hP3 (And.intro hl3 hK3)); have Hrow3 := hid hrow3; clear hrow3 hO3 hP3 hl3 hK3; dsimp only)) | (go_at_call 10; go_must ((with_reducible refine Calls.mono HN.out ?_); rintro _ _ ⟨rfl, rfl⟩; dsimp only)) | (go_at_call 11; go_must ((with_reducible refine Calls.mono HV.out ?_); rintro _ w4 ⟨rfl, hb4⟩; have hP4 := HP3.out.1.step hb4; have hll3 := HP3.out.2.1; have HS := hid (refSum_any A3 l3.length c3 l3 _ w4 (Hrow3.out.step hb4) (by omega)); clear hll3; dsimp only)) | (go_at_call 12; go_must ((with_reducible refine Calls.mono HS.out ?_); rintro _ w5 ⟨rfl, hb5⟩; dsimp only)) | (with_reducible refine Keep.last ?_) | (with_reducible refine Keep.below (by assumption) ?_) | (with_reducible refine Keep.kept (by assumption) ?_) | (with_reducible refine Keep.alloc ?_) | (with_reducible refine Keep.same ?_) | ((with_reducible refine WpH.here ?_); first | (refine WpH.nil ?_; refine NoP.normal ?_) | (refine WpH.load (by rfl) (by rfl) (by go_simp; rfl) ?_; simp only [Act.put, List.setIfInBounds_toArray, List.set_cons_zero, List.set_cons_succ]) | (refine WpH.loadT (by rfl) (by rfl) (by go_simp; rfl) (by rintro _ _ ⟨⟩; exact ⟨_, _, _, _, _, _, by rfl, by assumption, by assumption⟩) ?_; simp only [Act.put, List.setIfInBounds_toArray, List.set_cons_zero, List.set_cons_succ]) | (refine WpH.pure (by rfl) (fun w_ => by go_simp; (try go_bits); rfl) ?_; simp only [Act.put, List.setIfInBounds_toArray, List.set_cons_zero, List.set_cons_succ]) | (refine WpH.wild1 (by rfl) (fun _ _ => ?_)) | (refine WpH.skip (by rfl) ?_; simp only [Act.put, List.setIfInBounds_toArray, List.set_cons_zero, List.set_cons_succ])) | go_values | go_skip | go_guarded | go_step | go_upon | go_back)
      (all_goals (try trace_state))
      go_roundw
      case rel =>
        obtain ⟨-, hl3, hK3⟩ := HP3.out
        exact ⟨k + 1, l3, S3, K3, by go_num, by omega, by omega, hP4.step hb5, by omega, by omega, bvia (bvia hbw3 hb4) hb5⟩
      case measure => simp [intOf]; omega
    · have HC := hid (same5_any wr pb mb S l K w.heap.size hP (by omega))
      have hcond : ¬ (k : Int) < m ∨ ((k : Int) < m ∧ ¬ (k : Int) < 200) := by omega
      clear hlt
      rcases hcond with h0 | ⟨h0, h1⟩
      all_goals
        repeat' (first | (go_at_call 13; go_must ((with_reducible refine Calls.mono HC.out ?_); rintro _ w8 ⟨rfl, hb8⟩; dsimp only)) | (go_at_call 8; go_must ((with_reducible refine Calls.mono (HK.out _) ?_); rintro _ w9 ⟨rfl, hb9⟩; dsimp only)) | (with_reducible refine Keep.last ?_) | (with_reducible refine Keep.below (by assumption) ?_) | (with_reducible refine Keep.kept (by assumption) ?_) | (with_reducible refine Keep.alloc ?_) | (with_reducible refine Keep.same ?_) | ((with_reducible refine WpH.here ?_); first | (refine WpH.nil ?_; refine NoP.normal ?_) | (refine WpH.load (by rfl) (by rfl) (by go_simp; rfl) ?_; simp only [Act.put, List.setIfInBounds_toArray, List.set_cons_zero, List.set_cons_succ]) | (refine WpH.loadT (by rfl) (by rfl) (by go_simp; rfl) (by rintro _ _ ⟨⟩; exact ⟨_, _, _, _, _, _, by rfl, by assumption, by assumption⟩) ?_; simp only [Act.put, List.setIfInBounds_toArray, List.set_cons_zero, List.set_cons_succ]) | (refine WpH.pure (by rfl) (fun w_ => by go_simp; (try go_bits); rfl) ?_; simp only [Act.put, List.setIfInBounds_toArray, List.set_cons_zero, List.set_cons_succ]) | (refine WpH.wild1 (by rfl) (fun _ _ => ?_)) | (refine WpH.skip (by rfl) ?_; simp only [Act.put, List.setIfInBounds_toArray, List.set_cons_zero, List.set_cons_succ])) | go_values | go_skip | go_guarded | go_step | go_upon | go_back)
        (all_goals (try trace_state))
        go_ret
        exact ⟨rfl, bvia (bvia hbr hb8) hb9⟩
theorem mexact_true (w : World) (A B : Option Addr) (n c m d : Nat) (ls : List El) (os : List Op5) (S S' SO : Nat → Prop) (hr : Row w S A n c ls) (ho : GRow w SO B m d os) (hio : ∀ o ∈ os, o.In) (hin : ∀ e ∈ ls, e.In) (hs : Sents w S' a) :
    Calls Tryz.prog 3 #[.slice A n c, .slice B m d] w fun e w' => e = .returned (.bool true) ∧ Below w.heap.size w w' := by
  rcases allRight_or (ls.take (min n 100)) with hg | ⟨j, ej, hj, hg, hw⟩
  · exact mexact_ok w A B n c m d ls os S S' SO hr ho hio hg hin hs
  · exact mexact_no w A B n c m d j ls ej S S' hr hg hj hw hin hs
end Go.Proofs.YtfihjajllfihjaaGreatDoor
namespace Go.Proofs.YtfihjajllfihjaaGreatDoor
set_option linter.unusedSimpArgs false
set_option linter.unusedVariables false
open Go Go.RowKit Go.ChangeShapes Go.WideShapes Go.ChangeAt Go.Deep
set_option maxRecDepth 100000 in
theorem ops5_of_trod {H : Type} {enc : TypeId × Value → H} {W : World} {v : Value} {d : DataW H} {p : List MemPlace} {r : Reach} {b0 : Nat} (hv : Value.okWide Tryz.prog W r b0 23 v) (h : DataW.Trod enc Tryz.prog W 0 (fun _ => true) true 23 v d p) :
    ∃ A n c, ∃ es : List Op5, v = .slice A n c ∧ GRow W (fun b => b < W.heap.size) A n c es ∧ ∀ e ∈ es, e.In :=
  grow_of_trod (α := Op5) (t := 34) Tryz.underlying23 (by kernel_rfl) (by decide) (fun e => e.In) (fun fuel cs x hl h => op5_of_trod hl h) hv h
end Go.Proofs.YtfihjajllfihjaaGreatDoor
