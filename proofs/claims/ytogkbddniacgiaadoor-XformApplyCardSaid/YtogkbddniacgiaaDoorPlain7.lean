/- Chapter 7 in plain words: two ways, three ways, rows of operations, Back and Swap. No condition. No program in sight. The statements' own rows, operations, replicas of chapter 7, in plain words. No condition. No program in sight. -/
import Derived.Test.YtogkbddniacgiaaDoorXf3
namespace Go.Proofs.YtogkbddniacgiaaDoor
set_option linter.unusedSimpArgs false
set_option linter.unusedVariables false
open Go Go.RowKit
/-- an element laid in; an element hidden by d more -/
def insAt (l : List El) (i : Nat) (e : El) : List El := l.take i ++ e :: l.drop i
def hidAt (l : List El) (i : Nat) (d : Int) : List El := match l[i]? with
  | some e => l.set i (e.hide d)
  | none => l
theorem insAt_get {l : List El} {i : Nat} (e : El) (hi : i ≤ l.length) (k : Nat) : (insAt l i e)[k]? = if k < i then l[k]? else if k = i then some e else l[k - 1]? := by
  unfold insAt
  rw [List.getElem?_append, List.length_take, Nat.min_eq_left hi]
  split
  · rw [List.getElem?_take, if_pos (by assumption)]
  · split
    · next h1 h2 => subst h2; simp
    · next h1 h2 =>
      obtain ⟨m, hm⟩ : ∃ m, k - i = m + 1 := ⟨k - i - 1, by omega⟩
      rw [hm, List.getElem?_cons_succ, List.getElem?_drop]
      congr 1
      omega
theorem insAt_length {l : List El} {i : Nat} (e : El) : (insAt l i e).length = l.length + 1 := by
  unfold insAt
  simp
  omega
theorem hidAt_length (l : List El) (i : Nat) (d : Int) : (hidAt l i d).length = l.length := by
  unfold hidAt
  split <;> simp
theorem hidAt_get (l : List El) (i : Nat) (d : Int) (k : Nat) : (hidAt l i d)[k]? = if k = i then l[k]?.map (·.hide d) else l[k]? := by
  unfold hidAt
  split
  · next e he =>
    rw [List.getElem?_set]
    obtain ⟨h1, h2⟩ := List.getElem?_eq_some_iff.1 he
    by_cases hk : k = i
    · subst hk; simp [h1, h2]
    · simp [hk, Ne.symm hk]
  · next he =>
    split
    · next hk => subst hk; simp [he]
    · rfl
theorem hide_hide (e : El) (c d : Int) : (e.hide c).hide d = (e.hide d).hide c := by
  simp only [El.hide]
  congr 1
  omega
theorem ins_ins {l : List El} {i j : Nat} (x y : El) (hij : i ≤ j) (hj : j ≤ l.length) : insAt (insAt l i x) (j + 1) y = insAt (insAt l j y) i x := by
  apply List.ext_getElem?
  intro k
  have h1 := insAt_length (l := l) (i := i) x
  have h2 := insAt_length (l := l) (i := j) y
  simp only [insAt_get x (show i ≤ l.length by omega), insAt_get y hj, insAt_get y (show j + 1 ≤ (insAt l i x).length by omega), insAt_get x (show i ≤ (insAt l j y).length by omega)]
  grind
theorem hid_ins_lo {l : List El} {i j : Nat} (x : El) (d : Int) (hji : j < i) (hi : i ≤ l.length) : hidAt (insAt l i x) j d = insAt (hidAt l j d) i x := by
  apply List.ext_getElem?
  intro k
  have h1 := hidAt_length l j d
  simp only [hidAt_get, insAt_get x hi, insAt_get x (show i ≤ (hidAt l j d).length by omega)]
  grind
theorem hid_ins_hi {l : List El} {i j : Nat} (x : El) (d : Int) (hij : i ≤ j) (hi : i ≤ l.length) : hidAt (insAt l i x) (j + 1) d = insAt (hidAt l j d) i x := by
  apply List.ext_getElem?
  intro k
  have h1 := hidAt_length l j d
  simp only [hidAt_get, insAt_get x hi, insAt_get x (show i ≤ (hidAt l j d).length by omega)]
  grind
theorem hid_hid (l : List El) (i j : Nat) (c d : Int) : hidAt (hidAt l i c) j d = hidAt (hidAt l j d) i c := by
  apply List.ext_getElem?
  intro k
  simp only [hidAt_get]
  by_cases c1 : k = i
  · subst c1
    by_cases c2 : k = j
    · subst c2
      simp only [if_true, Option.map_map]
      congr 1
      funext e
      exact hide_hide e c d
    · simp [c2]
  · by_cases c2 : k = j
    · subst c2; simp [c1]
    · simp [c1, c2]
def Opn.by_ (o : Opn) : Int := if o.kind = 2 then 1 else -1
theorem doneOp_ins {l : List El} {o : Opn} {id : Nm} (h : o.kind = 1) : doneOp l o id = insAt l o.at_.toNat (insEl id o.char) := by
  unfold doneOp insAt
  rw [if_pos h]
theorem doneOp_hid {l : List El} {o : Opn} {id : Nm} (h : o.kind ≠ 1) : doneOp l o id = hidAt l o.at_.toNat o.by_ := by
  unfold doneOp hidAt Opn.by_
  rw [if_neg h]
  cases l[o.at_.toNat]? <;> rfl
theorem Tof_kind (a b : Opn) : (Tof a b).kind = a.kind := by unfold Tof; split <;> rfl
theorem Tof_rep (a b : Opn) : (Tof a b).rep = a.rep := by unfold Tof; split <;> rfl
theorem Tof_char (a b : Opn) : (Tof a b).char = a.char := by unfold Tof; split <;> rfl
theorem Tof_by (a b : Opn) : (Tof a b).by_ = a.by_ := by unfold Opn.by_; rw [Tof_kind]
theorem moves_iff {a b : Opn} (ha : a.kind = 1 ∨ a.kind = 2 ∨ a.kind = 3) (hx : a.at_ ≠ 9223372036854775807) :
    moves a b = true ↔ b.kind = 1 ∧ (b.at_ < a.at_ ∨ b.at_ = a.at_ ∧ (a.kind = 1 → b.rep ≤ a.rep)) := by
  unfold moves
  by_cases hb : b.kind = 1
  · rw [if_neg (by simp [hb, hx])]
    rcases ha with h | h | h
    · simp [h, hb]
    · simp [h, hb]; omega
    · simp [h, hb]; omega
  · rw [if_pos (.inl hb)]
    simp [hb]
theorem Tof_at {a b : Opn} (ha : a.kind = 1 ∨ a.kind = 2 ∨ a.kind = 3) (hx : a.at_ ≠ 9223372036854775807) :
    (Tof a b).at_ = if b.kind = 1 ∧ (b.at_ < a.at_ ∨ b.at_ = a.at_ ∧ (a.kind = 1 → b.rep ≤ a.rep)) then a.at_ + 1 else a.at_ := by
  have h := moves_iff (b := b) ha hx
  unfold Tof
  split
  · next h' => rw [if_pos (h.1 h')]
  · next h' => rw [if_neg (fun h2 => h' (h.2 h2))]
theorem Tof_still {a b : Opn} (hb : b.kind ≠ 1) : Tof a b = a := by
  have h : moves a b = false := by unfold moves; rw [if_pos (Or.inl hb)]
  unfold Tof
  rw [h]
  rfl
/-- an operation that may be done on a row of n -/
structure Fits (o : Opn) (n : Nat) : Prop where
  right : rightOp o = true
  lo : 0 ≤ o.at_
  hi : o.at_ < n ∨ o.at_ = n ∧ o.kind = 1
theorem Fits.of_valid {o : Opn} {n : Nat} (h : validOp o n = true) : Fits o n := by
  obtain ⟨h1, h2, h3⟩ := validOp_right h
  exact ⟨h1, h2, h3⟩
theorem Fits.valid {o : Opn} {n : Nat} (h : Fits o n) : validOp o n = true := by
  unfold validOp
  rw [h.right]
  have h1 := h.lo
  have h2 := h.hi
  simp
  omega
theorem Fits.kind {o : Opn} {n : Nat} (h : Fits o n) : o.kind = 1 ∨ o.kind = 2 ∨ o.kind = 3 := by
  rcases rightOp_kind h.right with h | h | h
  · exact .inl h.1
  · exact .inr (.inl h)
  · exact .inr (.inr h)
theorem rightOp_T (a b : Opn) : rightOp (Tof a b) = rightOp a := by
  unfold rightOp
  rw [Tof_kind, Tof_rep, Tof_char]
theorem doneOp_len (l : List El) (o : Opn) (id : Nm) : (doneOp l o id).length = if o.kind = 1 then l.length + 1 else l.length := by
  split
  · next h => rw [doneOp_ins h, insAt_length]
  · next h => rw [doneOp_hid h, hidAt_length]
theorem Fits.behind {a b : Opn} {n : Nat} (ha : Fits a n) (hn : n < 9223372036854775807) : Fits (Tof a b) (if b.kind = 1 then n + 1 else n) := by
  have hx : a.at_ ≠ 9223372036854775807 := by have := ha.hi; omega
  have h1 := ha.lo
  have h2 := ha.hi
  refine ⟨by rw [rightOp_T]; exact ha.right, ?_, ?_⟩
  · rw [Tof_at ha.kind hx]
    split <;> omega
  · rw [Tof_at ha.kind hx, Tof_kind]
    by_cases hk : b.kind = 1
    · rw [if_pos hk]
      by_cases hc : b.kind = 1 ∧ (b.at_ < a.at_ ∨ b.at_ = a.at_ ∧ (a.kind = 1 → b.rep ≤ a.rep))
      · rw [if_pos hc]; omega
      · rw [if_neg hc]
        omega
    · rw [if_neg hk, if_neg (fun h => hk h.1)]
      omega
theorem toNat_succ {i : Int} (h : 0 ≤ i) : (i + 1).toNat = i.toNat + 1 := by omega
/-- two ways make one row -/
theorem tp1 {l : List El} {a b : Opn} (ia ib : Nm) (ha : Fits a l.length) (hb : Fits b l.length) (hr : a.rep ≠ b.rep) (hl : l.length < 9223372036854775807) :
    doneOp (doneOp l a ia) (Tof b a) ib = doneOp (doneOp l b ib) (Tof a b) ia := by
  have a1 := ha.lo
  have a2 := ha.hi
  have b1 := hb.lo
  have b2 := hb.hi
  have ax : a.at_ ≠ 9223372036854775807 := by omega
  have bx : b.at_ ≠ 9223372036854775807 := by omega
  have ta := Tof_at (b := b) ha.kind ax
  have tb := Tof_at (b := a) hb.kind bx
  by_cases ka : a.kind = 1
  · by_cases kb : b.kind = 1
    · rw [doneOp_ins ka, doneOp_ins kb, doneOp_ins (by rw [Tof_kind, kb]), doneOp_ins (by rw [Tof_kind, ka]), Tof_char, Tof_char, ta, tb]
      by_cases hc : a.at_ < b.at_ ∨ a.at_ = b.at_ ∧ a.rep ≤ b.rep
      · rw [if_pos ⟨ka, by rcases hc with h | ⟨h, h'⟩; exact .inl h; exact .inr ⟨h, fun _ => h'⟩⟩, if_neg (by rintro ⟨_, h | ⟨h, h'⟩⟩; omega; have := h' ka; omega), toNat_succ b1]
        exact ins_ins _ _ (by omega) (by omega)
      · rw [if_neg (by rintro ⟨_, h | ⟨h, h'⟩⟩; omega; have := h' kb; omega), if_pos ⟨kb, by
          rcases Int.lt_trichotomy a.at_ b.at_ with h | h | h
          · exact absurd (Or.inl h) hc
          · exact .inr ⟨h.symm, fun _ => by omega⟩
          · exact .inl h⟩, toNat_succ a1]
        exact (ins_ins _ _ (by omega) (by omega)).symm
    · rw [doneOp_ins ka, doneOp_hid kb, doneOp_hid (by rw [Tof_kind]; exact kb), Tof_still kb, doneOp_ins ka, Tof_by, tb]
      by_cases hc : a.at_ ≤ b.at_
      · rw [if_pos ⟨ka, by rcases Int.lt_or_eq_of_le hc with h | h; exact .inl h; exact .inr ⟨h, fun h => absurd h kb⟩⟩, toNat_succ b1]
        exact hid_ins_hi _ _ (by omega) (by omega)
      · rw [if_neg (by rintro ⟨_, h | ⟨h, h'⟩⟩ <;> omega)]
        exact hid_ins_lo _ _ (by omega) (by omega)
  · by_cases kb : b.kind = 1
    · rw [doneOp_hid ka, doneOp_ins (o := b) kb, doneOp_hid (o := Tof a b) (by rw [Tof_kind]; exact ka), Tof_still (a := b) ka, doneOp_ins kb, Tof_by, ta]
      by_cases hc : b.at_ ≤ a.at_
      · rw [if_pos ⟨kb, by rcases Int.lt_or_eq_of_le hc with h | h; exact .inl h; exact .inr ⟨h, fun h => absurd h ka⟩⟩, toNat_succ a1]
        exact (hid_ins_hi _ _ (by omega) (by omega)).symm
      · rw [if_neg (by rintro ⟨_, h | ⟨h, h'⟩⟩ <;> omega)]
        exact (hid_ins_lo _ _ (by omega) (by omega)).symm
    · rw [doneOp_hid ka, doneOp_hid kb, Tof_still ka, Tof_still kb, doneOp_hid ka, doneOp_hid kb]
      exact hid_hid _ _ _ _ _
theorem Tof_at_le (a b : Opn) : a.at_ ≤ (Tof a b).at_ ∧ (Tof a b).at_ ≤ a.at_ + 1 := by
  unfold Tof
  split
  · exact ⟨by show a.at_ ≤ a.at_ + 1; omega, Int.le_refl _⟩
  · omega
theorem opn_ext {a b : Opn} (h1 : a.kind = b.kind) (h2 : a.at_ = b.at_) (h3 : a.char = b.char) (h4 : a.rep = b.rep) : a = b := by
  obtain ⟨_, _, _, _⟩ := a
  obtain ⟨_, _, _, _⟩ := b
  simp_all
/-- an operation's place among others, xs one number -/
def Opn.key (o : Opn) : Int := 8 * o.at_ + if o.kind = 1 then o.rep else 7
theorem rightOp_rep {o : Opn} (h : rightOp o = true) : 0 ≤ o.rep ∧ o.rep < 8 := by
  unfold rightOp at h
  split at h
  · cases h
  · omega
theorem Tof_key {a b : Opn} (ha : rightOp a = true) (hb : rightOp b = true) (hx : a.at_ ≠ 9223372036854775807) :
    (Tof a b).at_ = (if b.kind = 1 ∧ b.key ≤ a.key then a.at_ + 1 else a.at_) ∧ (Tof a b).key = (if b.kind = 1 ∧ b.key ≤ a.key then a.key + 8 else a.key) := by
  have hk : a.kind = 1 ∨ a.kind = 2 ∨ a.kind = 3 := by
    rcases rightOp_kind ha with h | h | h
    · exact .inl h.1
    · exact .inr (.inl h)
    · exact .inr (.inr h)
  have h1 := rightOp_rep ha
  have h2 := rightOp_rep hb
  have ht := Tof_at (b := b) hk hx
  have he : (b.kind = 1 ∧ (b.at_ < a.at_ ∨ b.at_ = a.at_ ∧ (a.kind = 1 → b.rep ≤ a.rep))) ↔ (b.kind = 1 ∧ b.key ≤ a.key) := by
    refine and_congr_right fun kb => ?_
    unfold Opn.key
    rw [if_pos kb]
    by_cases ka : a.kind = 1
    · simp only [ka, if_true, forall_const]; omega
    · simp only [ka, if_false, false_imp_iff, and_true]; omega
  simp only [he] at ht
  refine ⟨ht, ?_⟩
  unfold Opn.key at ht ⊢
  rw [Tof_kind, Tof_rep, ht]
  split <;> split <;> omega
theorem ite_two (P : Prop) [Decidable P] (x y : Int) : P ∧ (if P then x else y) = x ∨ ¬ P ∧ (if P then x else y) = y := by
  by_cases h : P
  · exact .inl ⟨h, if_pos h⟩
  · exact .inr ⟨h, if_neg h⟩
theorem key_law (p q r c : Int) (h : p ≠ q) :
    (if (if p ≤ q then q + 8 else q) ≤ (if p ≤ r then r + 8 else r) then (if p ≤ r then c + 1 else c) + 1 else (if p ≤ r then c + 1 else c)) =
    (if (if q ≤ p then p + 8 else p) ≤ (if q ≤ r then r + 8 else r) then (if q ≤ r then c + 1 else c) + 1 else (if q ≤ r then c + 1 else c)) := by
  rcases ite_two (p ≤ r) (r + 8) r with ⟨a1, a2⟩ | ⟨a1, a2⟩ <;> rw [a2] <;>
  rcases ite_two (p ≤ r) (c + 1) c with ⟨b1, b2⟩ | ⟨b1, b2⟩ <;> rw [b2] <;>
  rcases ite_two (p ≤ q) (q + 8) q with ⟨c1, c2⟩ | ⟨c1, c2⟩ <;> rw [c2] <;>
  rcases ite_two (q ≤ r) (r + 8) r with ⟨d1, d2⟩ | ⟨d1, d2⟩ <;> rw [d2] <;>
  rcases ite_two (q ≤ r) (c + 1) c with ⟨e1, e2⟩ | ⟨e1, e2⟩ <;> rw [e2] <;>
  rcases ite_two (q ≤ p) (p + 8) p with ⟨f1, f2⟩ | ⟨f1, f2⟩ <;> rw [f2] <;>
  clear a2 b2 c2 d2 e2 f2 <;>
  first
    | (exfalso; omega)
    | ((repeat' split) <;> omega)
/-- three ways: an operation behind two others, in both orders -/
theorem tp2 {a b c : Opn} {n : Nat} (ha : Fits a n) (hb : Fits b n) (hc : Fits c n) (hab : a.rep ≠ b.rep) (hn : n < 4611686018427387904) :
    Tof (Tof c a) (Tof b a) = Tof (Tof c b) (Tof a b) := by
  have a2 := ha.hi
  have b2 := hb.hi
  have c2 := hc.hi
  refine opn_ext (by simp [Tof_kind]) ?_ (by simp [Tof_char]) (by simp [Tof_rep])
  have hne : a.kind = 1 → b.kind = 1 → a.key ≠ b.key := fun ka kb h => by
    have h1 := rightOp_rep ha.right
    have h2 := rightOp_rep hb.right
    unfold Opn.key at h
    rw [if_pos ka, if_pos kb] at h
    omega
  have m1 : (Tof c a).at_ ≠ 9223372036854775807 := by have := Tof_at_le c a; omega
  have m2 : (Tof c b).at_ ≠ 9223372036854775807 := by have := Tof_at_le c b; omega
  have m3 : c.at_ ≠ 9223372036854775807 := by omega
  have m4 : b.at_ ≠ 9223372036854775807 := by omega
  have m5 : a.at_ ≠ 9223372036854775807 := by omega
  obtain ⟨e1, g1⟩ := Tof_key (a := c) (b := a) hc.right ha.right m3
  obtain ⟨e2, g2⟩ := Tof_key (a := b) (b := a) hb.right ha.right m4
  obtain ⟨e3, g3⟩ := Tof_key (a := c) (b := b) hc.right hb.right m3
  obtain ⟨e4, g4⟩ := Tof_key (a := a) (b := b) ha.right hb.right m5
  obtain ⟨f1, -⟩ := Tof_key (a := Tof c a) (b := Tof b a) (by rw [rightOp_T]; exact hc.right) (by rw [rightOp_T]; exact hb.right) m1
  obtain ⟨f2, -⟩ := Tof_key (a := Tof c b) (b := Tof a b) (by rw [rightOp_T]; exact hc.right) (by rw [rightOp_T]; exact ha.right) m2
  rw [f1, f2, e1, e3, g1, g2, g3, g4]
  simp only [Tof_kind]
  clear f1 f2 e1 e2 e3 e4 g1 g2 g3 g4 ha hb hc a2 b2 c2
  by_cases ka : a.kind = 1
  · by_cases kb : b.kind = 1
    · have := hne ka kb
      simp only [ka, kb, true_and]
      exact key_law _ _ _ _ this
    · simp [ka, kb]
  · simp [ka]

def Opn.ins (o : Opn) : Nat := if o.kind = 1 then 1 else 0
theorem Tof_ins (a b : Opn) : (Tof a b).ins = a.ins := by unfold Opn.ins; rw [Tof_kind]
theorem doneOp_len' (l : List El) (o : Opn) (id : Nm) : (doneOp l o id).length = l.length + o.ins := by
  rw [doneOp_len]
  unfold Opn.ins
  split <;> rfl
theorem Fits.behind' {a b : Opn} {n : Nat} (ha : Fits a n) (hn : n < 9223372036854775807) : Fits (Tof a b) (n + b.ins) := by
  have := ha.behind hn (b := b)
  unfold Opn.ins
  split at this <;> simp_all
def doneIds (l : List El) (ops : List (Opn × Nm)) : List El := ops.foldl (fun l o => doneOp l o.1 o.2) l
theorem doneIds_append (l : List El) (p q : List (Opn × Nm)) : doneIds l (p ++ q) = doneIds (doneIds l p) q := by simp [doneIds]
theorem doneIds_cons (l : List El) (o : Opn × Nm) (q : List (Opn × Nm)) : doneIds l (o :: q) = doneIds (doneOp l o.1 o.2) q := rfl
/-- they fit one behind the other -/
def FitAll : Nat → List Opn → Prop
  | _, [] => True
  | n, o :: r => Fits o n ∧ FitAll (n + o.ins) r
def insOf (l : List Opn) : Nat := (l.map Opn.ins).sum
theorem insOf_cons (o : Opn) (l : List Opn) : insOf (o :: l) = o.ins + insOf l := by simp [insOf]
theorem insOf_le (l : List Opn) : insOf l ≤ l.length := by
  induction l with
  | nil => simp [insOf]
  | cons o r ih => rw [insOf_cons, List.length_cons]; unfold Opn.ins; split <;> omega
/-- a row of operations, each behind b, and b behind them all -/
def crossIn : List Opn → Opn → List Opn × Opn
  | [], b => ([], b)
  | a :: xs, b => (Tof a b :: (crossIn xs (Tof b a)).1, (crossIn xs (Tof b a)).2)
/-- two rows, each behind the other -/
def crossOf : List Opn → List Opn → List Opn × List Opn
  | xs, [] => (xs, [])
  | xs, b :: bs => ((crossOf (crossIn xs b).1 bs).1, (crossIn xs b).2 :: (crossOf (crossIn xs b).1 bs).2)
theorem crossIn_length (xs : List Opn) : ∀ (b : Opn), (crossIn xs b).1.length = xs.length := by
  induction xs with
  | nil => intro b; rfl
  | cons a xs ih => intro b; simp [crossIn, ih]
theorem crossOf_length (bs : List Opn) : ∀ (xs : List Opn), (crossOf xs bs).1.length = xs.length ∧ (crossOf xs bs).2.length = bs.length := by
  induction bs with
  | nil => intro xs; exact ⟨rfl, rfl⟩
  | cons b bs ih =>
    intro xs
    obtain ⟨h1, h2⟩ := ih (crossIn xs b).1
    exact ⟨by simp only [crossOf]; rw [h1, crossIn_length], by simp [crossOf, h2]⟩
theorem crossIn_kinds (xs : List Opn) : ∀ (b : Opn), (crossIn xs b).1.map Opn.kind = xs.map Opn.kind ∧ (crossIn xs b).1.map Opn.rep = xs.map Opn.rep ∧ (crossIn xs b).2.kind = b.kind ∧ (crossIn xs b).2.rep = b.rep := by
  induction xs with
  | nil => intro b; exact ⟨rfl, rfl, rfl, rfl⟩
  | cons a xs ih =>
    intro b
    obtain ⟨h1, h2, h3, h4⟩ := ih (Tof b a)
    refine ⟨?_, ?_, ?_, ?_⟩
    · simp [crossIn, h1, Tof_kind]
    · simp [crossIn, h2, Tof_rep]
    · simp only [crossIn]; rw [h3, Tof_kind]
    · simp only [crossIn]; rw [h4, Tof_rep]
theorem crossOf_kinds (bs : List Opn) : ∀ (xs : List Opn), (crossOf xs bs).1.map Opn.kind = xs.map Opn.kind ∧ (crossOf xs bs).1.map Opn.rep = xs.map Opn.rep ∧ (crossOf xs bs).2.map Opn.kind = bs.map Opn.kind ∧ (crossOf xs bs).2.map Opn.rep = bs.map Opn.rep := by
  induction bs with
  | nil => intro xs; exact ⟨rfl, rfl, rfl, rfl⟩
  | cons b bs ih =>
    intro xs
    obtain ⟨h1, h2, h3, h4⟩ := ih (crossIn xs b).1
    obtain ⟨g1, g2, g3, g4⟩ := crossIn_kinds xs b
    refine ⟨?_, ?_, ?_, ?_⟩
    · simp only [crossOf]; rw [h1, g1]
    · simp only [crossOf]; rw [h2, g2]
    · simp [crossOf, h3, g3]
    · simp [crossOf, h4, g4]
theorem ins_eq {a b : Opn} (h : a.kind = b.kind) : a.ins = b.ins := by unfold Opn.ins; rw [h]
theorem insOf_kinds : ∀ {xs bs : List Opn}, xs.map Opn.kind = bs.map Opn.kind → insOf xs = insOf bs
  | [], [], _ => rfl
  | [], _ :: _, h => by cases h
  | _ :: _, [], h => by cases h
  | a :: xs, b :: bs, h => by
    simp only [List.map_cons, List.cons.injEq] at h
    rw [insOf_cons, insOf_cons, ins_eq h.1, insOf_kinds h.2]
theorem crossIn_fit (xs : List Opn) : ∀ (b : Opn) (n : Nat), FitAll n xs → Fits b n → n + xs.length < 9223372036854775807 → FitAll (n + b.ins) (crossIn xs b).1 ∧ Fits (crossIn xs b).2 (n + insOf xs) := by
  induction xs with
  | nil => intro b n _ hb _; exact ⟨trivial, by simpa [insOf, crossIn] using hb⟩
  | cons a xs ih =>
    intro b n ha hb hn
    rw [List.length_cons] at hn
    have hl : a.ins ≤ 1 := by unfold Opn.ins; split <;> omega
    obtain ⟨h1, h2⟩ := ih (Tof b a) (n + a.ins) ha.2 (hb.behind' (by omega)) (by omega)
    refine ⟨⟨ha.1.behind' (by omega), ?_⟩, ?_⟩
    · rw [Tof_ins] at h1 ⊢
      rw [show n + b.ins + a.ins = n + a.ins + b.ins by omega]
      exact h1
    · rw [insOf_cons, ← Nat.add_assoc]
      exact h2
theorem crossOf_fit (bs : List Opn) : ∀ (xs : List Opn) (n : Nat), FitAll n xs → FitAll n bs → n + xs.length + bs.length < 9223372036854775807 → FitAll (n + insOf bs) (crossOf xs bs).1 ∧ FitAll (n + insOf xs) (crossOf xs bs).2 := by
  induction bs with
  | nil => intro xs n ha _ _; exact ⟨by simpa [insOf, crossOf] using ha, trivial⟩
  | cons b bs ih =>
    intro xs n ha hb hn
    rw [List.length_cons] at hn
    have hl : b.ins ≤ 1 := by unfold Opn.ins; split <;> omega
    obtain ⟨g1, g2⟩ := crossIn_fit xs b n ha hb.1 (by omega)
    have e1 := crossIn_length xs b
    obtain ⟨k1, k2, k3, k4⟩ := crossIn_kinds xs b
    obtain ⟨h1, h2⟩ := ih (crossIn xs b).1 (n + b.ins) g1 hb.2 (by omega)
    rw [insOf_kinds k1] at h2
    refine ⟨?_, g2, ?_⟩
    · rw [insOf_cons, ← Nat.add_assoc]
      exact h1
    · rw [ins_eq k3, show n + insOf xs + b.ins = n + b.ins + insOf xs by omega]
      exact h2
theorem crossIn_done (xs : List Opn) : ∀ (l : List El) (b : Opn) (ia : List Nm) (ib : Nm), FitAll l.length xs → Fits b l.length → l.length + xs.length < 9223372036854775807 → (∀ a ∈ xs, a.rep ≠ b.rep) → ia.length = xs.length →
    doneOp (doneIds l (xs.zip ia)) (crossIn xs b).2 ib = doneIds (doneOp l b ib) ((crossIn xs b).1.zip ia) := by
  induction xs with
  | nil => intro l b ia ib _ _ _ _ _; rfl
  | cons a xs ih =>
    intro l b ia ib ha hb hn hr hi
    cases ia with
    | nil => cases hi
    | cons i ia =>
      rw [List.length_cons] at hn
      have hl : a.ins ≤ 1 := by unfold Opn.ins; split <;> omega
      have hne := hr a (List.mem_cons_self ..)
      have h := ih (doneOp l a i) (Tof b a) ia ib (by rw [doneOp_len']; exact ha.2) (by rw [doneOp_len']; exact hb.behind' (by omega)) (by rw [doneOp_len']; omega) (fun x hx => by rw [Tof_rep]; exact hr x (List.mem_cons_of_mem _ hx)) (by simpa using hi)
      simp only [crossIn, List.zip_cons_cons, doneIds_cons]
      rw [h, tp1 i ib ha.1 hb hne (by omega)]
theorem rep_ne_of {xs bs : List Opn} (h : xs.map Opn.rep = bs.map Opn.rep) {r : Int} (hb : ∀ b ∈ bs, b.rep ≠ r) : ∀ a ∈ xs, a.rep ≠ r := by
  intro a ha
  have h1 : a.rep ∈ xs.map Opn.rep := List.mem_map.2 ⟨a, ha, rfl⟩
  rw [h] at h1
  obtain ⟨b, hb', e⟩ := List.mem_map.1 h1
  rw [← e]
  exact hb b hb'
/-- two rows of operations: the same both ways -/
theorem crossOf_done (bs : List Opn) : ∀ (xs : List Opn) (l : List El) (ia ib : List Nm), FitAll l.length xs → FitAll l.length bs → l.length + xs.length + bs.length < 9223372036854775807 → (∀ a ∈ xs, ∀ b ∈ bs, a.rep ≠ b.rep) → ia.length = xs.length → ib.length = bs.length →
    doneIds l (xs.zip ia ++ (crossOf xs bs).2.zip ib) = doneIds l (bs.zip ib ++ (crossOf xs bs).1.zip ia) := by
  induction bs with
  | nil => intro xs l ia ib _ _ _ _ _ hi; obtain rfl : ib = [] := List.length_eq_zero_iff.1 hi; simp [crossOf]
  | cons b bs ih =>
    intro xs l ia ib ha hb hn hr hi hj
    cases ib with
    | nil => cases hj
    | cons i ib =>
      rw [List.length_cons] at hn
      have hl : b.ins ≤ 1 := by unfold Opn.ins; split <;> omega
      obtain ⟨g1, g2⟩ := crossIn_fit xs b l.length ha hb.1 (by omega)
      have e1 := crossIn_length xs b
      obtain ⟨k1, k2, k3, k4⟩ := crossIn_kinds xs b
      have h := ih (crossIn xs b).1 (doneOp l b i) ia ib (by rw [doneOp_len']; exact g1) (by rw [doneOp_len']; exact hb.2) (by rw [doneOp_len']; omega) (fun a ha' b' hb' => rep_ne_of k2 (fun x hx => hr x hx b' (List.mem_cons_of_mem _ hb')) a ha') (by rw [hi, e1]) (by simpa using hj)
      simp only [crossOf, List.zip_cons_cons]
      rw [doneIds_append, doneIds_cons, crossIn_done xs l b ia i ha hb.1 (by omega) (fun a ha' => hr a ha' b (List.mem_cons_self ..)) hi, ← doneIds_append, h]
      rfl

def backOf (a b : Opn) : Opn × Bool := if moves a b = false then (a, true) else if Tof { a with at_ := a.at_ - 1 } b = a then ({ a with at_ := a.at_ - 1 }, true) else (a, false)
def refBackOf (a b : Opn) : Opn × Bool := if 0 ≤ a.at_ ∧ Tof a b = a then (a, true) else if 0 ≤ a.at_ - 1 ∧ Tof { a with at_ := a.at_ - 1 } b = a then ({ a with at_ := a.at_ - 1 }, true) else (a, false)
theorem Tof_eq_iff (a b : Opn) : Tof a b = a ↔ moves a b = false := by
  unfold Tof
  cases h : moves a b
  · simp
  · simp only [if_true, Bool.true_eq_false, iff_false]
    intro e
    have := congrArg Opn.at_ e
    simp only at this
    omega
theorem moves_nonneg {a b : Opn} (h : moves a b = true) : b.at_ ≤ a.at_ := by
  unfold moves at h
  split at h
  · cases h
  · split at h
    · have := of_decide_eq_true h; omega
    · split at h
      · exact of_decide_eq_true h
      · cases h
theorem back_eq {a b : Opn} (ha : 0 ≤ a.at_) (hb : 0 ≤ b.at_) : backOf a b = refBackOf a b := by
  unfold backOf refBackOf
  by_cases hm : moves a b = false
  · rw [if_pos hm, if_pos ⟨ha, (Tof_eq_iff _ _).2 hm⟩]
  · rw [if_neg hm, if_neg (show ¬ (0 ≤ a.at_ ∧ Tof a b = a) from fun h => hm ((Tof_eq_iff _ _).1 h.2))]
    by_cases h : Tof { a with at_ := a.at_ - 1 } b = a
    · have h0 : 0 ≤ a.at_ - 1 := by
        by_cases hm2 : moves { a with at_ := a.at_ - 1 } b = true
        · have := moves_nonneg hm2
          simp only at this
          omega
        · exfalso
          rw [Bool.not_eq_true] at hm2
          rw [(Tof_eq_iff _ _).2 hm2] at h
          have := congrArg Opn.at_ h
          simp only at this
          omega
      rw [if_pos h, if_pos ⟨h0, h⟩]
    · rw [if_neg h, if_neg (fun h' => h h'.2)]
theorem back_T {a b : Opn} (h : (backOf a b).2 = true) : Tof (backOf a b).1 b = a := by
  unfold backOf at h ⊢
  split
  · next hm => exact (Tof_eq_iff _ _).2 hm
  · next hm =>
    rw [if_neg hm] at h
    split
    · assumption
    · next h2 => rw [if_neg h2] at h; cases h
theorem moves_succ {a b : Opn} (h : moves a b = true) (hx : a.at_ + 1 ≠ 9223372036854775807) : moves { a with at_ := a.at_ + 1 } b = true := by
  unfold moves at h ⊢
  split at h
  · cases h
  · next h0 =>
    rw [if_neg (fun h' => by rcases h' with h' | h'; exact h0 (.inl h'); exact hx h')]
    split at h
    · next hk =>
      rw [if_pos hk]
      have := of_decide_eq_true h
      exact decide_eq_true (.inl (by show b.at_ < a.at_ + 1; omega))
    · next hk =>
      rw [if_neg hk]
      split at h
      · next hk2 =>
        rw [if_pos hk2]
        have := of_decide_eq_true h
        exact decide_eq_true (by show b.at_ ≤ a.at_ + 1; omega)
      · cases h
theorem back_of_T {a b : Opn} (hx : a.at_ + 1 < 9223372036854775807) : backOf (Tof a b) b = (a, true) := by
  cases hm : moves a b
  · have h := (Tof_eq_iff _ _).2 hm
    rw [h]
    unfold backOf
    rw [if_pos hm]
  · have h : Tof a b = { a with at_ := a.at_ + 1 } := by unfold Tof; rw [if_pos hm]
    have h2 : ({ ({ a with at_ := a.at_ + 1 } : Opn) with at_ := ({ a with at_ := a.at_ + 1 } : Opn).at_ - 1 } : Opn) = a := by
      refine opn_ext rfl ?_ rfl rfl
      show a.at_ + 1 - 1 = a.at_
      omega
    have h3 := moves_succ hm (by omega)
    unfold backOf
    rw [h, if_neg (by rw [h3]; simp), h2, if_pos h]
def swapOf (a b : Opn) : Opn × Opn × Bool := if (backOf b a).2 = true then ((backOf b a).1, Tof a (backOf b a).1, true) else (a, b, false)
theorem backOf_props (a b : Opn) : (backOf a b).1.kind = a.kind ∧ (backOf a b).1.rep = a.rep ∧ (backOf a b).1.char = a.char ∧ a.at_ - 1 ≤ (backOf a b).1.at_ ∧ (backOf a b).1.at_ ≤ a.at_ := by
  unfold backOf
  split
  · exact ⟨rfl, rfl, rfl, by show _ ≤ a.at_; omega, Int.le_refl _⟩
  · split
    · exact ⟨rfl, rfl, rfl, Int.le_refl _, by show a.at_ - 1 ≤ a.at_; omega⟩
    · exact ⟨rfl, rfl, rfl, by show _ ≤ a.at_; omega, Int.le_refl _⟩
/-- what comes back fits ahead -/
theorem back_fits {a b : Opn} {n : Nat} (ha : Fits a n) (hb : Fits b (n + a.ins)) (hn : n + 1 < 9223372036854775807) (hok : (backOf b a).2 = true) : Fits (backOf b a).1 n := by
  have hT := back_T hok
  obtain ⟨p1, p2, p3, p4, p5⟩ := backOf_props b a
  generalize hx : (backOf b a).1 = x at *
  have a1 := ha.lo
  have a2 := ha.hi
  have b1 := hb.lo
  have b2 := hb.hi
  have hl : a.ins ≤ 1 := by unfold Opn.ins; split <;> omega
  have hxr : rightOp x = true := by
    have := hb.right
    unfold rightOp at this ⊢
    rw [p1, p2, p3]
    exact this
  have hxk : x.kind = 1 ∨ x.kind = 2 ∨ x.kind = 3 := by rw [p1]; exact hb.kind
  have ht := Tof_at (b := a) hxk (by omega)
  rw [hT] at ht
  by_cases hka : a.kind = 1
  · have hi1 : a.ins = 1 := by unfold Opn.ins; rw [if_pos hka]
    by_cases hc : a.kind = 1 ∧ (a.at_ < x.at_ ∨ a.at_ = x.at_ ∧ (x.kind = 1 → a.rep ≤ x.rep))
    · rw [if_pos hc] at ht
      exact ⟨hxr, by omega, by rw [p1]; omega⟩
    · rw [if_neg hc] at ht
      refine ⟨hxr, by omega, ?_⟩
      by_cases hkb : x.kind = 1
      · have : ¬ (a.at_ < x.at_) := fun h => hc ⟨hka, .inl h⟩
        omega
      · have : ¬ (a.at_ ≤ x.at_) := fun h => hc ⟨hka, by rcases Int.lt_or_eq_of_le h with h | h; exact .inl h; exact .inr ⟨h, fun h => absurd h hkb⟩⟩
        omega
  · have hi1 : a.ins = 0 := by unfold Opn.ins; rw [if_neg hka]
    rw [if_neg (fun h => hka h.1)] at ht
    exact ⟨hxr, by omega, by rw [p1]; omega⟩
/-- two operations, swapped: one row -/
theorem swap_done {l : List El} {a b : Opn} (ia ib : Nm) (ha : Fits a l.length) (hb : Fits b (l.length + a.ins)) (hr : a.rep ≠ b.rep) (hn : l.length + 1 < 9223372036854775807) (hok : (backOf b a).2 = true) :
    doneOp (doneOp l a ia) b ib = doneOp (doneOp l (backOf b a).1 ib) (Tof a (backOf b a).1) ia := by
  have h := tp1 (l := l) (a := a) (b := (backOf b a).1) ia ib ha (back_fits ha hb hn hok) (by rw [(backOf_props b a).2.1]; exact hr) (by omega)
  rw [back_T hok] at h
  exact h
theorem swap_swap {a b : Opn} (hok : (backOf b a).2 = true) (hx : a.at_ + 1 < 9223372036854775807) : swapOf (backOf b a).1 (Tof a (backOf b a).1) = (a, b, true) := by
  unfold swapOf
  rw [back_of_T hx, if_pos rfl]
  simp only
  rw [back_T hok]

def Calm (H : Int) (l : List El) : Prop := ∀ e ∈ l, -H ≤ e.hides ∧ e.hides ≤ H
theorem mem_insAt {l : List El} {i : Nat} {e x : El} (h : x ∈ insAt l i e) : x = e ∨ x ∈ l := by
  unfold insAt at h
  simp only [List.mem_append, List.mem_cons] at h
  rcases h with h | rfl | h
  · exact .inr (List.mem_of_mem_take h)
  · exact .inl rfl
  · exact .inr (List.mem_of_mem_drop h)
theorem mem_hidAt {l : List El} {i : Nat} {d : Int} {x : El} (h : x ∈ hidAt l i d) : x ∈ l ∨ ∃ e ∈ l, x = e.hide d := by
  unfold hidAt at h
  split at h
  · next e he =>
    rcases List.mem_or_eq_of_mem_set h with h | h
    · exact .inl h
    · exact .inr ⟨e, List.mem_of_getElem? he, h⟩
  · exact .inl h
theorem by_bounds (o : Opn) : -1 ≤ o.by_ ∧ o.by_ ≤ 1 := by unfold Opn.by_; split <;> omega
theorem Calm.done {H : Int} {l : List El} (h : Calm H l) (h0 : 0 ≤ H) (o : Opn) (id : Nm) : Calm (H + 1) (doneOp l o id) := by
  intro x hx
  by_cases hk : o.kind = 1
  · rw [doneOp_ins hk] at hx
    rcases mem_insAt hx with rfl | hx
    · simp only [insEl]; omega
    · have := h x hx; omega
  · rw [doneOp_hid hk] at hx
    have := by_bounds o
    rcases mem_hidAt hx with hx | ⟨e, he, rfl⟩
    · have := h x hx; omega
    · have := h e he
      simp only [El.hide]
      omega
theorem nm_done {l : List El} {o : Opn} {id i : Nm} (h : i ∈ (doneOp l o id).map El.nm) : o.kind = 1 ∧ i = id ∨ i ∈ l.map El.nm := by
  obtain ⟨x, hx, rfl⟩ := List.mem_map.1 h
  by_cases hk : o.kind = 1
  · rw [doneOp_ins hk] at hx
    rcases mem_insAt hx with rfl | hx
    · exact .inl ⟨hk, rfl⟩
    · exact .inr (List.mem_map.2 ⟨x, hx, rfl⟩)
  · rw [doneOp_hid hk] at hx
    rcases mem_hidAt hx with hx | ⟨e, he, rfl⟩
    · exact .inr (List.mem_map.2 ⟨x, hx, rfl⟩)
    · exact .inr (List.mem_map.2 ⟨e, he, rfl⟩)
theorem canDo_of {H : Int} {l : List El} {o : Opn} {id : Nm} (hf : Fits o l.length) (hc : Calm H l) (hH : H ≤ 1000000) (hi : id.In) (hn : o.kind = 1 → id ∉ l.map El.nm) : CanDo l o id := by
  refine ⟨hf.valid, fun hk => ⟨hi, hn hk⟩, fun hk e he => ?_⟩
  have h := hc e (List.mem_of_getElem? he)
  have : -1 ≤ (if o.kind = 2 then (1 : Int) else -1) ∧ (if o.kind = 2 then (1 : Int) else -1) ≤ 1 := by split <;> omega
  unfold fairH
  simp only [decide_eq_true_eq]
  omega
end Go.Proofs.YtogkbddniacgiaaDoor
namespace Go.Proofs.YtogkbddniacgiaaDoor
set_option linter.unusedSimpArgs false
set_option linter.unusedVariables false
open Go Go.RowKit
/-- the statements' own row: elements of right characters, with IDs of their own -/
def row7f (x : El × Nat) : Option El := if rightC x.1.char then some ⟨3, 0, x.2 + 1, x.1.char, x.1.hides % 5 - 2⟩ else none
def row7 (l : List El) : List El := l.zipIdx.filterMap row7f
theorem row7_snoc (l : List El) (e : El) : row7 (l ++ [e]) = row7 l ++ (row7f (e, l.length)).toList := by
  unfold row7
  rw [List.zipIdx_append, List.filterMap_append]
  congr 1
  simp only [List.zipIdx_cons, List.zipIdx_nil, Nat.zero_add, List.filterMap_cons, List.filterMap_nil]
  cases row7f (e, l.length) <;> rfl
theorem row7_length (l : List El) : (row7 l).length ≤ l.length := by
  have := List.length_filterMap_le row7f l.zipIdx
  simpa [row7] using this
theorem row7_mem {l : List El} {e : El} (h : e ∈ row7 l) : ∃ i : Nat, i < l.length ∧ e.nm = ⟨3, 0, i + 1⟩ ∧ rightC e.char = true ∧ -2 ≤ e.hides ∧ e.hides ≤ 2 := by
  obtain ⟨x, hx, hf⟩ := List.mem_filterMap.1 h
  unfold row7f at hf
  split at hf
  · next hc =>
    injection hf with hf
    subst hf
    have hi := List.snd_lt_of_mem_zipIdx hx
    refine ⟨x.2, by omega, rfl, hc, ?_, ?_⟩
    · show -2 ≤ x.1.hides % 5 - 2; omega
    · show x.1.hides % 5 - 2 ≤ 2; omega
  · cases hf
theorem row7_nodup (l : List El) : ((row7 l).map El.nm).Nodup := by
  have key : ∀ (l : List El) (k : Nat), ((l.zipIdx k).filterMap row7f).map El.nm |>.Nodup := by
    intro l
    induction l with
    | nil => intro k; exact List.nodup_nil
    | cons e l ih =>
      intro k
      rw [List.zipIdx_cons, List.filterMap_cons]
      split
      · exact ih _
      · next y hy =>
        rw [List.map_cons, List.nodup_cons]
        refine ⟨fun hm => ?_, ih _⟩
        obtain ⟨z, hz, hn⟩ := List.mem_map.1 hm
        obtain ⟨x, hx, hf⟩ := List.mem_filterMap.1 hz
        have hle := List.le_snd_of_mem_zipIdx hx
        unfold row7f at hy hf
        split at hy
        · split at hf
          · injection hy with hy
            injection hf with hf
            subst hy hf
            have := congrArg Nm.num hn
            simp only [El.nm] at this
            omega
          · cases hf
        · cases hy
  exact key l 0
theorem row7_calm (l : List El) : Calm 2 (row7 l) := fun e he => by
  obtain ⟨i, _, _, _, h1, h2⟩ := row7_mem he
  exact ⟨h1, h2⟩
theorem row7_good {l : List El} (hl : l.length ≤ 60) : ∀ e ∈ row7 l, e.Good := fun e he => by
  obtain ⟨i, hi, hn, hc, h1, h2⟩ := row7_mem he
  refine ⟨hc, ?_, ?_⟩
  · unfold fairH
    simp only [decide_eq_true_eq]
    omega
  · rw [hn]
    refine ⟨?_, ?_, ?_⟩
    · show I64 3; exact ⟨by decide, by decide⟩
    · show I64 0; exact ⟨by decide, by decide⟩
    · show I64 ((i : Int) + 1)
      unfold I64
      omega
/-- a name of the fourth epoch is none of the row's -/
theorem row7_new (l : List El) (r n : Int) : (⟨4, r, n⟩ : Nm) ∉ (row7 l).map El.nm := fun h => by
  obtain ⟨e, he, hn⟩ := List.mem_map.1 h
  obtain ⟨i, _, h2, _⟩ := row7_mem he
  rw [h2] at hn
  have := congrArg Nm.epoch hn
  simp at this
/-- an operation made valid -/
def fitOf (o : Opn) (n : Nat) (r : Int) : Opn × Bool :=
  if 1 + o.kind % 3 = 1 then (⟨1, o.at_ % ((n : Int) + 1), if rightC o.char then o.char else 99, r⟩, true)
  else if n = 0 then (⟨1 + o.kind % 3, o.at_, 0, r⟩, false) else (⟨1 + o.kind % 3, o.at_ % n, 0, r⟩, true)
theorem fit_fits {o : Opn} {n : Nat} {r : Int} (hr : 0 ≤ r ∧ r < 8) (h : (fitOf o n r).2 = true) : Fits (fitOf o n r).1 n := by
  unfold fitOf at h ⊢
  split
  · next hk =>
    refine ⟨?_, ?_, ?_⟩
    · unfold rightOp
      rw [if_neg (by show ¬ (r < 0 ∨ 8 ≤ r); omega), if_pos rfl]
      show rightC (if rightC o.char = true then o.char else 99) = true
      split
      · assumption
      · decide
    · exact Int.emod_nonneg _ (by omega)
    · have := Int.emod_lt_of_pos o.at_ (show (0 : Int) < n + 1 by omega)
      show o.at_ % (n + 1) < n ∨ o.at_ % (n + 1) = n ∧ (1 : Int) = 1
      omega
  · next hk =>
    rw [if_neg hk] at h
    split
    · next h0 => rw [if_pos h0] at h; cases h
    · next h0 =>
      refine ⟨?_, ?_, ?_⟩
      · unfold rightOp
        have : 1 + o.kind % 3 = 2 ∨ 1 + o.kind % 3 = 3 := by omega
        rw [if_neg (by show ¬ (r < 0 ∨ 8 ≤ r); omega), if_neg hk, if_pos this]
        rfl
      · exact Int.emod_nonneg _ (by omega)
      · exact .inl (Int.emod_lt_of_pos _ (by omega))
theorem fit_rep (o : Opn) (n : Nat) (r : Int) : (fitOf o n r).1.rep = r := by
  unfold fitOf
  split
  · rfl
  · split <;> rfl
/-- three replicas -/
def threeOf (n : Int) : Int × Int × Int :=
  let a := n % 8
  let b := if a ≤ n.tdiv 8 % 7 then n.tdiv 8 % 7 + 1 else n.tdiv 8 % 7
  let c0 := n.tdiv 56 % 6
  let c1 := if c0 = a ∨ c0 = b then c0 + 1 else c0
  let c2 := if c1 = a ∨ c1 = b then c1 + 1 else c1
  let c3 := if c2 = a ∨ c2 = b then c2 + 1 else c2
  let c4 := if c3 = a ∨ c3 = b then c3 + 1 else c3
  (a, b, c4)
theorem three_apart (n : Int) : ((0 ≤ (threeOf n).1 ∧ (threeOf n).1 < 8) ∧ (0 ≤ (threeOf n).2.1 ∧ (threeOf n).2.1 < 8) ∧ (0 ≤ (threeOf n).2.2 ∧ (threeOf n).2.2 < 8)) ∧
    (threeOf n).1 ≠ (threeOf n).2.1 ∧ (threeOf n).1 ≠ (threeOf n).2.2 ∧ (threeOf n).2.1 ≠ (threeOf n).2.2 := by
  have h1 : 0 ≤ n % 8 ∧ n % 8 < 8 := by omega
  have h2 : 0 ≤ n.tdiv 8 % 7 ∧ n.tdiv 8 % 7 < 7 := by omega
  have h3 : 0 ≤ n.tdiv 56 % 6 ∧ n.tdiv 56 % 6 < 6 := by omega
  unfold threeOf
  simp only
  generalize n % 8 = a at *
  generalize n.tdiv 8 % 7 = b0 at *
  generalize n.tdiv 56 % 6 = c at *
  obtain ⟨b, hb⟩ : ∃ b, b = if a ≤ b0 then b0 + 1 else b0 := ⟨_, rfl⟩
  rw [← hb]
  have h4 : 0 ≤ b ∧ b < 8 ∧ a ≠ b := by
    rw [hb]
    split <;> omega
  clear hb h2
  by_cases e0 : c = a ∨ c = b
  · rw [if_pos e0]
    by_cases e1 : c + 1 = a ∨ c + 1 = b
    · rw [if_pos e1, if_neg (show ¬ (c + 1 + 1 = a ∨ c + 1 + 1 = b) by omega), if_neg (show ¬ (c + 1 + 1 = a ∨ c + 1 + 1 = b) by omega)]
      omega
    · rw [if_neg e1, if_neg e1, if_neg e1]
      omega
  · rw [if_neg e0, if_neg e0, if_neg e0, if_neg e0]
    omega

/-- the ID of the number n of a replica -/
def nm4 (r n : Int) : Nm := ⟨4, r, n⟩
theorem doneIds_two (l : List El) (a b : Opn × Nm) : doneIds l [a, b] = doneOp (doneOp l a.1 a.2) b.1 b.2 := rfl
theorem doneAll_two (l : List El) (a b : Opn) : doneAll l [a, b] = doneOp (doneOp l a a.nm) b b.nm := rfl
theorem doneAll_three (l : List El) (a b c : Opn) : doneAll l [a, b, c] = doneOp (doneOp (doneOp l a a.nm) b b.nm) c c.nm := rfl
theorem Tof_nm (a b : Opn) : (Tof a b).nm = a.nm := by unfold Opn.nm; rw [Tof_rep]
theorem nm_in {o : Opn} (h : rightOp o = true) : o.nm.In := by
  have := rightOp_rep h
  refine ⟨?_, ?_, ?_⟩
  · show I64 4; exact ⟨by decide, by decide⟩
  · show I64 o.rep; unfold I64; omega
  · show I64 1; exact ⟨by decide, by decide⟩
/-- what stands for an operation on a row: it fits, its name is new there -/
structure Can (l : List El) (o : Opn) : Prop where
  fits : Fits o l.length
  new : o.nm ∉ l.map El.nm
theorem Can.behind {l : List El} {a b : Opn} (hb : Can l b) (hr : a.rep ≠ b.rep) (hl : l.length < 9223372036854775807) : Can (doneOp l a a.nm) (Tof b a) := by
  refine ⟨by rw [doneOp_len']; exact hb.fits.behind' hl, fun h => ?_⟩
  rw [Tof_nm] at h
  rcases nm_done h with ⟨_, h⟩ | h
  · have := congrArg Nm.rep h
    simp only [Opn.nm] at this
    exact hr this.symm
  · exact hb.new h
theorem Can.do_ {l : List El} {o : Opn} {H : Int} (h : Can l o) (hc : Calm H l) (hH : H ≤ 1000000) : CanDo l o o.nm := canDo_of h.fits hc hH (nm_in h.fits.right) (fun _ => h.new)
theorem canAll_two {l : List El} {a b : Opn} (ha : Can l a) (hb : Can l b) (hc : Calm 2 l) (hr : a.rep ≠ b.rep) (hl : l.length < 9223372036854775807) : CanAll l [a, Tof b a] :=
  ⟨ha.do_ hc (by decide), (Can.behind (a := a) hb hr hl).do_ (hc.done (by decide) _ _) (by decide), trivial⟩
theorem two_ways {l : List El} {a b : Opn} (ha : Can l a) (hb : Can l b) (hr : a.rep ≠ b.rep) (hl : l.length < 9223372036854775807) : doneAll l [a, Tof b a] = doneAll l [b, Tof a b] := by
  rw [doneAll_two, doneAll_two, Tof_nm, Tof_nm]
  exact tp1 _ _ ha.fits hb.fits hr hl
theorem canAll_three {l : List El} {a b c : Opn} (ha : Can l a) (hb : Can l b) (hc : Can l c) (hq : Calm 2 l) (hab : a.rep ≠ b.rep) (hac : a.rep ≠ c.rep) (hbc : b.rep ≠ c.rep) (hl : l.length < 4611686018427387904) :
    CanAll l [a, Tof b a, Tof (Tof c a) (Tof b a)] := by
  have h1 := Can.behind (a := a) hb hab (by omega)
  have h2 := Can.behind (a := a) hc hac (by omega)
  have q1 := hq.done (by decide) a a.nm
  have h3 := Can.behind (a := Tof b a) h2 (by rw [Tof_rep, Tof_rep]; exact hbc) (by rw [doneOp_len']; unfold Opn.ins; split <;> omega)
  exact ⟨ha.do_ hq (by decide), h1.do_ q1 (by decide), h3.do_ (q1.done (by decide) _ _) (by decide), trivial⟩
theorem three_swap12 {l : List El} {a b c : Opn} (ha : Can l a) (hb : Can l b) (hc : Can l c) (hab : a.rep ≠ b.rep) (hl : l.length < 4611686018427387904) :
    doneAll l [a, Tof b a, Tof (Tof c a) (Tof b a)] = doneAll l [b, Tof a b, Tof (Tof c b) (Tof a b)] := by
  rw [doneAll_three, doneAll_three, tp2 ha.fits hb.fits hc.fits hab hl, Tof_nm b a, tp1 _ _ ha.fits hb.fits hab (by omega), Tof_nm a b, Tof_nm (Tof c b)]
theorem three_swap23 {l : List El} {a b c : Opn} (ha : Can l a) (hb : Can l b) (hc : Can l c) (hab : a.rep ≠ b.rep) (hac : a.rep ≠ c.rep) (hbc : b.rep ≠ c.rep) (hl : l.length < 4611686018427387904) :
    doneAll l [a, Tof b a, Tof (Tof c a) (Tof b a)] = doneAll l [a, Tof c a, Tof (Tof b a) (Tof c a)] := by
  have h1 := Can.behind (a := a) hb hab (by omega)
  have h2 := Can.behind (a := a) hc hac (by omega)
  have := two_ways h1 h2 (by rw [Tof_rep, Tof_rep]; exact hbc) (by rw [doneOp_len']; unfold Opn.ins; split <;> omega)
  exact this
end Go.Proofs.YtogkbddniacgiaaDoor
