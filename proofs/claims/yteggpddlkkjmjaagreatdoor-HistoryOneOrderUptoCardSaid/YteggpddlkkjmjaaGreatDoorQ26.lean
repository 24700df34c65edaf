/- Part of a proof: what functions of the program compute. Conditions: as each theorem says. -/
import Derived.Test.YteggpddlkkjmjaaGreatDoorQ20
set_option linter.unusedSimpArgs false
set_option linter.unusedVariables false
namespace Go.Proofs.YteggpddlkkjmjaaGreatDoor
open Go Go.RowKit
theorem insAt_get {l : List El} {i : Nat} (e : El) (hi : i ≤ l.length) (k : Nat) : (insAt l i e)[k]? = if k < i then l[k]? else if k = i then some e else l[k - 1]? := by
 unfold insAt
 rw [List.getElem?_append, List.length_take, Nat.min_eq_left hi]
 split
 · rw [List.getElem?_take, if_pos (by assumption)]
 · split
   · next h1 h2 => subst h2; simp
   · next h1 h2 =>
     obtain ⟨m, hm⟩ : ∃ m, k - i = m + 1 := ⟨k - i - 1, by omega⟩
     rw [hm, List.getElem?_cons_succ, List.getElem?_drop]
     congr 1
     omega
theorem insAt_length {l : List El} {i : Nat} (e : El) : (insAt l i e).length = l.length + 1 := by
 unfold insAt
 simp
 omega
theorem hidAt_length (l : List El) (i : Nat) (d : Int) : (hidAt l i d).length = l.length := by
 unfold hidAt
 split <;> simp
theorem hidAt_get (l : List El) (i : Nat) (d : Int) (k : Nat) : (hidAt l i d)[k]? = if k = i then l[k]?.map (·.hide d) else l[k]? := by
 unfold hidAt
 split
 · next e he =>
   rw [List.getElem?_set]
   obtain ⟨h1, h2⟩ := List.getElem?_eq_some_iff.1 he
   by_cases hk : k = i
   · subst hk; simp [h1, h2]
   · simp [hk, Ne.symm hk]
 · next he =>
   split
   · next hk => subst hk; simp [he]
   · rfl
theorem hide_hide (e : El) (c d : Int) : (e.hide c).hide d = (e.hide d).hide c := by
 simp only [El.hide]
 congr 1
 omega
theorem ins_ins {l : List El} {i j : Nat} (x y : El) (hij : i ≤ j) (hj : j ≤ l.length) : insAt (insAt l i x) (j + 1) y = insAt (insAt l j y) i x := by
 apply List.ext_getElem?
 intro k
 have h1 := insAt_length (l := l) (i := i) x
 have h2 := insAt_length (l := l) (i := j) y
 simp only [insAt_get x (show i ≤ l.length by omega), insAt_get y hj, insAt_get y (show j + 1 ≤ (insAt l i x).length by omega), insAt_get x (show i ≤ (insAt l j y).length by omega)]
 grind
theorem hid_ins_lo {l : List El} {i j : Nat} (x : El) (d : Int) (hji : j < i) (hi : i ≤ l.length) : hidAt (insAt l i x) j d = insAt (hidAt l j d) i x := by
 apply List.ext_getElem?
 intro k
 have h1 := hidAt_length l j d
 simp only [hidAt_get, insAt_get x hi, insAt_get x (show i ≤ (hidAt l j d).length by omega)]
 grind
theorem hid_ins_hi {l : List El} {i j : Nat} (x : El) (d : Int) (hij : i ≤ j) (hi : i ≤ l.length) : hidAt (insAt l i x) (j + 1) d = insAt (hidAt l j d) i x := by
 apply List.ext_getElem?
 intro k
 have h1 := hidAt_length l j d
 simp only [hidAt_get, insAt_get x hi, insAt_get x (show i ≤ (hidAt l j d).length by omega)]
 grind
theorem hid_hid (l : List El) (i j : Nat) (c d : Int) : hidAt (hidAt l i c) j d = hidAt (hidAt l j d) i c := by
 apply List.ext_getElem?
 intro k
 simp only [hidAt_get]
 by_cases c1 : k = i
 · subst c1
   by_cases c2 : k = j
   · subst c2
     simp only [if_true, Option.map_map]
     congr 1
     funext e
     exact hide_hide e c d
   · simp [c2]
 · by_cases c2 : k = j
   · subst c2; simp [c1]
   · simp [c1, c2]
theorem Tof_char (a b : Opn) : (Tof a b).char = a.char := by unfold Tof; split <;> rfl
theorem Tof_by (a b : Opn) : (Tof a b).by_ = a.by_ := by unfold Opn.by_; rw [Tof_kind]
theorem moves_iff {a b : Opn} (ha : a.kind = 1 ∨ a.kind = 2 ∨ a.kind = 3) (hx : a.at_ ≠ 9223372036854775807) :
 moves a b = true ↔ b.kind = 1 ∧ (b.at_ < a.at_ ∨ b.at_ = a.at_ ∧ (a.kind = 1 → b.rep ≤ a.rep)) := by
 unfold moves
 by_cases hb : b.kind = 1
 · rw [if_neg (by simp [hb, hx])]
   rcases ha with h | h | h
   · simp [h, hb]
   · simp [h, hb]; omega
   · simp [h, hb]; omega
 · rw [if_pos (.inl hb)]
   simp [hb]
theorem Tof_at {a b : Opn} (ha : a.kind = 1 ∨ a.kind = 2 ∨ a.kind = 3) (hx : a.at_ ≠ 9223372036854775807) :
 (Tof a b).at_ = if b.kind = 1 ∧ (b.at_ < a.at_ ∨ b.at_ = a.at_ ∧ (a.kind = 1 → b.rep ≤ a.rep)) then a.at_ + 1 else a.at_ := by
 have h := moves_iff (b := b) ha hx
 unfold Tof
 split
 · next h' => rw [if_pos (h.1 h')]
 · next h' => rw [if_neg (fun h2 => h' (h.2 h2))]
theorem Tof_still {a b : Opn} (hb : b.kind ≠ 1) : Tof a b = a := by
 have h : moves a b = false := by unfold moves; rw [if_pos (Or.inl hb)]
 unfold Tof
 rw [h]
 rfl
theorem Fits.kind {o : Opn} {n : Nat} (h : Fits o n) : o.kind = 1 ∨ o.kind = 2 ∨ o.kind = 3 := by
 rcases rightOp_kind h.right with h | h | h
 · exact .inl h.1
 · exact .inr (.inl h)
 · exact .inr (.inr h)
theorem rightOp_T (a b : Opn) : rightOp (Tof a b) = rightOp a := by
 unfold rightOp
 rw [Tof_kind, Tof_rep, Tof_char]
theorem doneOp_len (l : List El) (o : Opn) (id : Nm) : (doneOp l o id).length = if o.kind = 1 then l.length + 1 else l.length := by
 split
 · next h => rw [doneOp_ins h, insAt_length]
 · next h => rw [doneOp_hid h, hidAt_length]
theorem Fits.behind {a b : Opn} {n : Nat} (ha : Fits a n) (hn : n < 9223372036854775807) : Fits (Tof a b) (if b.kind = 1 then n + 1 else n) := by
 have hx : a.at_ ≠ 9223372036854775807 := by have := ha.hi; omega
 have h1 := ha.lo
 have h2 := ha.hi
 refine ⟨by rw [rightOp_T]; exact ha.right, ?_, ?_⟩
 · rw [Tof_at ha.kind hx]
   split <;> omega
 · rw [Tof_at ha.kind hx, Tof_kind]
   by_cases hk : b.kind = 1
   · rw [if_pos hk]
     by_cases hc : b.kind = 1 ∧ (b.at_ < a.at_ ∨ b.at_ = a.at_ ∧ (a.kind = 1 → b.rep ≤ a.rep))
     · rw [if_pos hc]; omega
     · rw [if_neg hc]
       omega
   · rw [if_neg hk, if_neg (fun h => hk h.1)]
     omega
theorem toNat_succ {i : Int} (h : 0 ≤ i) : (i + 1).toNat = i.toNat + 1 := by omega
theorem tp1 {l : List El} {a b : Opn} (ia ib : Nm) (ha : Fits a l.length) (hb : Fits b l.length) (hr : a.rep ≠ b.rep) (hl : l.length < 9223372036854775807) :
 doneOp (doneOp l a ia) (Tof b a) ib = doneOp (doneOp l b ib) (Tof a b) ia := by
 have a1 := ha.lo
 have a2 := ha.hi
 have b1 := hb.lo
 have b2 := hb.hi
 have ax : a.at_ ≠ 9223372036854775807 := by omega
 have bx : b.at_ ≠ 9223372036854775807 := by omega
 have ta := Tof_at (b := b) ha.kind ax
 have tb := Tof_at (b := a) hb.kind bx
 by_cases ka : a.kind = 1
 · by_cases kb : b.kind = 1
   · rw [doneOp_ins ka, doneOp_ins kb, doneOp_ins (by rw [Tof_kind, kb]), doneOp_ins (by rw [Tof_kind, ka]), Tof_char, Tof_char, ta, tb]
     by_cases hc : a.at_ < b.at_ ∨ a.at_ = b.at_ ∧ a.rep ≤ b.rep
     · rw [if_pos ⟨ka, by rcases hc with h | ⟨h, h'⟩; exact .inl h; exact .inr ⟨h, fun _ => h'⟩⟩, if_neg (by rintro ⟨_, h | ⟨h, h'⟩⟩; omega; have := h' ka; omega), toNat_succ b1]
       exact ins_ins _ _ (by omega) (by omega)
     · rw [if_neg (by rintro ⟨_, h | ⟨h, h'⟩⟩; omega; have := h' kb; omega), if_pos ⟨kb, by
        rcases Int.lt_trichotomy a.at_ b.at_ with h | h | h
        · exact absurd (Or.inl h) hc
        · exact .inr ⟨h.symm, fun _ => by omega⟩
        · exact .inl h⟩, toNat_succ a1]
       exact (ins_ins _ _ (by omega) (by omega)).symm
   · rw [doneOp_ins ka, doneOp_hid kb, doneOp_hid (by rw [Tof_kind]; exact kb), Tof_still kb, doneOp_ins ka, Tof_by, tb]
     by_cases hc : a.at_ ≤ b.at_
     · rw [if_pos ⟨ka, by rcases Int.lt_or_eq_of_le hc with h | h; exact .inl h; exact .inr ⟨h, fun h => absurd h kb⟩⟩, toNat_succ b1]
       exact hid_ins_hi _ _ (by omega) (by omega)
     · rw [if_neg (by rintro ⟨_, h | ⟨h, h'⟩⟩ <;> omega)]
       exact hid_ins_lo _ _ (by omega) (by omega)
 · by_cases kb : b.kind = 1
   · rw [doneOp_hid ka, doneOp_ins (o := b) kb, doneOp_hid (o := Tof a b) (by rw [Tof_kind]; exact ka), Tof_still (a := b) ka, doneOp_ins kb, Tof_by, ta]
     by_cases hc : b.at_ ≤ a.at_
     · rw [if_pos ⟨kb, by rcases Int.lt_or_eq_of_le hc with h | h; exact .inl h; exact .inr ⟨h, fun h => absurd h ka⟩⟩, toNat_succ a1]
       exact (hid_ins_hi _ _ (by omega) (by omega)).symm
     · rw [if_neg (by rintro ⟨_, h | ⟨h, h'⟩⟩ <;> omega)]
       exact (hid_ins_lo _ _ (by omega) (by omega)).symm
   · rw [doneOp_hid ka, doneOp_hid kb, Tof_still ka, Tof_still kb, doneOp_hid ka, doneOp_hid kb]
     exact hid_hid _ _ _ _ _
theorem Tof_at_le (a b : Opn) : a.at_ ≤ (Tof a b).at_ ∧ (Tof a b).at_ ≤ a.at_ + 1 := by
 unfold Tof
 split
 · exact ⟨by show a.at_ ≤ a.at_ + 1; omega, Int.le_refl _⟩
 · omega
theorem opn_ext {a b : Opn} (h1 : a.kind = b.kind) (h2 : a.at_ = b.at_) (h3 : a.char = b.char) (h4 : a.rep = b.rep) : a = b := by
 obtain ⟨_, _, _, _⟩ := a
 obtain ⟨_, _, _, _⟩ := b
 simp_all
def Opn.key (o : Opn) : Int := 8 * o.at_ + if o.kind = 1 then o.rep else 7
theorem Tof_key {a b : Opn} (ha : rightOp a = true) (hb : rightOp b = true) (hx : a.at_ ≠ 9223372036854775807) :
 (Tof a b).at_ = (if b.kind = 1 ∧ b.key ≤ a.key then a.at_ + 1 else a.at_) ∧ (Tof a b).key = (if b.kind = 1 ∧ b.key ≤ a.key then a.key + 8 else a.key) := by
 have hk : a.kind = 1 ∨ a.kind = 2 ∨ a.kind = 3 := by
  rcases rightOp_kind ha with h | h | h
  · exact .inl h.1
  · exact .inr (.inl h)
  · exact .inr (.inr h)
 have h1 := rightOp_rep ha
 have h2 := rightOp_rep hb
 have ht := Tof_at (b := b) hk hx
 have he : (b.kind = 1 ∧ (b.at_ < a.at_ ∨ b.at_ = a.at_ ∧ (a.kind = 1 → b.rep ≤ a.rep))) ↔ (b.kind = 1 ∧ b.key ≤ a.key) := by
  refine and_congr_right fun kb => ?_
  unfold Opn.key
  rw [if_pos kb]
  by_cases ka : a.kind = 1
  · simp only [ka, if_true, forall_const]; omega
  · simp only [ka, if_false, false_imp_iff, and_true]; omega
 simp only [he] at ht
 refine ⟨ht, ?_⟩
 unfold Opn.key at ht ⊢
 rw [Tof_kind, Tof_rep, ht]
 split <;> split <;> omega
theorem ite_two (P : Prop) [Decidable P] (x y : Int) : P ∧ (if P then x else y) = x ∨ ¬ P ∧ (if P then x else y) = y := by
 by_cases h : P
 · exact .inl ⟨h, if_pos h⟩
 · exact .inr ⟨h, if_neg h⟩
theorem key_law (p q r c : Int) (h : p ≠ q) :
 (if (if p ≤ q then q + 8 else q) ≤ (if p ≤ r then r + 8 else r) then (if p ≤ r then c + 1 else c) + 1 else (if p ≤ r then c + 1 else c)) =
 (if (if q ≤ p then p + 8 else p) ≤ (if q ≤ r then r + 8 else r) then (if q ≤ r then c + 1 else c) + 1 else (if q ≤ r then c + 1 else c)) := by
 rcases ite_two (p ≤ r) (r + 8) r with ⟨a1, a2⟩ | ⟨a1, a2⟩ <;> rw [a2] <;>
 rcases ite_two (p ≤ r) (c + 1) c with ⟨b1, b2⟩ | ⟨b1, b2⟩ <;> rw [b2] <;>
 rcases ite_two (p ≤ q) (q + 8) q with ⟨c1, c2⟩ | ⟨c1, c2⟩ <;> rw [c2] <;>
 rcases ite_two (q ≤ r) (r + 8) r with ⟨d1, d2⟩ | ⟨d1, d2⟩ <;> rw [d2] <;>
 rcases ite_two (q ≤ r) (c + 1) c with ⟨e1, e2⟩ | ⟨e1, e2⟩ <;> rw [e2] <;>
 rcases ite_two (q ≤ p) (p + 8) p with ⟨f1, f2⟩ | ⟨f1, f2⟩ <;> rw [f2] <;>
 clear a2 b2 c2 d2 e2 f2 <;>
 first
  | (exfalso; omega)
  | ((repeat' split) <;> omega)
theorem tp2 {a b c : Opn} {n : Nat} (ha : Fits a n) (hb : Fits b n) (hc : Fits c n) (hab : a.rep ≠ b.rep) (hn : n < 4611686018427387904) :
 Tof (Tof c a) (Tof b a) = Tof (Tof c b) (Tof a b) := by
 have a2 := ha.hi
 have b2 := hb.hi
 have c2 := hc.hi
 refine opn_ext (by simp [Tof_kind]) ?_ (by simp [Tof_char]) (by simp [Tof_rep])
 have hne : a.kind = 1 → b.kind = 1 → a.key ≠ b.key := fun ka kb h => by
  have h1 := rightOp_rep ha.right
  have h2 := rightOp_rep hb.right
  unfold Opn.key at h
  rw [if_pos ka, if_pos kb] at h
  omega
 have m1 : (Tof c a).at_ ≠ 9223372036854775807 := by have := Tof_at_le c a; omega
 have m2 : (Tof c b).at_ ≠ 9223372036854775807 := by have := Tof_at_le c b; omega
 have m3 : c.at_ ≠ 9223372036854775807 := by omega
 have m4 : b.at_ ≠ 9223372036854775807 := by omega
 have m5 : a.at_ ≠ 9223372036854775807 := by omega
 obtain ⟨e1, g1⟩ := Tof_key (a := c) (b := a) hc.right ha.right m3
 obtain ⟨e2, g2⟩ := Tof_key (a := b) (b := a) hb.right ha.right m4
 obtain ⟨e3, g3⟩ := Tof_key (a := c) (b := b) hc.right hb.right m3
 obtain ⟨e4, g4⟩ := Tof_key (a := a) (b := b) ha.right hb.right m5
 obtain ⟨f1, -⟩ := Tof_key (a := Tof c a) (b := Tof b a) (by rw [rightOp_T]; exact hc.right) (by rw [rightOp_T]; exact hb.right) m1
 obtain ⟨f2, -⟩ := Tof_key (a := Tof c b) (b := Tof a b) (by rw [rightOp_T]; exact hc.right) (by rw [rightOp_T]; exact ha.right) m2
 rw [f1, f2, e1, e3, g1, g2, g3, g4]
 simp only [Tof_kind]
 clear f1 f2 e1 e2 e3 e4 g1 g2 g3 g4 ha hb hc a2 b2 c2
 by_cases ka : a.kind = 1
 · by_cases kb : b.kind = 1
   · have := hne ka kb
     simp only [ka, kb, true_and]
     exact key_law _ _ _ _ this
   · simp [ka, kb]
 · simp [ka]
def Opn.ins (o : Opn) : Nat := if o.kind = 1 then 1 else 0
theorem doneOp_len' (l : List El) (o : Opn) (id : Nm) : (doneOp l o id).length = l.length + o.ins := by
 rw [doneOp_len]
 unfold Opn.ins
 split <;> rfl
theorem Fits.behind' {a b : Opn} {n : Nat} (ha : Fits a n) (hn : n < 9223372036854775807) : Fits (Tof a b) (n + b.ins) := by
 have := ha.behind hn (b := b)
 unfold Opn.ins
 split at this <;> simp_all
theorem fit_fits {o : Opn} {n : Nat} {r : Int} (hr : 0 ≤ r ∧ r < 8) (h : (fitOf o n r).2 = true) : Fits (fitOf o n r).1 n := by
 unfold fitOf at h ⊢
 split
 · next hk =>
   refine ⟨?_, ?_, ?_⟩
   · unfold rightOp
     rw [if_neg (by show ¬ (r < 0 ∨ 8 ≤ r); omega), if_pos rfl]
     show rightC (if rightC o.char = true then o.char else 99) = true
     split
     · assumption
     · decide
   · exact Int.emod_nonneg _ (by omega)
   · have := Int.emod_lt_of_pos o.at_ (show (0 : Int) < n + 1 by omega)
     show o.at_ % (n + 1) < n ∨ o.at_ % (n + 1) = n ∧ (1 : Int) = 1
     omega
 · next hk =>
   rw [if_neg hk] at h
   split
   · next h0 => rw [if_pos h0] at h; cases h
   · next h0 =>
     refine ⟨?_, ?_, ?_⟩
     · unfold rightOp
       have : 1 + o.kind % 3 = 2 ∨ 1 + o.kind % 3 = 3 := by omega
       rw [if_neg (by show ¬ (r < 0 ∨ 8 ≤ r); omega), if_neg hk, if_pos this]
       rfl
     · exact Int.emod_nonneg _ (by omega)
     · exact .inl (Int.emod_lt_of_pos _ (by omega))
theorem fit_rep (o : Opn) (n : Nat) (r : Int) : (fitOf o n r).1.rep = r := by
 unfold fitOf
 split
 · rfl
 · split <;> rfl
end Go.Proofs.YteggpddlkkjmjaaGreatDoor
