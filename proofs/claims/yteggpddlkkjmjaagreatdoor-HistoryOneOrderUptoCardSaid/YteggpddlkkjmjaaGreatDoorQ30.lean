/- Part of a proof: what functions of the program compute. Conditions: as each theorem says. -/
import Derived.Test.YteggpddlkkjmjaaGreatDoorQ19
import Derived.Test.YteggpddlkkjmjaaGreatDoorQ21
import Derived.Test.YteggpddlkkjmjaaGreatDoorQ26
set_option linter.unusedSimpArgs false
set_option linter.unusedVariables false
namespace Go.Proofs.YteggpddlkkjmjaaGreatDoor
open Go Go.RowKit
def leC (a b : Clk) : Prop := ∀ k, k < 8 → a.get k ≤ b.get k
def Clk.sum (c : Clk) : Int := c.c0 + c.c1 + c.c2 + c.c3 + c.c4 + c.c5 + c.c6 + c.c7
theorem Clk.sum_set (c : Clk) {r : Nat} (h : r < 8) (n : Int) : (c.set r n).sum = c.sum - c.get r + n := by
 rcases lt8 h with rfl | rfl | rfl | rfl | rfl | rfl | rfl | rfl <;>
  simp [Clk.sum, Clk.set, Clk.get, Clk.list] <;> omega
theorem leC.refl (a : Clk) : leC a a := fun _ _ => Int.le_refl _
theorem leC.trans {a b c : Clk} (h : leC a b) (k : leC b c) : leC a c := fun r hr => Int.le_trans (h r hr) (k r hr)
theorem leC.sum {a b : Clk} (h : leC a b) : a.sum ≤ b.sum := by
 have h0 := h 0 (by decide); have h1 := h 1 (by decide); have h2 := h 2 (by decide); have h3 := h 3 (by decide)
 have h4 := h 4 (by decide); have h5 := h 5 (by decide); have h6 := h 6 (by decide); have h7 := h 7 (by decide)
 simp [Clk.get, Clk.list] at h0 h1 h2 h3 h4 h5 h6 h7
 unfold Clk.sum
 omega
theorem leC.lt {a b : Clk} (h : leC a b) {r : Nat} (hr : r < 8) (hlt : a.get r < b.get r) : a.sum < b.sum := by
 have h1 : leC (a.set r (b.get r)) b := fun k hk => by
  rw [Clk.get_set _ hr]
  split
  · next e => rw [e]; exact Int.le_refl _
  · exact h k hk
 have := h1.sum
 rw [Clk.sum_set _ hr] at this
 omega
theorem leC.anti {a b : Clk} (h : leC a b) (k : leC b a) : a = b := Clk.ext_get fun r hr => Int.le_antisymm (h r hr) (k r hr)
theorem leC.ne {a b : Clk} (h : leC a b) (hne : a ≠ b) : ∃ r, r < 8 ∧ a.get r < b.get r := by
 refine Classical.byContradiction fun hc => hne (h.anti fun r hr => ?_)
 refine Classical.byContradiction fun hlt => hc ⟨r, hr, ?_⟩
 omega
theorem leC.set {d : Clk} {r : Nat} (hr : r < 8) {n : Int} (hn : d.get r ≤ n) : leC d (d.set r n) := fun k hk => by
 rw [Clk.get_set _ hr]
 split
 · next e => rw [e]; exact hn
 · exact Int.le_refl _
theorem Clk.sum_zero : Clk.zero.sum = 0 := rfl
def Actn.r (x : Actn) : Nat := x.op.rep.toNat
def Actn.here (x : Actn) (d : Clk) : Prop := x.num ≤ d.get x.r
instance (x : Actn) (d : Clk) : Decidable (x.here d) := inferInstanceAs (Decidable (_ ≤ _))
def Cl (G : List Actn) (d : Clk) : Prop := ∀ r, r < 8 → 0 ≤ d.get r ∧ ∀ n : Int, 1 ≤ n → n ≤ d.get r → ∃ y ∈ G, y.op.rep = r ∧ y.num = n ∧ leC y.clk d
def lenAt (G : List Actn) (n0 : Nat) (d : Clk) : Nat := n0 + G.countP fun y => decide (y.op.kind = 1 ∧ y.here d)
structure Web (G : List Actn) (n0 : Nat) : Prop where
 rep : ∀ x ∈ G, 0 ≤ x.op.rep ∧ x.op.rep < 8
 num : ∀ x ∈ G, 1 ≤ x.num
 one : ∀ x ∈ G, ∀ y ∈ G, x.op.rep = y.op.rep → x.num = y.num → x = y
 own : ∀ x ∈ G, x.clk.get x.r = x.num - 1
 cl : ∀ x ∈ G, Cl G x.clk
 fit : ∀ x ∈ G, Fits x.op (lenAt G n0 x.clk)
 nd : G.Nodup
 few : n0 + G.length < 1099511627776
structure Rdy (G : List Actn) (d : Clk) (e : Actn) : Prop where
 mem : e ∈ G
 cl : Cl G d
 le : leC e.clk d
 next : d.get e.r = e.num - 1
section
variable {G : List Actn} {n0 : Nat}
theorem Web.r_lt (W : Web G n0) {x : Actn} (h : x ∈ G) : x.r < 8 := by
 have := W.rep x h
 unfold Actn.r
 omega
theorem Web.rep_eq (W : Web G n0) {x y : Actn} (h : x ∈ G) (k : y ∈ G) (e : x.r = y.r) : x.op.rep = y.op.rep := by
 have := W.rep x h
 have := W.rep y k
 unfold Actn.r at e
 omega
theorem Web.at_ (W : Web G n0) {d : Clk} (hd : Cl G d) {x : Actn} (hx : x ∈ G) (hh : x.here d) : leC x.clk d := by
 obtain ⟨y, hy, h1, h2, h3⟩ := (hd x.r (W.r_lt hx)).2 x.num (W.num x hx) hh
 have hr := W.rep x hx
 have : y = x := W.one y hy x hx (by rw [h1]; unfold Actn.r; omega) h2
 rwa [this] at h3
theorem Cl.zero : Cl G Clk.zero := fun r _ => by
 rw [Clk.get_zero]
 exact ⟨Int.le_refl _, fun n h1 h2 => by omega⟩
theorem Cl.nonneg {d : Clk} (h : Cl G d) : leC Clk.zero d := fun k hk => by rw [Clk.get_zero]; exact (h k hk).1
theorem Cl.sum_nonneg {d : Clk} (h : Cl G d) : 0 ≤ d.sum := by
 have := h.nonneg.sum
 rwa [Clk.sum_zero] at this
theorem exists_max {α : Type} (P : α → Prop) (f : α → Int) (B : Int) (hB : ∀ y, P y → f y ≤ B) : ∀ (n : Nat) (y : α), P y → B - f y ≤ n → ∃ m, P m ∧ ∀ z, P z → f z ≤ f m
 | 0, y, hy, hn => ⟨y, hy, fun z hz => by have := hB z hz; omega⟩
 | n + 1, y, hy, hn => by
  by_cases hc : ∀ z, P z → f z ≤ f y
  · exact ⟨y, hy, hc⟩
  · simp only [Classical.not_forall] at hc
    obtain ⟨z, hz, hlt⟩ := hc
    exact exists_max P f B hB n z hz (by omega)
theorem Web.top (W : Web G n0) {c d : Clk} (hc : Cl G c) (hd : Cl G d) (hle : leC c d) (hne : c ≠ d) : ∃ y d1, Rdy G d1 y ∧ d = d1.set y.r y.num ∧ leC c d1 := by
 obtain ⟨r, hr, hlt⟩ := hle.ne hne
 have hc0 := (hc r hr).1
 obtain ⟨y0, hy0, h1, h2, h3⟩ := (hd r hr).2 (d.get r) (by omega) (Int.le_refl _)
 have hr0 : y0.r = r := by unfold Actn.r; omega
 obtain ⟨y, ⟨hy, hyd, hyc⟩, hmax⟩ := exists_max (fun y => y ∈ G ∧ y.here d ∧ c.get y.r < y.num) (fun y => y.clk.sum) d.sum (fun y hy => (W.at_ hd hy.1 hy.2.1).sum)
  (d.sum - y0.clk.sum).toNat y0 ⟨hy0, by unfold Actn.here; rw [hr0, h2]; exact Int.le_refl _, by rw [hr0, h2]; exact hlt⟩ (by omega)
 have hyr := W.r_lt hy
 have hown := W.own y hy
 have later : ∀ z, z ∈ G → y.here z.clk → y.clk.sum < z.clk.sum := fun z hz hyz => by
  refine (W.at_ (W.cl z hz) hy hyz).lt hyr ?_
  unfold Actn.here at hyz
  omega
 have hnum : d.get y.r = y.num := by
  refine Int.le_antisymm (Classical.byContradiction fun hn => ?_) hyd
  obtain ⟨z, hz, z1, z2, z3⟩ := (hd y.r hyr).2 (y.num + 1) (by have := W.num y hy; omega) (by omega)
  have hzr : z.r = y.r := by unfold Actn.r at z1 ⊢; omega
  have h5 : y.here z.clk := by
   have := W.own z hz
   unfold Actn.here
   rw [← hzr, this]
   omega
  have h6 := later z hz h5
  have h7 := hmax z ⟨hz, by unfold Actn.here; rw [hzr]; omega, by rw [hzr]; omega⟩
  omega
 have hcl1 : Cl G (d.set y.r (y.num - 1)) := fun k hk => by
  have hmono : leC (d.set y.r (y.num - 1)) d := fun j hj => by
   rw [Clk.get_set _ hyr]
   split
   · next e => rw [e, hnum]; omega
   · exact Int.le_refl _
  refine ⟨?_, fun n hn1 hn2 => ?_⟩
  · rw [Clk.get_set _ hyr]
    split
    · have := W.num y hy; omega
    · exact (hd k hk).1
  · obtain ⟨z, hz, z1, z2, z3⟩ := (hd k hk).2 n hn1 (Int.le_trans hn2 (hmono k hk))
    have hzr : z.r = k := by unfold Actn.r; omega
    refine ⟨z, hz, z1, z2, fun j hj => ?_⟩
    rw [Clk.get_set _ hyr]
    split
    · next e =>
      refine Classical.byContradiction fun hlt => ?_
      have hyz : y.here z.clk := by unfold Actn.here; rw [← e]; omega
      by_cases hzc : c.get z.r < z.num
      · have := later z hz hyz
        have := hmax z ⟨hz, by unfold Actn.here; rw [hzr, z2]; exact Int.le_trans hn2 (hmono k hk), hzc⟩
        omega
      · have h8 := W.at_ hc hz (by unfold Actn.here; omega) y.r hyr
        unfold Actn.here at hyz
        omega
    · exact z3 j hj
 refine ⟨y, d.set y.r (y.num - 1), ⟨hy, hcl1, fun k hk => ?_, ?_⟩, ?_, fun k hk => ?_⟩
 · rw [Clk.get_set _ hyr]
   split
   · next e => rw [e, hown]; exact Int.le_refl _
   · exact W.at_ hd hy hyd k hk
 · rw [Clk.get_set _ hyr, if_pos rfl]
 · refine Clk.ext_get fun k hk => ?_
   rw [Clk.get_set _ hyr, Clk.get_set _ hyr]
   split
   · next e => rw [e, hnum]
   · rfl
 · rw [Clk.get_set _ hyr]
   split
   · next e => rw [e]; omega
   · exact hle k hk
theorem Rdy.sum (W : Web G n0) {d : Clk} {e : Actn} (h : Rdy G d e) : (d.set e.r e.num).sum = d.sum + 1 := by
 rw [Clk.sum_set _ (W.r_lt h.mem), h.next]
 omega
theorem Rdy.cl_set (W : Web G n0) {d : Clk} {f : Actn} (h : Rdy G d f) : Cl G (d.set f.r f.num) := fun k hk => by
 have hr := W.r_lt h.mem
 have hn := W.num f h.mem
 have hle : leC d (d.set f.r f.num) := leC.set hr (by rw [h.next]; omega)
 refine ⟨?_, fun n h1 h2 => ?_⟩
 · rw [Clk.get_set _ hr]
   split
   · omega
   · exact (h.cl k hk).1
 · rw [Clk.get_set _ hr] at h2
   by_cases hc : k = f.r ∧ n = f.num
   · have := W.rep f h.mem
     exact ⟨f, h.mem, by rw [hc.1]; unfold Actn.r; omega, hc.2.symm, h.le.trans hle⟩
   · obtain ⟨y, hy, y1, y2, y3⟩ := (h.cl k hk).2 n h1 (by
      split at h2
      · next e => rw [e, h.next]; have : n ≠ f.num := fun he => hc ⟨e, he⟩; omega
      · exact h2)
     exact ⟨y, hy, y1, y2, y3.trans hle⟩
theorem Rdy.behind (W : Web G n0) {d : Clk} {e f : Actn} (he : Rdy G d e) (hf : Rdy G d f) (hne : e.op.rep ≠ f.op.rep) : Rdy G (d.set f.r f.num) e := by
 have hr := W.r_lt hf.mem
 refine ⟨he.mem, hf.cl_set W, he.le.trans (leC.set hr (by rw [hf.next]; omega)), ?_⟩
 rw [Clk.get_set _ hr, if_neg (fun e' => hne (W.rep_eq he.mem hf.mem e'))]
 exact he.next
theorem countP_more {α : Type} [DecidableEq α] {f : α} {p q : α → Bool} : ∀ {l : List α}, l.Nodup → f ∈ l → p f = false → (∀ y ∈ l, y ≠ f → q y = p y) → l.countP q = l.countP p + if q f = true then 1 else 0
 | [], _, h, _, _ => by cases h
 | a :: l, hnd, hm, hp, hq => by
  rw [List.nodup_cons] at hnd
  rw [List.countP_cons, List.countP_cons]
  by_cases ha : a = f
  · subst ha
    have : l.countP q = l.countP p := List.countP_congr fun y hy => by
     rw [hq y (List.mem_cons_of_mem _ hy) fun e => hnd.1 (e ▸ hy)]
    rw [this, hp]
    simp
  · have hm' : f ∈ l := by
     rcases List.mem_cons.1 hm with h | h
     · exact absurd h.symm ha
     · exact h
    rw [countP_more hnd.2 hm' hp fun y hy => hq y (List.mem_cons_of_mem _ hy), hq a List.mem_cons_self ha]
    omega
theorem Rdy.len (W : Web G n0) {d : Clk} {f : Actn} (h : Rdy G d f) : lenAt G n0 (d.set f.r f.num) = lenAt G n0 d + f.op.ins := by
 have hr := W.r_lt h.mem
 unfold lenAt
 rw [countP_more (f := f) (p := fun y => decide (y.op.kind = 1 ∧ y.here d)) W.nd h.mem]
 · have : f.here (d.set f.r f.num) := by unfold Actn.here; rw [Clk.get_set _ hr, if_pos rfl]; exact Int.le_refl _
   unfold Opn.ins
   simp [this]
   omega
 · have : ¬ f.here d := by unfold Actn.here; have := h.next; omega
   simp [this]
 · intro y hy hne
   have : y.here (d.set f.r f.num) ↔ y.here d := by
    unfold Actn.here
    rw [Clk.get_set _ hr]
    split
    · next e =>
      have hn : y.num ≠ f.num := fun en => hne (W.one y hy f h.mem (W.rep_eq hy h.mem e) en)
      have := h.next
      rw [e]
      omega
    · exact Iff.rfl
   simp [this]
theorem lenAt_le (W : Web G n0) (d : Clk) : lenAt G n0 d < 1099511627776 := by
 have := W.few
 have := List.countP_le_length (p := fun y : Actn => decide (y.op.kind = 1 ∧ y.here d)) (l := G)
 unfold lenAt
 omega
inductive Fm (G : List Actn) : Clk → Actn → Opn → Prop
 | base {x : Actn} : x ∈ G → Fm G x.clk x x.op
 | step {d : Clk} {e f : Actn} {o p : Opn} : Fm G d e o → Fm G d f p → e.op.rep ≠ f.op.rep → Fm G (d.set f.r f.num) e (Tof o p)
theorem Fm.rdy (W : Web G n0) {d : Clk} {e : Actn} {o : Opn} (h : Fm G d e o) : Rdy G d e := by
 induction h with
 | @base x hx => exact ⟨hx, W.cl x hx, leC.refl _, W.own x hx⟩
 | step h1 h2 hne i1 i2 => exact i1.behind W i2 hne
theorem Fm.like {d : Clk} {e : Actn} {o : Opn} (h : Fm G d e o) : o.kind = e.op.kind ∧ o.rep = e.op.rep ∧ o.char = e.op.char := by
 induction h with
 | base hx => exact ⟨rfl, rfl, rfl⟩
 | step h1 h2 hne i1 i2 => rw [Tof_kind, Tof_rep, Tof_char]; exact i1
theorem Fm.ins {d : Clk} {e : Actn} {o : Opn} (h : Fm G d e o) : o.ins = e.op.ins := by
 unfold Opn.ins
 rw [h.like.1]
theorem Fm.fits (W : Web G n0) {d : Clk} {e : Actn} {o : Opn} (h : Fm G d e o) : Fits o (lenAt G n0 d) := by
 induction h with
 | @base x hx => exact W.fit x hx
 | @step d e f o p h1 h2 hne i1 i2 =>
  rw [(h2.rdy W).len W, ← h2.ins]
  exact i1.behind' (by have := lenAt_le W d; omega)
theorem Rdy.back (W : Web G n0) {d1 : Clk} {y e : Actn} (hy : Rdy G d1 y) (he : Rdy G (d1.set y.r y.num) e) (hle : leC e.clk d1) : Rdy G d1 e ∧ e.op.rep ≠ y.op.rep := by
 have hr := W.r_lt hy.mem
 have hn := he.next
 have hown := W.own e he.mem
 have her := W.r_lt he.mem
 rw [Clk.get_set _ hr] at hn
 have hne : e.r ≠ y.r := fun e' => by
  rw [if_pos e'] at hn
  have h1 := hle e.r her
  rw [e'] at h1 hown
  have := hy.next
  omega
 rw [if_neg hne] at hn
 exact ⟨⟨he.mem, hy.cl, hle, hn⟩, fun e' => hne (by unfold Actn.r; rw [e'])⟩
theorem Web.square (W : Web G n0) {d1 d2 : Clk} {f1 f2 : Actn} (h1 : Rdy G d1 f1) (h2 : Rdy G d2 f2) (he : d1.set f1.r f1.num = d2.set f2.r f2.num) (hne : f1.op.rep ≠ f2.op.rep) :
 ∃ d, Rdy G d f1 ∧ Rdy G d f2 ∧ d1 = d.set f2.r f2.num ∧ d2 = d.set f1.r f1.num ∧ ∀ c, leC c d1 → leC c d2 → leC c d := by
 have r1 := W.r_lt h1.mem
 have r2 := W.r_lt h2.mem
 have hr : f1.r ≠ f2.r := fun e => hne (W.rep_eq h1.mem h2.mem e)
 have hg : ∀ k, (if k = f1.r then f1.num else d1.get k) = if k = f2.r then f2.num else d2.get k := fun k => by
  rw [← Clk.get_set _ r1, he, Clk.get_set _ r2]
 have g1 : d1.get f2.r = f2.num := by have := hg f2.r; rwa [if_neg (Ne.symm hr), if_pos rfl] at this
 have g2 : d2.get f1.r = f1.num := by have := hg f1.r; rw [if_neg hr, if_pos rfl] at this; exact this.symm
 have go : ∀ k, k ≠ f1.r → k ≠ f2.r → d1.get k = d2.get k := fun k k1 k2 => by have := hg k; rwa [if_neg k1, if_neg k2] at this
 have hd : ∀ k, (d1.set f2.r (f2.num - 1)).get k = if k = f2.r then f2.num - 1 else d1.get k := fun k => Clk.get_set _ r2 _ k
 have n1 := h1.next
 have n2 := h2.next
 have hle1 : leC (d1.set f2.r (f2.num - 1)) d1 := fun k hk => by
  rw [hd]
  split
  · next e => rw [e, g1]; omega
  · exact Int.le_refl _
 have hle2 : leC (d1.set f2.r (f2.num - 1)) d2 := fun k hk => by
  rw [hd]
  split
  · next e => rw [e, n2]; exact Int.le_refl _
  · next e =>
    by_cases k1 : k = f1.r
    · rw [k1, n1, g2]; omega
    · rw [go k k1 e]; exact Int.le_refl _
 have hmin : ∀ c, leC c d1 → leC c d2 → leC c (d1.set f2.r (f2.num - 1)) := fun c c1 c2 k hk => by
  rw [hd]
  split
  · next e => have := c2 k hk; rw [e, n2] at this; rw [e]; exact this
  · exact c1 k hk
 have hcl : Cl G (d1.set f2.r (f2.num - 1)) := fun k hk => by
  refine ⟨?_, fun n m1 m2 => ?_⟩
  · rw [hd]
    split
    · have := (h2.cl k hk).1; next e => rw [e, n2] at this; exact this
    · exact (h1.cl k hk).1
  · obtain ⟨y, hy, y1, y2, y3⟩ := (h1.cl k hk).2 n m1 (Int.le_trans m2 (hle1 k hk))
    have hyr : y.r = k := by unfold Actn.r; omega
    exact ⟨y, hy, y1, y2, hmin _ y3 (W.at_ h2.cl hy (by unfold Actn.here; rw [hyr, y2]; exact Int.le_trans m2 (hle2 k hk)))⟩
 have e1 : d1 = (d1.set f2.r (f2.num - 1)).set f2.r f2.num := Clk.ext_get fun k hk => by
  rw [Clk.get_set _ r2, hd]
  split
  · next e => rw [e, g1]
  · rfl
 have e2 : d2 = (d1.set f2.r (f2.num - 1)).set f1.r f1.num := Clk.ext_get fun k hk => by
  rw [Clk.get_set _ r1, hd]
  split
  · next e => rw [e, g2]
  · next k1 =>
    split
    · next e => rw [e, n2]
    · next k2 => exact (go k k1 k2).symm
 refine ⟨d1.set f2.r (f2.num - 1), ⟨h1.mem, hcl, hmin _ h1.le ?_, ?_⟩, ⟨h2.mem, hcl, hmin _ ?_ h2.le, ?_⟩, e1, e2, hmin⟩
 · exact W.at_ h2.cl h1.mem (by unfold Actn.here; rw [g2]; exact Int.le_refl _)
 · rw [hd, if_neg hr, n1]
 · exact W.at_ h1.cl h2.mem (by unfold Actn.here; rw [g1]; exact Int.le_refl _)
 · rw [hd, if_pos rfl]
theorem Web.same_last (W : Web G n0) {d1 d2 : Clk} {f1 f2 : Actn} (h1 : Rdy G d1 f1) (h2 : Rdy G d2 f2) (he : d1.set f1.r f1.num = d2.set f2.r f2.num) (hr : f1.op.rep = f2.op.rep) : f1 = f2 ∧ d1 = d2 := by
 have r1 := W.r_lt h1.mem
 have r2 := W.r_lt h2.mem
 have hrr : f1.r = f2.r := by unfold Actn.r; rw [hr]
 have hg : ∀ k, (if k = f1.r then f1.num else d1.get k) = if k = f2.r then f2.num else d2.get k := fun k => by
  rw [← Clk.get_set _ r1, he, Clk.get_set _ r2]
 have hn : f1.num = f2.num := by have := hg f1.r; rwa [if_pos rfl, if_pos hrr] at this
 have hf := W.one f1 h1.mem f2 h2.mem hr hn
 refine ⟨hf, Clk.ext_get fun k hk => ?_⟩
 by_cases hk1 : k = f1.r
 · rw [hk1, h1.next, hrr, h2.next, hn]
 · have := hg k
   rwa [if_neg hk1, if_neg (hrr ▸ hk1)] at this
theorem Web.fm (W : Web G n0) : ∀ (N : Nat) (d : Clk), Cl G d → d.sum < N → (∀ e, Rdy G d e → ∃ o, Fm G d e o) ∧ ∀ e o o', Fm G d e o → Fm G d e o' → o = o'
 | 0, d, hc, hN => by have := hc.sum_nonneg; omega
 | N + 1, d, hc, hN => by
  constructor
  · intro e he
    by_cases hd : e.clk = d
    · exact ⟨e.op, hd ▸ Fm.base he.mem⟩
    · obtain ⟨y, d1, hy, rfl, hle⟩ := W.top (W.cl e he.mem) hc he.le hd
      obtain ⟨hb, hne⟩ := hy.back W he hle
      have hs := hy.sum W
      obtain ⟨o, ho⟩ := (W.fm N d1 hy.cl (by omega)).1 e hb
      obtain ⟨p, hp⟩ := (W.fm N d1 hy.cl (by omega)).1 y hy
      exact ⟨Tof o p, .step ho hp hne⟩
  · intro e o o' ho ho'
    generalize hd : d = d' at ho'
    cases ho with
    | base hx =>
     cases ho' with
     | base _ => rfl
     | @step d2 _ f2 o2 p2 a2 b2 n2 =>
      have h1 := (b2.rdy W).next
      have h2 := (a2.rdy W).le f2.r (W.r_lt (b2.rdy W).mem)
      rw [hd, Clk.get_set _ (W.r_lt (b2.rdy W).mem), if_pos rfl] at h2
      omega
    | @step d1 _ f1 o1 p1 a1 b1 n1 =>
     cases ho' with
     | base _ =>
      have h1 := (b1.rdy W).next
      have h2 := (a1.rdy W).le f1.r (W.r_lt (b1.rdy W).mem)
      rw [← hd, Clk.get_set _ (W.r_lt (b1.rdy W).mem), if_pos rfl] at h2
      omega
     | @step d2 _ f2 o2 p2 a2 b2 n2 =>
      have k1 := b1.rdy W
      have k2 := b2.rdy W
      have s1 := k1.sum W
      have s2 := k2.sum W
      by_cases hr : f1.op.rep = f2.op.rep
      · obtain ⟨rfl, rfl⟩ := W.same_last k1 k2 hd hr
        have hu := (W.fm N d1 k1.cl (by omega)).2
        rw [hu e o1 o2 a1 a2, hu f1 p1 p2 b1 b2]
      · obtain ⟨d0, q1, q2, rfl, rfl, hmin⟩ := W.square k1 k2 hd hr
        have t1 := q1.sum W
        have t2 := q2.sum W
        obtain ⟨hT, -⟩ := W.fm N d0 q1.cl (by omega)
        have u1 := (W.fm N _ k1.cl (by omega)).2
        have u2 := (W.fm N _ k2.cl (by omega)).2
        obtain ⟨qe, -⟩ := q2.back W (a1.rdy W) (hmin _ (a1.rdy W).le (a2.rdy W).le)
        obtain ⟨oe, he⟩ := hT e qe
        obtain ⟨g1, hg1⟩ := hT f1 q1
        obtain ⟨g2, hg2⟩ := hT f2 q2
        rw [u1 e o1 (Tof oe g2) a1 (.step he hg2 n2), u1 f1 p1 (Tof g1 g2) b1 (.step hg1 hg2 hr), u2 e o2 (Tof oe g1) a2 (.step he hg1 n1), u2 f2 p2 (Tof g2 g1) b2 (.step hg2 hg1 (Ne.symm hr))]
        refine (tp2 (hg2.fits W) (hg1.fits W) (he.fits W) ?_ (by have := lenAt_le W d0; omega))
        rw [hg2.like.2.1, hg1.like.2.1]
        exact Ne.symm hr
theorem Web.fm_ex (W : Web G n0) {d : Clk} {e : Actn} (h : Rdy G d e) : ∃ o, Fm G d e o := (W.fm (d.sum.toNat + 1) d h.cl (by omega)).1 e h
theorem Web.fm_one (W : Web G n0) {d : Clk} {e : Actn} {o o' : Opn} (h : Fm G d e o) (h' : Fm G d e o') : o = o' := (W.fm (d.sum.toNat + 1) d (h.rdy W).cl (by omega)).2 e o o' h h'
inductive Rw (G : List Actn) (ep : Int) (b : List El) : Clk → List El → Prop
 | zero : Rw G ep b Clk.zero b
 | step {d : Clk} {l : List El} {e : Actn} {o : Opn} : Rw G ep b d l → Fm G d e o → Rw G ep b (d.set e.r e.num) (doneOp l o ⟨ep, e.op.rep, e.num⟩)
variable {ep : Int} {b : List El}
theorem Rw.cl (W : Web G n0) {d : Clk} {l : List El} (h : Rw G ep b d l) : Cl G d := by
 cases h with
 | zero => exact Cl.zero
 | step h1 h2 => exact (h2.rdy W).cl_set W
theorem lenAt_zero (W : Web G n0) : lenAt G n0 Clk.zero = n0 := by
 unfold lenAt
 rw [List.countP_eq_zero.2]
 · rfl
 · intro y hy
   have h1 := W.num y hy
   have h2 : ¬ y.here Clk.zero := by unfold Actn.here; rw [Clk.get_zero]; omega
   simp [h2]
theorem Rw.len (W : Web G b.length) {d : Clk} {l : List El} (h : Rw G ep b d l) : l.length = lenAt G b.length d := by
 induction h with
 | zero => exact (lenAt_zero W).symm
 | step h1 h2 ih => rw [doneOp_len', ih, (h2.rdy W).len W, h2.ins]
theorem Web.rw (W : Web G b.length) : ∀ (N : Nat) (d : Clk), Cl G d → d.sum < N → (∃ l, Rw G ep b d l) ∧ ∀ l l', Rw G ep b d l → Rw G ep b d l' → l = l'
 | 0, d, hc, hN => by have := hc.sum_nonneg; omega
 | N + 1, d, hc, hN => by
  constructor
  · by_cases hd : Clk.zero = d
    · exact ⟨b, hd ▸ Rw.zero⟩
    · obtain ⟨y, d1, hy, rfl, hle⟩ := W.top Cl.zero hc hc.nonneg hd
      have hs := hy.sum W
      obtain ⟨l, hl⟩ := (W.rw N d1 hy.cl (by omega)).1
      obtain ⟨o, ho⟩ := W.fm_ex hy
      exact ⟨_, .step hl ho⟩
  · intro l l' h h'
    generalize hd : d = d' at h'
    cases h with
    | zero =>
     cases h' with
     | zero => rfl
     | @step d2 l2 e2 o2 a2 b2 =>
      have h1 := (b2.rdy W).sum W
      have h2 := (b2.rdy W).cl.sum_nonneg
      rw [← hd, Clk.sum_zero] at h1
      omega
    | @step d1 l1 e1 o1 a1 b1 =>
     cases h' with
     | zero =>
      have h1 := (b1.rdy W).sum W
      have h2 := (b1.rdy W).cl.sum_nonneg
      rw [hd, Clk.sum_zero] at h1
      omega
     | @step d2 l2 e2 o2 a2 b2 =>
      have k1 := b1.rdy W
      have k2 := b2.rdy W
      have s1 := k1.sum W
      have s2 := k2.sum W
      by_cases hr : e1.op.rep = e2.op.rep
      · obtain ⟨rfl, rfl⟩ := W.same_last k1 k2 hd hr
        rw [(W.rw N d1 k1.cl (by omega)).2 l1 l2 a1 a2, W.fm_one b1 b2]
      · obtain ⟨d0, q1, q2, rfl, rfl, hmin⟩ := W.square k1 k2 hd hr
        have t1 := q1.sum W
        have t2 := q2.sum W
        obtain ⟨l0, hl0⟩ := (W.rw N d0 q1.cl (by omega)).1
        obtain ⟨g1, hg1⟩ := W.fm_ex q1
        obtain ⟨g2, hg2⟩ := W.fm_ex q2
        rw [(W.rw N _ k1.cl (by omega)).2 l1 _ a1 (.step hl0 hg2), (W.rw N _ k2.cl (by omega)).2 l2 _ a2 (.step hl0 hg1), W.fm_one b1 (.step hg1 hg2 hr), W.fm_one b2 (.step hg2 hg1 (Ne.symm hr))]
        have hlen := hl0.len W
        refine tp1 _ _ ?_ ?_ ?_ ?_
        · rw [hlen]; exact hg2.fits W
        · rw [hlen]; exact hg1.fits W
        · rw [hg2.like.2.1, hg1.like.2.1]; exact Ne.symm hr
        · rw [hlen]; have := lenAt_le W d0; omega
theorem Web.rw_ex (W : Web G b.length) {d : Clk} (h : Cl G d) : ∃ l, Rw G ep b d l := (W.rw (d.sum.toNat + 1) d h (by omega)).1
theorem Web.rw_one (W : Web G b.length) {d : Clk} {l l' : List El} (h : Rw G ep b d l) (h' : Rw G ep b d l') : l = l' := (W.rw (d.sum.toNat + 1) d (h.cl W) (by omega)).2 l l' h h'
end
def actName (ep : Int) (x : Actn) : Nm := ⟨ep, x.op.rep, x.num⟩
def inD (ep : Int) (b : List El) (c : Clk) (i : Nm) : Bool := decide (i ∈ b.map El.nm) || (decide (i.epoch = ep) && hasC c i.rep i.num)
structure Bs (ep : Int) (b : List El) : Prop where
 ep : ∀ e ∈ b, e.epoch ≠ ep
 nd : (b.map El.nm).Nodup
section
variable {G : List Actn} {n0 : Nat} {ep : Int} {b : List El}
theorem Bs.not_mem (h : Bs ep b) (r n : Int) : (⟨ep, r, n⟩ : Nm) ∉ b.map El.nm := fun hm => by
 obtain ⟨e, he, h1⟩ := List.mem_map.1 hm
 exact h.ep e he (congrArg Nm.epoch h1)
theorem has_here (W : Web G n0) {x : Actn} (hx : x ∈ G) (d : Clk) : hasC d x.op.rep x.num = true ↔ x.here d := by
 have h1 := W.rep x hx
 have h2 := W.num x hx
 unfold hasC Actn.here Actn.r
 rw [decide_eq_true_iff]
 omega
theorem has_mono {c d : Clk} (h : leC c d) {r n : Int} (hh : hasC c r n = true) : hasC d r n = true := by
 unfold hasC at hh ⊢
 rw [decide_eq_true_iff] at hh ⊢
 have := h r.toNat (by omega)
 omega
theorem has_set {d : Clk} {f : Actn} (hr : 0 ≤ f.op.rep ∧ f.op.rep < 8) (hn : d.get f.r = f.num - 1) (h1 : 1 ≤ f.num) (r n : Int) : hasC (d.set f.r f.num) r n = true ↔ hasC d r n = true ∨ r = f.op.rep ∧ n = f.num := by
 unfold hasC
 rw [decide_eq_true_iff, decide_eq_true_iff]
 unfold Actn.r at *
 by_cases hc : 0 ≤ r ∧ r < 8
 · rw [Clk.get_set _ (by omega)]
   split
   · next e =>
     have : r = f.op.rep := by omega
     subst this
     omega
   · next e =>
     have : r ≠ f.op.rep := fun h => e (by rw [h])
     omega
 · omega
theorem inD_act (hb : Bs ep b) (d : Clk) (x : Actn) : inD ep b d (actName ep x) = hasC d x.op.rep x.num := by
 unfold inD actName
 rw [decide_eq_false (hb.not_mem _ _)]
 simp
theorem inD_mono {c d : Clk} (h : leC c d) {i : Nm} (hh : inD ep b c i = true) : inD ep b d i = true := by
 unfold inD at hh ⊢
 rw [Bool.or_eq_true, Bool.and_eq_true] at hh ⊢
 rcases hh with hh | ⟨h1, h2⟩
 · exact .inl hh
 · exact .inr ⟨h1, has_mono h h2⟩
theorem inD_set (W : Web G n0) {d : Clk} {f : Actn} (hf : Rdy G d f) (i : Nm) : inD ep b (d.set f.r f.num) i = true ↔ inD ep b d i = true ∨ i = actName ep f := by
 unfold inD
 rw [Bool.or_eq_true, Bool.or_eq_true, Bool.and_eq_true, Bool.and_eq_true, has_set (W.rep f hf.mem) hf.next (W.num f hf.mem)]
 constructor
 · rintro (h | ⟨h1, h2 | ⟨h2, h3⟩⟩)
   · exact .inl (.inl h)
   · exact .inl (.inr ⟨h1, h2⟩)
   · right
     obtain ⟨e, r, n⟩ := i
     simp at h1 h2 h3
     unfold actName
     rw [h1, h2, h3]
 · rintro ((h | ⟨h1, h2⟩) | rfl)
   · exact .inl h
   · exact .inr ⟨h1, .inl h2⟩
   · exact .inr ⟨by simp [actName], .inr ⟨rfl, rfl⟩⟩
theorem Rw.known (W : Web G b.length) {d : Clk} {l : List El} (h : Rw G ep b d l) : ∀ i ∈ l.map El.nm, inD ep b d i = true := by
 induction h with
 | zero =>
  intro i hi
  unfold inD
  rw [decide_eq_true hi]
  rfl
 | @step d l e o h1 h2 ih =>
  intro i hi
  rw [inD_set W (h2.rdy W)]
  rw [names_done] at hi
  split at hi
  · rcases (mem_split _ _).1 hi with h | h
    · exact .inl (ih i h)
    · exact .inr h
  · exact .inl (ih i hi)
theorem Rdy.fresh (W : Web G n0) (hb : Bs ep b) {d : Clk} {e : Actn} (h : Rdy G d e) : inD ep b d (actName ep e) = false := by
 rw [inD_act hb]
 refine Bool.eq_false_iff.2 fun hc => ?_
 rw [has_here W h.mem] at hc
 have := h.next
 unfold Actn.here at hc
 omega
theorem Rdy.fresh_row (W : Web G b.length) (hb : Bs ep b) {d : Clk} {e : Actn} {l : List El} (h : Rdy G d e) (hl : Rw G ep b d l) : actName ep e ∉ l.map El.nm := fun hm => by
 have := hl.known W _ hm
 rw [h.fresh W hb] at this
 cases this
theorem Rw.nodup (W : Web G b.length) (hb : Bs ep b) {d : Clk} {l : List El} (h : Rw G ep b d l) : (l.map El.nm).Nodup := by
 induction h with
 | zero => exact hb.nd
 | @step d l e o h1 h2 ih =>
  rw [names_done]
  split
  · exact nodup_split ih ((h2.rdy W).fresh_row W hb h1) _
  · exact ih
theorem filter_split {α : Type} {i : α} (N : List α) (k : Nat) {p : α → Bool} (hp : p i = false) : (N.take k ++ i :: N.drop k).filter p = N.filter p := by
 rw [List.filter_append, List.filter_cons, hp]
 simp only [Bool.false_eq_true, if_false]
 rw [← List.filter_append, List.take_append_drop]
theorem Web.sub (W : Web G b.length) (hb : Bs ep b) : ∀ (N : Nat) {c d : Clk} {l' l : List El}, Rw G ep b c l' → Rw G ep b d l → leC c d → d.sum - c.sum ≤ N → (l.map El.nm).filter (inD ep b c) = l'.map El.nm := by
 intro N
 induction N with
 | zero =>
  intro c d l' l h' h hle hN
  have : c = d := Classical.byContradiction fun hne => by
   obtain ⟨r, hr, hlt⟩ := hle.ne hne
   have := hle.lt hr hlt
   omega
  subst this
  rw [W.rw_one h' h, List.filter_eq_self.2 (h.known W)]
 | succ N ih =>
  intro c d l' l h' h hle hN
  by_cases hne : c = d
  · subst hne
    rw [W.rw_one h' h, List.filter_eq_self.2 (h.known W)]
  · obtain ⟨y, d1, hy, rfl, hle1⟩ := W.top (h'.cl W) (h.cl W) hle hne
    obtain ⟨l1, hl1⟩ := W.rw_ex (ep := ep) hy.cl
    obtain ⟨o, ho⟩ := W.fm_ex hy
    rw [W.rw_one h (.step hl1 ho), names_done]
    have hs := hy.sum W
    have hi := ih h' hl1 hle1 (by omega)
    split
    · rw [filter_split, hi]
      show inD ep b c (actName ep y) = false
      refine Bool.eq_false_iff.2 fun hc => ?_
      have := inD_mono hle1 hc
      rw [hy.fresh W hb] at this
      cases this
    · exact hi
theorem Rw.sub (W : Web G b.length) (hb : Bs ep b) {c d : Clk} {l' l : List El} (h' : Rw G ep b c l') (h : Rw G ep b d l) (hle : leC c d) : (l.map El.nm).filter (inD ep b c) = l'.map El.nm :=
 W.sub hb (d.sum - c.sum).toNat h' h hle (by omega)
theorem split_eq {α : Type} {x : α} : ∀ {p p' q q' : List α}, p ++ x :: q = p' ++ x :: q' → x ∉ p → x ∉ p' → p = p'
 | [], [], _, _, _, _, _ => rfl
 | [], a :: p', _, _, h, _, h2 => by
  rw [List.nil_append, List.cons_append, List.cons.injEq] at h
  exact absurd (h.1 ▸ List.mem_cons_self) h2
 | a :: p, [], _, _, h, h1, _ => by
  rw [List.nil_append, List.cons_append, List.cons.injEq] at h
  exact absurd (h.1 ▸ List.mem_cons_self) h1
 | a :: p, a' :: p', _, _, h, h1, h2 => by
  rw [List.cons_append, List.cons_append, List.cons.injEq] at h
  rw [h.1, split_eq h.2 (fun hm => h1 (List.mem_cons_of_mem _ hm)) fun hm => h2 (List.mem_cons_of_mem _ hm)]
theorem nodup_at {α : Type} {l : List α} {a : α} (h : l.Nodup) {i j : Nat} (hi : l[i]? = some a) (hj : l[j]? = some a) : i = j := by
 rw [List.getElem?_eq_some_iff] at hi hj
 obtain ⟨hi1, hi2⟩ := hi
 obtain ⟨hj1, hj2⟩ := hj
 have hp := List.pairwise_iff_getElem.1 h
 rcases Nat.lt_trichotomy i j with hl | hl | hl
 · exact absurd (hi2.trans hj2.symm) (hp i j hi1 hj1 hl)
 · exact hl
 · exact absurd (hj2.trans hi2.symm) (hp j i hj1 hi1 hl)
theorem ixOf_eq (l : List El) (id : Nm) (h : id ∈ l.map El.nm) : ∃ i pre post, ixOf l id = some i ∧ pre.length = i ∧ l.map El.nm = pre ++ id :: post ∧ id ∉ pre := by
 unfold ixOf
 induction l with
 | nil => cases h
 | cons a l ih =>
  rw [List.findIdx?_cons]
  by_cases ha : a.nm = id
  · refine ⟨0, [], l.map El.nm, by simp [ha], rfl, ?_, by simp⟩
    simp [ha]
  · have h' : id ∈ l.map El.nm := by
     rw [List.map_cons, List.mem_cons] at h
     rcases h with h | h
     · exact absurd h.symm ha
     · exact h
    obtain ⟨i, pre, post, h1, h2, h3, h4⟩ := ih h'
    refine ⟨i + 1, a.nm :: pre, post, by simp [ha, h1], by simp [h2], by simp [h3], ?_⟩
    rw [List.mem_cons]
    rintro (h | h)
    · exact ha h.symm
    · exact h4 h
theorem Web.rank (W : Web G b.length) (hb : Bs ep b) {c d : Clk} {l : List El} {y : Actn} {p : Opn} (hy : Fm G c y p) (hk : y.op.kind = 1) (hle : leC (c.set y.r y.num) d) (hl : Rw G ep b d l) :
 ∃ i, ixOf l (actName ep y) = some i ∧ i < l.length ∧ p.at_ = (countT (l.map fun e => inD ep b c e.nm) i : Int) ∧
  (l.map fun e => inD ep b c e.nm).set i true = l.map fun e => inD ep b (c.set y.r y.num) e.nm := by
 have hr := hy.rdy W
 obtain ⟨l', hl'⟩ := W.rw_ex (ep := ep) hr.cl
 have hkp : p.kind = 1 := by rw [hy.like.1]; exact hk
 have hs := (Rw.step hl' hy).sub W hb hl hle
 rw [names_done, if_pos hkp] at hs
 have hfr := hr.fresh W hb
 have hyn : (⟨ep, y.op.rep, y.num⟩ : Nm) = actName ep y := rfl
 rw [hyn] at hs
 have hfit := hy.fits W
 have hlen := hl'.len W
 have hmem : actName ep y ∈ l.map El.nm := by
  have : actName ep y ∈ (l.map El.nm).filter (inD ep b (c.set y.r y.num)) := by
   rw [hs, mem_split]
   exact .inr rfl
  exact (List.mem_filter.1 this).1
 obtain ⟨i, pre, post, h1, h2, h3, h4⟩ := ixOf_eq l _ hmem
 have hnd := hl.nodup W hb
 have hset : ∀ j : Nm, j ≠ actName ep y → inD ep b (c.set y.r y.num) j = inD ep b c j := fun j hj => by
  rw [Bool.eq_iff_iff, inD_set W hr]
  constructor
  · rintro (h | h)
    · exact h
    · exact absurd h hj
  · exact .inl
 have hpre : pre.filter (inD ep b (c.set y.r y.num)) = (l'.map El.nm).take p.at_.toNat := by
  rw [h3, List.filter_append, List.filter_cons, if_pos ((inD_set W hr _).2 (.inr rfl))] at hs
  refine split_eq hs (fun hm => h4 (List.mem_filter.1 hm).1) fun hm => ?_
  exact hr.fresh_row W hb hl' (List.mem_of_mem_take hm)
 have hpre2 : pre.filter (inD ep b c) = (l'.map El.nm).take p.at_.toNat := by
  rw [← hpre]
  exact List.filter_congr fun j hj => (hset j fun e => h4 (e ▸ hj)).symm
 have hll : (l.map El.nm).length = l.length := List.length_map ..
 have hil : i < l.length := by
  rw [← hll, h3, List.length_append, List.length_cons]
  omega
 refine ⟨i, h1, hil, ?_, ?_⟩
 · have hc : countT (l.map fun e => inD ep b c e.nm) i = (pre.filter (inD ep b c)).length := by
    unfold countT
    have : (l.map fun e => inD ep b c e.nm) = (l.map El.nm).map (inD ep b c) := by rw [List.map_map]; rfl
    rw [this, ← List.map_take, h3, List.take_append_of_le_length (by omega), List.take_of_length_le (by omega), List.filter_map, List.length_map]
    rfl
   rw [hc, hpre2, List.length_take, List.length_map]
   have h6 := hfit.lo
   have h7 := hfit.hi
   have : p.at_.toNat ≤ l'.length := by omega
   omega
 · refine List.ext_getElem? fun k => ?_
   rw [List.getElem?_set]
   have hat : ∀ k, (l.map fun e => inD ep b c e.nm)[k]? = ((l.map El.nm)[k]?).map (inD ep b c) := fun k => by rw [List.getElem?_map, List.getElem?_map, Option.map_map]; rfl
   have hat2 : ∀ k, (l.map fun e => inD ep b (c.set y.r y.num) e.nm)[k]? = ((l.map El.nm)[k]?).map (inD ep b (c.set y.r y.num)) := fun k => by rw [List.getElem?_map, List.getElem?_map, Option.map_map]; rfl
   have hi : (l.map El.nm)[i]? = some (actName ep y) := by rw [h3, List.getElem?_append_right (by omega), h2]; simp
   split
   · next e =>
     subst e
     rw [if_pos (by rw [List.length_map]; exact hil), hat2, hi]
     show some true = some _
     rw [(inD_set W hr _).2 (.inr rfl)]
   · next hne =>
     rw [hat, hat2]
     cases hj : (l.map El.nm)[k]? with
     | none => rfl
     | some j =>
      show some _ = some _
      rw [hset j]
      rintro rfl
      exact hne (nodup_at hnd hi hj)
end
inductive Run (G : List Actn) (ep : Int) (b : List El) : List Actn → List Opn → Clk → List El → Prop
 | nil : Run G ep b [] [] Clk.zero b
 | snoc {L : List Actn} {F : List Opn} {d : Clk} {l : List El} {e : Actn} {o : Opn} : Run G ep b L F d l → Fm G d e o → Run G ep b (L ++ [e]) (F ++ [o]) (d.set e.r e.num) (doneOp l o (actName ep e))
section
variable {G G' : List Actn} {n0 : Nat} {ep : Int} {b : List El}
theorem Fm.mono {d : Clk} {e : Actn} {o : Opn} (h : Fm G d e o) (hs : ∀ x ∈ G, x ∈ G') : Fm G' d e o := by
 induction h with
 | base hx => exact .base (hs _ hx)
 | step _ _ hne i1 i2 => exact .step i1 i2 hne
theorem Run.mono {L : List Actn} {F : List Opn} {d : Clk} {l : List El} (h : Run G ep b L F d l) (hs : ∀ x ∈ G, x ∈ G') : Run G' ep b L F d l := by
 induction h with
 | nil => exact .nil
 | snoc _ h2 ih => exact .snoc ih (h2.mono hs)
theorem Run.rw {L : List Actn} {F : List Opn} {d : Clk} {l : List El} (h : Run G ep b L F d l) : Rw G ep b d l := by
 induction h with
 | nil => exact .zero
 | snoc _ h2 ih => exact .step ih h2
theorem Run.sum (W : Web G n0) {L : List Actn} {F : List Opn} {d : Clk} {l : List El} (h : Run G ep b L F d l) : d.sum = L.length ∧ F.length = L.length := by
 induction h with
 | nil => exact ⟨rfl, rfl⟩
 | snoc _ h2 ih =>
  rw [(h2.rdy W).sum W, List.length_append, List.length_append, List.length_singleton, List.length_singleton]
  omega
theorem here_set (W : Web G n0) {d : Clk} {f y : Actn} (hf : Rdy G d f) (hy : y ∈ G) : y.here (d.set f.r f.num) ↔ y.here d ∨ y = f := by
 rw [← has_here W hy, has_set (W.rep f hf.mem) hf.next (W.num f hf.mem), has_here W hy]
 constructor
 · rintro (h | ⟨h1, h2⟩)
   · exact .inl h
   · exact .inr (W.one y hy f hf.mem h1 h2)
 · rintro (h | rfl)
   · exact .inl h
   · exact .inr ⟨rfl, rfl⟩
theorem not_here_zero (W : Web G n0) {y : Actn} (hy : y ∈ G) : ¬ y.here Clk.zero := by
 have := W.num y hy
 unfold Actn.here
 rw [Clk.get_zero]
 omega
theorem Run.mem (W : Web G n0) {L : List Actn} {F : List Opn} {d : Clk} {l : List El} (h : Run G ep b L F d l) (y : Actn) : y ∈ L ↔ y ∈ G ∧ y.here d := by
 induction h with
 | nil =>
  refine ⟨fun h => ?_, fun h => absurd h.2 (not_here_zero W h.1)⟩
  cases h
 | @snoc L F d l e o _ h2 ih =>
  have hr := h2.rdy W
  rw [List.mem_append, ih, List.mem_singleton]
  constructor
  · rintro (⟨h1, h2⟩ | rfl)
    · exact ⟨h1, (here_set W hr h1).2 (.inl h2)⟩
    · exact ⟨hr.mem, (here_set W hr hr.mem).2 (.inr rfl)⟩
  · rintro ⟨h1, h2⟩
    rcases (here_set W hr h1).1 h2 with h | h
    · exact .inl ⟨h1, h⟩
    · exact .inr h
theorem Rdy.not_here {d : Clk} {e : Actn} (h : Rdy G d e) : ¬ e.here d := by
 have := h.next
 unfold Actn.here
 omega
theorem Run.nodup (W : Web G n0) {L : List Actn} {F : List Opn} {d : Clk} {l : List El} (h : Run G ep b L F d l) : L.Nodup := by
 induction h with
 | nil => exact List.nodup_nil
 | @snoc L F d l e o h1 h2 ih =>
  rw [List.nodup_append]
  refine ⟨ih, by simp, fun a ha c hc => ?_⟩
  rw [List.mem_singleton.1 hc]
  rintro rfl
  exact (h2.rdy W).not_here ((h1.mem W a).1 ha).2
theorem nodup_sub_length {α : Type} [DecidableEq α] : ∀ {L M : List α}, L.Nodup → (∀ x ∈ L, x ∈ M) → L.length ≤ M.length
 | [], _, _, _ => Nat.zero_le _
 | a :: L, M, h, hs => by
  rw [List.nodup_cons] at h
  have h1 : a ∈ M := hs a List.mem_cons_self
  have := nodup_sub_length (L := L) (M := M.erase a) h.2 fun x hx => (List.mem_erase_of_ne (fun (e : x = a) => h.1 (e ▸ hx))).2 (hs x (List.mem_cons_of_mem _ hx))
  rw [List.length_erase_of_mem h1] at this
  have := List.length_pos_of_mem h1
  rw [List.length_cons]
  omega
theorem Run.at_ (W : Web G n0) {L : List Actn} {F : List Opn} {d : Clk} {l : List El} (h : Run G ep b L F d l) : ∀ {k : Nat} {y : Actn}, L[k]? = some y →
 ∃ dP lP o, Run G ep b (L.take k) (F.take k) dP lP ∧ Fm G dP y o ∧ F[k]? = some o ∧ leC (dP.set y.r y.num) d := by
 induction h with
 | nil => intro k y hk; cases hk
 | @snoc L F d l e o h1 h2 ih =>
  intro k y hk
  have hlen := (h1.sum W).2
  have hr := W.r_lt (h2.rdy W).mem
  rcases Nat.lt_trichotomy k L.length with hl | hl | hl
  · rw [List.getElem?_append_left hl] at hk
    obtain ⟨dP, lP, o', a1, a2, a3, a4⟩ := ih hk
    refine ⟨dP, lP, o', ?_, a2, ?_, a4.trans (leC.set hr ?_)⟩
    · rw [List.take_append_of_le_length (by omega), List.take_append_of_le_length (by omega)]
      exact a1
    · rw [List.getElem?_append_left (by omega)]
      exact a3
    · have := (h2.rdy W).next
      omega
  · subst hl
    rw [List.getElem?_append_right (Nat.le_refl _), Nat.sub_self] at hk
    cases hk
    refine ⟨d, l, o, ?_, h2, ?_, leC.refl _⟩
    · rw [List.take_left', ← hlen, List.take_left']
      · exact h1
      · rfl
      · rfl
    · rw [← hlen, List.getElem?_append_right (Nat.le_refl _), Nat.sub_self]
      rfl
  · rw [List.getElem?_eq_none (by simp; omega)] at hk
    cases hk
theorem here_ext (W : Web G n0) {c d : Clk} (hc : Cl G c) (hd : Cl G d) (h : ∀ y ∈ G, y.here c ↔ y.here d) : c = d := by
 have key : ∀ {c d : Clk}, Cl G c → Cl G d → (∀ y ∈ G, y.here c → y.here d) → leC c d := fun {c d} hc hd h k hk => by
  refine Classical.byContradiction fun hlt => ?_
  have h0 := (hd k hk).1
  obtain ⟨y, hy, y1, y2, -⟩ := (hc k hk).2 (c.get k) (by omega) (Int.le_refl _)
  have hyr : y.r = k := by unfold Actn.r; omega
  have := h y hy (by unfold Actn.here; rw [hyr, y2]; exact Int.le_refl _)
  unfold Actn.here at this
  rw [hyr, y2] at this
  omega
 exact (key hc hd fun y hy => (h y hy).1).anti (key hd hc fun y hy => (h y hy).2)
end
theorem Rw.names_of {G : List Actn} {ep : Int} {b : List El} {d : Clk} {l : List El} (h : Rw G ep b d l) {n0 : Nat} (W : Web G n0) (hb : Bs ep b) : ∀ i ∈ l.map El.nm, i ∈ b.map El.nm ∨ ∃ z ∈ G, z.op.kind = 1 ∧ i = actName ep z := by
 induction h with
 | zero => exact fun i hi => .inl hi
 | @step d l e o h1 h2 ih =>
  intro i hi
  rw [names_done] at hi
  split at hi
  · next hk =>
    rcases (mem_split _ _).1 hi with h | h
    · exact ih i h
    · exact .inr ⟨e, (h2.rdy W).mem, by rw [← h2.like.1]; exact hk, h⟩
  · exact ih i hi
def Lg.Runs (s : Lg) (G : List Actn) : Prop := Run G s.ep s.base s.acts s.forms s.clk s.l
theorem besideC_snoc (P : List Actn) (y : Actn) (c : Clk) : besideC (P ++ [y]) c = besideC P c ++ if hasC c y.op.rep y.num = true then [] else [y] := by
 unfold besideC
 rw [List.filter_append]
 cases h : hasC c y.op.rep y.num <;> simp [h]
theorem Tof_ins_eq {a p : Opn} {n r : Int} (h1 : p.kind = 1) (h2 : p.at_ = n) (h3 : p.rep = r) : Tof a ⟨1, n, 0, r⟩ = Tof a p := by
 unfold Tof moves
 simp only [h1, h2, h3]
section
variable {G : List Actn} {s : Lg}
theorem Lg.Runs.fold (R : s.Runs G) (W : Web G s.base.length) (hb : Bs s.ep s.base) {x : Actn} (hx : Rdy G s.clk x) : ∀ k, k ≤ s.acts.length →
 ∃ D o, (besideC (s.acts.take k) x.clk).foldl (metStep s) (s.l.map (s.inC x.clk), x.op) = (s.l.map (s.inC D), o) ∧ Fm G D x o ∧ leC D s.clk ∧ ∀ y ∈ G, y.here D ↔ y.here x.clk ∨ y ∈ s.acts.take k
 | 0, _ => ⟨x.clk, x.op, rfl, .base hx.mem, hx.le, fun y _ => by simp⟩
 | k + 1, hk => by
  obtain ⟨D, o, h1, h2, h3, h4⟩ := Lg.Runs.fold R W hb hx k (by omega)
  obtain ⟨y, hy⟩ : ∃ y, s.acts[k]? = some y := ⟨_, List.getElem?_eq_getElem (by omega)⟩
  have htk : s.acts.take (k + 1) = s.acts.take k ++ [y] := by rw [List.take_add_one, hy]; rfl
  obtain ⟨dP, lP, p0, a1, a2, a3, a4⟩ := R.at_ W hy
  have hyr := a2.rdy W
  have hya : y ∈ s.acts := List.mem_of_getElem? hy
  have hyh := ((R.mem W y).1 hya).2
  rw [htk, besideC_snoc]
  by_cases hh : y.here x.clk
  · rw [if_pos ((has_here W hyr.mem _).2 hh), List.append_nil]
    refine ⟨D, o, h1, h2, h3, fun z hz => ?_⟩
    rw [h4 z hz, List.mem_append, List.mem_singleton]
    constructor
    · rintro (h | h)
      · exact .inl h
      · exact .inr (.inl h)
    · rintro (h | h | rfl)
      · exact .inl h
      · exact .inr h
      · exact .inl hh
  · rw [if_neg (fun h => hh ((has_here W hyr.mem _).1 h)), List.foldl_append, h1]
    have hxD := h2.rdy W
    have hyP : y ∉ s.acts.take k := fun hm => hyr.not_here ((a1.mem W y).1 hm).2
    have hyD : ¬ y.here D := fun h => by
     rcases (h4 y hyr.mem).1 h with h | h
     · exact hh h
     · exact hyP h
    have hleD : leC y.clk D := fun r hr => by
     by_cases h0 : y.clk.get r ≤ 0
     · have := (hxD.cl r hr).1; omega
     · obtain ⟨z, hz, z1, z2, -⟩ := (W.cl y hyr.mem r hr).2 (y.clk.get r) (by omega) (Int.le_refl _)
       have hzr : z.r = r := by unfold Actn.r; omega
       have hzy : z.here y.clk := by unfold Actn.here; rw [hzr, z2]; exact Int.le_refl _
       have hzP : z ∈ s.acts.take k := (a1.mem W z).2 ⟨hz, by
        unfold Actn.here at hzy ⊢
        have := hyr.le z.r (W.r_lt hz)
        omega⟩
       have := (h4 z hz).2 (.inr hzP)
       unfold Actn.here at this
       rw [hzr, z2] at this
       exact this
    have hryD : Rdy G D y := ⟨hyr.mem, hxD.cl, hleD, by
     have := hleD y.r (W.r_lt hyr.mem)
     rw [W.own y hyr.mem] at this
     unfold Actn.here at hyD
     omega⟩
    have hne : x.op.rep ≠ y.op.rep := fun he => by
     have e1 := hxD.next
     have e2 := hryD.next
     have : x.r = y.r := by unfold Actn.r; rw [he]
     rw [this] at e1
     have := W.one x hx.mem y hyr.mem he (by omega)
     subst this
     exact hx.not_here hyh
    have hleS : leC (D.set y.r y.num) s.clk := fun r hr => by
     rw [Clk.get_set _ (W.r_lt hyr.mem)]
     split
     · next e => rw [e]; exact hyh
     · exact h3 r hr
    obtain ⟨p, hp⟩ := W.fm_ex hryD
    have hset : ∀ z ∈ G, z.here (D.set y.r y.num) ↔ z.here x.clk ∨ z ∈ s.acts.take k ++ [y] := fun z hz => by
     rw [here_set W hryD hz, h4 z hz, List.mem_append, List.mem_singleton, or_assoc]
    refine ⟨D.set y.r y.num, Tof o p, ?_, .step h2 hp hne, hleS, hset⟩
    show metStep s (s.l.map (s.inC D), o) y = _
    unfold metStep
    by_cases hk1 : y.op.kind = 1
    · obtain ⟨i, r1, r2, r3, r4⟩ := W.rank hb hp hk1 hleS R.rw
      rw [if_pos hk1]
      have r1' : ixOf s.l (s.name y) = some i := r1
      have r4' : (s.l.map (s.inC D)).set i true = s.l.map (s.inC (D.set y.r y.num)) := r4
      have r3' : p.at_ = (countT (s.l.map (s.inC D)) i : Int) := r3
      simp only [r1', Option.getD_some, r4']
      rw [Tof_ins_eq (by rw [hp.like.1]; exact hk1) r3' hp.like.2.1]
    · rw [if_neg hk1, Tof_still (by rw [hp.like.1]; exact hk1)]
      refine Prod.ext (List.map_congr_left fun e he => ?_) rfl
      show inD s.ep s.base D e.nm = inD s.ep s.base (D.set y.r y.num) e.nm
      -- an act that lays nothing in has no element
      have hno : e.nm ≠ actName s.ep y := fun hc => by
       have hl := R.rw.names_of W hb e.nm (List.mem_map_of_mem he)
       rcases hl with hl | ⟨z, hz, z1, z2⟩
       · exact hb.not_mem _ _ (hc ▸ hl)
       · rw [hc] at z2
         have e1 := congrArg Nm.rep z2
         have e2 := congrArg Nm.num z2
         exact hk1 (W.one y hyr.mem z hz e1 e2 ▸ z1)
      rw [Bool.eq_iff_iff, inD_set W hryD]
      exact ⟨.inl, fun h => h.resolve_right hno⟩
end
section
variable {G : List Actn} {s : Lg}
theorem Lg.Runs.form (R : s.Runs G) (W : Web G s.base.length) (hb : Bs s.ep s.base) {x : Actn} (hx : Rdy G s.clk x) : Fm G s.clk x (s.form x) := by
 obtain ⟨D, o, h1, h2, h3, h4⟩ := R.fold W hb hx s.acts.length (Nat.le_refl _)
 have hD : D = s.clk := here_ext W (h2.rdy W).cl hx.cl fun y hy => by
  rw [h4 y hy, List.take_length, R.mem W y]
  constructor
  · rintro (h | h)
    · have := hx.le y.r (W.r_lt hy)
      unfold Actn.here at h ⊢
      omega
    · exact h.2
  · exact fun h => .inr ⟨hy, h⟩
 rw [List.take_length] at h1
 unfold Lg.form
 rw [h1]
 rw [hD] at h2
 exact h2
theorem countP_same {α : Type} [DecidableEq α] {p : α → Bool} {L M : List α} (hL : L.Nodup) (hM : M.Nodup) (h : ∀ y, p y = true → (y ∈ L ↔ y ∈ M)) : L.countP p = M.countP p := by
 rw [List.countP_eq_length_filter, List.countP_eq_length_filter]
 refine Nat.le_antisymm (nodup_sub_length (hL.filter p) fun x hx => ?_) (nodup_sub_length (hM.filter p) fun x hx => ?_)
 · rw [List.mem_filter] at hx ⊢
   exact ⟨(h x hx.2).1 hx.1, hx.2⟩
 · rw [List.mem_filter] at hx ⊢
   exact ⟨(h x hx.2).2 hx.1, hx.2⟩
theorem Lg.Runs.ctx (R : s.Runs G) (W : Web G s.base.length) {c : Clk} (hc : leC c s.clk) : s.ctx c = lenAt G s.base.length c := by
 unfold Lg.ctx Lg.had lenAt
 rw [← List.countP_eq_length_filter]
 have h1 : s.acts.countP (fun x => decide (x.op.kind = 1) && hasC c x.op.rep x.num) = s.acts.countP fun y => decide (y.op.kind = 1 ∧ y.here c) := List.countP_congr fun y hy => by
  have hy := ((R.mem W y).1 hy).1
  have := has_here W hy c
  rw [Bool.and_eq_true, decide_eq_true_iff, decide_eq_true_iff, this]
 rw [h1, countP_same (R.nodup W) W.nd fun y hy => ?_]
 rw [decide_eq_true_iff] at hy
 rw [R.mem W y]
 constructor
 · exact fun h => h.1
 · refine fun h => ⟨h, ?_⟩
   have := hc y.r (W.r_lt h)
   have h2 := hy.2
   unfold Actn.here at h2 ⊢
   omega
theorem Lg.Runs.why0 (R : s.Runs G) (W : Web G s.base.length) {x : Actn} (hx : Rdy G s.clk x) (hsm : ∀ k, k < 8 → s.clk.get k < 9223372036854775807) : s.why x = 0 := by
 have hrep := W.rep x hx.mem
 have hnum := W.num x hx.mem
 have hown := W.own x hx.mem
 have hnext := hx.next
 have hfit := W.fit x hx.mem
 have hlt := hsm x.r (W.r_lt hx.mem)
 unfold Lg.why
 rw [if_neg, if_neg, if_neg, if_neg]
 · rw [R.ctx W hx.le]
   have := hfit.valid
   simp [this]
 · unfold readyC
   unfold Actn.r at *
   rw [(coversC_iff _ _).2 fun k hk => hx.le k hk]
   simp
   omega
 · intro h
   exact hx.not_here ((has_here W hx.mem _).1 h)
 · have hv : validC x.clk = true := (validC_iff _).2 fun k hk => (W.cl x hx.mem k hk).1
   have hr := hfit.right
   unfold Actn.r at hown
   rw [hv, hr, hown]
   simp
   omega
theorem Lg.Runs.deliver (R : s.Runs G) (W : Web G s.base.length) (hb : Bs s.ep s.base) {x : Actn} {o : Opn} (hx : Fm G s.clk x o) : whyOf s.l o (s.name x) = 0 ∧ (s.deliver x o).Runs G ∧
 s.deliver x o = { s with acts := s.acts ++ [x], forms := s.forms ++ [o], clk := s.clk.set x.op.rep.toNat x.num, l := doneOp s.l o (s.name x) } := by
 have hr := hx.rdy W
 have hfit := hx.fits W
 rw [← R.rw.len W] at hfit
 have hw : whyOf s.l o (s.name x) = 0 := by
  unfold whyOf
  rw [if_neg (by simp [hfit.right]), if_neg (by simp [hfit.valid]), if_neg]
  rintro ⟨-, hm⟩
  exact hr.fresh_row W hb R.rw hm
 have he : s.deliver x o = { s with acts := s.acts ++ [x], forms := s.forms ++ [o], clk := s.clk.set x.op.rep.toNat x.num, l := doneOp s.l o (s.name x) } := by
  unfold Lg.deliver
  rw [if_pos hw]
  unfold appOf
  rw [if_pos hw]
 refine ⟨hw, ?_, he⟩
 rw [he]
 exact .snoc R hx
theorem Lg.Runs.issue (R : s.Runs G) (W : Web G s.base.length) (hb : Bs s.ep s.base) {o : Opn} (ho : Go.Proofs.YteggpddlkkjmjaaGreatDoor.Fits o s.l.length) (hall : ∀ y ∈ G, y.op.rep = o.rep → y.here s.clk) (hfew : s.base.length + (G.length + 1) < 1099511627776) :
 Web (G ++ [s.actOf o]) s.base.length ∧ Fm (G ++ [s.actOf o]) s.clk (s.actOf o) o ∧ ∀ y ∈ G, ¬ (s.actOf o).here y.clk := by
 have hrep := rightOp_rep ho.right
 have hcl := R.rw.cl W
 have hr8 : o.rep.toNat < 8 := by omega
 have h0 := (hcl o.rep.toNat hr8).1
 have ha : s.actOf o = ⟨o, s.clk.get o.rep.toNat + 1, s.clk⟩ := by
  unfold Lg.actOf
  rw [if_pos ho.right]
 have hsub : ∀ x ∈ G, x ∈ G ++ [s.actOf o] := fun x hx => List.mem_append_left _ hx
 have hclm : ∀ {d : Clk}, Cl G d → Cl (G ++ [s.actOf o]) d := fun {d} h r hr => ⟨(h r hr).1, fun n h1 h2 => by
  obtain ⟨y, hy, k⟩ := (h r hr).2 n h1 h2
  exact ⟨y, hsub y hy, k⟩⟩
 have hnew : ∀ {d : Clk}, Cl G d → ¬ (s.actOf o).here d := fun {d} h hh => by
  rw [ha] at hh
  have hh : s.clk.get o.rep.toNat + 1 ≤ d.get o.rep.toNat := hh
  obtain ⟨y, hy, y1, y2, -⟩ := (h o.rep.toNat hr8).2 (s.clk.get o.rep.toNat + 1) (by omega) hh
  have hyr : y.op.rep = o.rep := by omega
  have := hall y hy hyr
  unfold Actn.here Actn.r at this
  rw [hyr, y2] at this
  omega
 have hlen : ∀ {d : Clk}, Cl G d → lenAt (G ++ [s.actOf o]) s.base.length d = lenAt G s.base.length d := fun {d} h => by
  unfold lenAt
  rw [List.countP_append, List.countP_singleton, if_neg]
  · rw [Nat.add_zero]
  · simp [hnew h]
 have hnk : ∀ y ∈ G, y.op.rep = (s.actOf o).op.rep → y.num ≠ (s.actOf o).num := fun y hy h1 h2 => by
  rw [ha] at h1 h2
  have h1 : y.op.rep = o.rep := h1
  have h2 : y.num = s.clk.get o.rep.toNat + 1 := h2
  have := hall y hy h1
  unfold Actn.here Actn.r at this
  rw [h1] at this
  omega
 refine ⟨⟨?_, ?_, ?_, ?_, ?_, ?_, ?_, ?_⟩, ?_, fun y hy => hnew (W.cl y hy)⟩
 · intro x hx
   rcases List.mem_append.1 hx with h | h
   · exact W.rep x h
   · rw [List.mem_singleton.1 h, ha]
     exact hrep
 · intro x hx
   rcases List.mem_append.1 hx with h | h
   · exact W.num x h
   · rw [List.mem_singleton.1 h, ha]
     show 1 ≤ s.clk.get o.rep.toNat + 1
     omega
 · intro x hx y hy h1 h2
   rcases List.mem_append.1 hx with h | h <;> rcases List.mem_append.1 hy with k | k
   · exact W.one x h y k h1 h2
   · rw [List.mem_singleton.1 k] at h1 h2
     exact absurd h2 (hnk x h h1)
   · rw [List.mem_singleton.1 h] at h1 h2
     exact absurd h2.symm (hnk y k h1.symm)
   · rw [List.mem_singleton.1 h, List.mem_singleton.1 k]
 · intro x hx
   rcases List.mem_append.1 hx with h | h
   · exact W.own x h
   · rw [List.mem_singleton.1 h, ha]
     show s.clk.get o.rep.toNat = s.clk.get o.rep.toNat + 1 - 1
     omega
 · intro x hx
   rcases List.mem_append.1 hx with h | h
   · exact hclm (W.cl x h)
   · rw [List.mem_singleton.1 h]
     have : (s.actOf o).clk = s.clk := by rw [ha]
     rw [this]
     exact hclm hcl
 · intro x hx
   rcases List.mem_append.1 hx with h | h
   · rw [hlen (W.cl x h)]
     exact W.fit x h
   · rw [List.mem_singleton.1 h]
     have e1 : (s.actOf o).clk = s.clk := by rw [ha]
     have e2 : (s.actOf o).op = o := by rw [ha]
     rw [e1, e2, hlen hcl, ← R.rw.len W]
     exact ho
 · rw [List.nodup_append]
   refine ⟨W.nd, by simp, fun a h c hc => ?_⟩
   rw [List.mem_singleton.1 hc]
   rintro rfl
   exact hnk _ h rfl rfl
 · rw [List.length_append, List.length_singleton]
   exact hfew
 · have := Fm.base (G := G ++ [s.actOf o]) (x := s.actOf o) (by simp)
   have e1 : (s.actOf o).clk = s.clk := by rw [ha]
   have e2 : (s.actOf o).op = o := by rw [ha]
   rwa [e1, e2] at this
theorem Lg.Runs.lacks (R : s.Runs G) (W : Web G s.base.length) {L : List Actn} {F : List Opn} {d : Clk} {l : List El} {ep : Int} {b : List El} (R' : Run G ep b L F d l) {k : Nat} {x : Actn} (hx : L[k]? = some x) (hn : ¬ x.here s.clk) (ha : ∀ y ∈ L.take k, y.here s.clk) : Rdy G s.clk x := by
 obtain ⟨dP, lP, o, a1, a2, a3, a4⟩ := R'.at_ W hx
 have hr := a2.rdy W
 have hcl := R.rw.cl W
 have hle : leC x.clk s.clk := fun r h8 => by
  by_cases h0 : x.clk.get r ≤ 0
  · have := (hcl r h8).1; omega
  · obtain ⟨z, hz, z1, z2, -⟩ := (W.cl x hr.mem r h8).2 (x.clk.get r) (by omega) (Int.le_refl _)
    have hzr : z.r = r := by unfold Actn.r; omega
    have hzP : z ∈ L.take k := (a1.mem W z).2 ⟨hz, by
     have := hr.le r h8
     unfold Actn.here
     rw [hzr, z2]
     exact this⟩
    have := ha z hzP
    unfold Actn.here at this
    rw [hzr, z2] at this
    exact this
 refine ⟨hr.mem, hcl, hle, ?_⟩
 have := hle x.r (W.r_lt hr.mem)
 rw [W.own x hr.mem] at this
 unfold Actn.here at hn
 omega
end
end Go.Proofs.YteggpddlkkjmjaaGreatDoor
