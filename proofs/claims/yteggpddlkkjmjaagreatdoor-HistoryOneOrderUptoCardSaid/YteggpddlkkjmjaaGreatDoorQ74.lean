/- Part of a proof: what functions of the program compute. Conditions: as each theorem says. -/
import Derived.Test.YteggpddlkkjmjaaGreatDoorQ38
import Derived.Test.YteggpddlkkjmjaaGreatDoorQ71
set_option linter.unusedSimpArgs false
set_option linter.unusedVariables false
namespace Go.Proofs.YteggpddlkkjmjaaGreatDoor
open Go Go.RowKit
theorem allStep_other {k n j f : Nat} {ss : List Lg} (hf : f ≠ k) : (allStep k n ss j)[f]? = ss[f]? := by
 unfold allStep
 split
 · exact List.getElem?_set_ne fun e => hf e.symm
 · rfl
theorem allSteps_other {k n f : Nat} (hf : f ≠ k) : ∀ (js : List Nat) (ss : List Lg), (js.foldl (allStep k n) ss)[f]? = ss[f]?
 | [], _ => rfl
 | j :: js, ss => by rw [List.foldl_cons, allSteps_other hf js, allStep_other hf]
theorem get_here {G : List Actn} {b : List El} {ss : List Lg} (h : Sess G b ss) (hsm : Small ss) {k f : Nat} {s t : Lg} (hs : ss[k]? = some s) (ht : ss[f]? = some t) : ∀ y ∈ G, y.here s.clk → y.here (getStep s t).clk := fun y hy hh => by
 obtain ⟨h1, h2, h3, h4⟩ := h.site k s hs
 obtain ⟨t1, t2, t3, t4⟩ := h.site f t ht
 have W := h.web
 rw [← h2] at W
 rcases h3.get W (by rw [h1, h2]; exact h.bs) t3 (hsm s (List.mem_of_getElem? hs)) with ⟨e, -⟩ | ⟨x, hx, -, -, -, e, -, -, e2⟩
 · rw [e]; exact hh
 · rw [e, e2]
   exact (here_set W hx hy).2 (.inl hh)
theorem countP_lt {α : Type} {p q : α → Bool} : ∀ {l : List α}, (∀ y ∈ l, p y = true → q y = true) → (∃ x ∈ l, p x = false ∧ q x = true) → l.countP p < l.countP q
 | [], _, h => by obtain ⟨x, hx, -⟩ := h; cases hx
 | a :: l, hpq, h => by
  have hle : l.countP p ≤ l.countP q := List.countP_mono_left fun y hy => hpq y (List.mem_cons_of_mem _ hy)
  rw [List.countP_cons, List.countP_cons]
  obtain ⟨x, hx, h1, h2⟩ := h
  rcases List.mem_cons.1 hx with rfl | hx
  · rw [h1, h2]; simp; omega
  · have := countP_lt (fun y hy => hpq y (List.mem_cons_of_mem _ hy)) ⟨x, hx, h1, h2⟩
    have h3 := hpq a (List.mem_cons_self ..)
    cases hp : p a
    · simp; split <;> omega
    · rw [h3 hp]; simp; omega
def hereN (d : Clk) (l : List Actn) : Nat := l.countP fun y => decide (y.here d)
theorem get_count {G : List Actn} {b : List El} {ss : List Lg} (h : Sess G b ss) (hsm : Small ss) {k f : Nat} {s t : Lg} (hs : ss[k]? = some s) (ht : ss[f]? = some t) : hereN s.clk t.acts = t.acts.length ∨ hereN s.clk t.acts < hereN (getStep s t).clk t.acts := by
 obtain ⟨h1, h2, h3, h4⟩ := h.site k s hs
 obtain ⟨t1, t2, t3, t4⟩ := h.site f t ht
 have hup := get_here h hsm hs ht
 have WG := h.web
 have W := h.web
 rw [← h2] at W
 rcases h3.get W (by rw [h1, h2]; exact h.bs) t3 (hsm s (List.mem_of_getElem? hs)) with ⟨-, -, e⟩ | ⟨x, hx, hxt, -, -, e, -, -, e2⟩
 · exact .inl (List.countP_eq_length.2 fun y hy => by simpa using e y hy)
 · right
   refine countP_lt (fun y hy hh => ?_) ⟨x, hxt, ?_, ?_⟩
   · have hyG := ((t3.mem WG y).1 hy).1
     simpa using hup y hyG (by simpa using hh)
   · have := hx.not_here
     simpa using this
   · rw [e, e2]
     have := (here_set W hx hx.mem).2 (.inr rfl)
     unfold Actn.r at this
     simpa using this
theorem allSteps_count {G : List Actn} {b : List El} {n k f : Nat} (hf : f < n) (hfk : f ≠ k) (hn : 0 < n) {ss : List Lg} {s0 t : Lg} (hs : ss[k]? = some s0) (ht : ss[f]? = some t) {m : Nat} (h : Sess G b ss) (ha : AllGd ss m) : ∀ j, m + j ≤ 100000 →
 ∃ s, ((List.range j).foldl (allStep k n) ss)[k]? = some s ∧ (∀ y ∈ G, y.here s0.clk → y.here s.clk) ∧ min (j / n + if f < j % n then 1 else 0) t.acts.length ≤ hereN s.clk t.acts
 | 0, _ => ⟨s0, hs, fun _ _ h => h, by simp⟩
 | j + 1, hj => by
  obtain ⟨s, h1, h2, h3⟩ := allSteps_count hf hfk hn hs ht h ha j (by omega)
  obtain ⟨i1, i2⟩ := allSteps_inv k n (List.range j) ss m h ha (by rw [List.length_range]; omega)
  rw [List.length_range] at i2
  have hsm := i2.small (by omega)
  have hlen := allSteps_length k n (List.range j) ss
  have hoth := allSteps_other (n := n) hfk (List.range j) ss
  rw [List.range_succ, List.foldl_append, List.foldl_cons, List.foldl_nil]
  generalize (List.range j).foldl (allStep k n) ss = X at *
  have hkl := (List.getElem?_eq_some_iff.1 h1).1
  have hdm := Nat.div_add_mod j n
  have hml := Nat.mod_lt j hn
  have hle : hereN s.clk t.acts ≤ t.acts.length := List.countP_le_length
  have hstep : (j + 1) / n = j / n + (if j % n + 1 = n then 1 else 0) ∧ (j + 1) % n = if j % n + 1 = n then 0 else j % n + 1 := by
   split
   · next he =>
     have e : j + 1 = n * (j / n + 1) := by rw [Nat.mul_add]; omega
     rw [e, Nat.mul_div_cancel_left _ hn, Nat.mul_mod_right]
     exact ⟨rfl, rfl⟩
   · next he =>
     have e : j + 1 = (j % n + 1) + n * (j / n) := by omega
     rw [e, Nat.add_mul_div_left _ _ hn, Nat.add_mul_mod_self_left, Nat.div_eq_of_lt (by omega), Nat.mod_eq_of_lt (by omega)]
     omega
  obtain ⟨q1, q2⟩ := hstep
  have hup : ∀ u, X[j % n]? = some u → ∃ s', (allStep k n X j)[k]? = some s' ∧ s' = getStep s u := fun u hu => by
   refine ⟨_, ?_, rfl⟩
   unfold allStep
   rw [h1, hu]
   exact List.getElem?_set_self hkl
  rcases hu : X[j % n]? with _ | u
  · have e : allStep k n X j = X := by unfold allStep; rw [hu]; split <;> first | rfl | simp_all
    rw [e]
    refine ⟨s, h1, h2, ?_⟩
    have hne : f ≠ j % n := fun e => by rw [← e, hoth, ht] at hu; cases hu
    rw [q1, q2]
    refine Nat.le_trans ?_ h3
    split <;> split <;> split <;> omega
  · obtain ⟨s', e1, rfl⟩ := hup u hu
    refine ⟨_, e1, fun y hy hh => get_here i1 hsm h1 hu y hy (h2 y hy hh), ?_⟩
    have hmono : hereN s.clk t.acts ≤ hereN (getStep s u).clk t.acts := List.countP_mono_left fun y hy hh => by
     have hyG := (((h.site f t ht).2.2.1.mem h.web y).1 hy).1
     simpa using get_here i1 hsm h1 hu y hyG (by simpa using hh)
    rw [q1, q2]
    by_cases hjf : j % n = f
    · have : u = t := by
       rw [hjf, hoth, ht] at hu
       exact (Option.some.inj hu).symm
      subst this
      have hle2 : hereN (getStep s u).clk u.acts ≤ u.acts.length := List.countP_le_length
      rw [if_neg (by omega)] at h3
      rcases get_count i1 hsm h1 hu with hc | hc
      · omega
      · split <;> split <;> omega
    · refine Nat.le_trans ?_ (Nat.le_trans h3 hmono)
      split <;> split <;> split <;> omega
theorem allRound_here {G : List Actn} {b : List El} {n k m : Nat} {ss : List Lg} (h : Sess G b ss) (ha : AllGd ss m) (hm : m + n * 40 ≤ 100000) (hG : G.length ≤ 40) (hn : ss.length = n) {s : Lg} (hs : (allRound n ss k)[k]? = some s) : ∀ y ∈ G, y.here s.clk := fun y hy => by
 have hkl : k < n := by
  have := (List.getElem?_eq_some_iff.1 hs).1
  rw [allRound_length, hn] at this
  exact this
 have hr := h.few y hy
 rw [hn] at hr
 have hrep := h.web.rep y hy
 have hrr : y.op.rep = ((y.r : Nat) : Int) := by unfold Actn.r; omega
 obtain ⟨s0, hs0⟩ : ∃ s0, ss[k]? = some s0 := ⟨_, List.getElem?_eq_getElem (by omega)⟩
 obtain ⟨t, ht⟩ : ∃ t, ss[y.r]? = some t := ⟨_, List.getElem?_eq_getElem (by omega)⟩
 have hyt := (h.site _ t ht).2.2.2 y hy hrr
 by_cases hyk : y.r = k
 · have hone : n = 1 ∨ ∃ f, f < n ∧ f ≠ k := by
    by_cases h1 : n = 1
    · exact .inl h1
    · exact .inr (if h0 : k = 0 then ⟨1, by omega, by omega⟩ else ⟨0, by omega, by omega⟩)
   rcases allSteps_inv k n (List.range (n * 40)) ss m h ha (by rw [List.length_range]; omega) with ⟨i1, -⟩
   exact (i1.site k s hs).2.2.2 y hy (by rw [hrr, hyk])
 · obtain ⟨s1, e1, e2, e3⟩ := allSteps_count hr hyk (by omega) hs0 ht h ha (n * 40) hm
   have : s1 = s := Option.some.inj (e1.symm.trans hs)
   subst this
   rw [Nat.mul_div_cancel_left _ (by omega)] at e3
   have hT := (h.site _ t ht).2.2.1
   have hlen : t.acts.length ≤ G.length := Run.length_le h.web hT
   have hc : hereN s1.clk t.acts = t.acts.length := Nat.le_antisymm List.countP_le_length (by omega)
   have := List.countP_eq_length.1 hc y ((hT.mem h.web y).2 ⟨hy, hyt⟩)
   simpa using this
theorem allRounds_here {G : List Actn} {b : List El} {n : Nat} (hG : G.length ≤ 40) : ∀ (ks : List Nat) (ss : List Lg) (m : Nat), Sess G b ss → AllGd ss m → m + ks.length * (n * 40) ≤ 100000 → ss.length = n → ∀ k ∈ ks, ∀ s, (ks.foldl (allRound n) ss)[k]? = some s → ∀ y ∈ G, y.here s.clk
 | [], _, _, _, _, _, _, k, hk => by cases hk
 | k0 :: ks, ss, m, h, ha, hm, hn, k, hk => by
  rw [List.length_cons, Nat.succ_mul] at hm
  have h1 := allSteps_inv k0 n (List.range (n * 40)) ss m h ha (by rw [List.length_range]; omega)
  rw [List.length_range] at h1
  intro s hs y hy
  rw [List.foldl_cons] at hs
  by_cases hks : k ∈ ks
  · exact allRounds_here hG ks (allRound n ss k0) (m + n * 40) h1.1 h1.2 (by omega) (by rw [allRound_length]; exact hn) k hks s hs y hy
  · obtain rfl : k = k0 := by
     rcases List.mem_cons.1 hk with h | h
     · exact h
     · exact absurd h hks
    have hoth : ∀ (js : List Nat) (X : List Lg), k ∉ js → (js.foldl (allRound n) X)[k]? = X[k]? := by
     intro js
     induction js with
     | nil => intro X _; rfl
     | cons j js ih =>
      intro X hj
      rw [List.foldl_cons, ih _ fun h => hj (List.mem_cons_of_mem _ h)]
      exact allSteps_other (fun e => hj (by rw [e]; exact List.mem_cons_self ..)) _ _
    rw [hoth ks _ hks] at hs
    exact allRound_here h ha (by omega) hG hn hs y hy
end Go.Proofs.YteggpddlkkjmjaaGreatDoor
