/- Part of a proof: what functions of the program compute. Conditions: as each theorem says. -/
import Derived.Test.YteggpddlkkjmjaaGreatDoorQ30
set_option linter.unusedSimpArgs false
set_option linter.unusedVariables false
namespace Go.Proofs.YteggpddlkkjmjaaGreatDoor
open Go Go.RowKit
def formStep (f : List Actn → Actn → Opn) (p : List Actn × Opn) (y : Actn) : List Actn × Opn := (p.1 ++ [y], Tof p.2 (f p.1 y))
def pastC (acts : List Actn) (c : Clk) : List Actn := acts.filter fun y => hasC c y.op.rep y.num
def formedOf : Nat → List Actn → Actn → Opn
 | 0, _, x => x.op
 | n + 1, acts, x => ((besideC acts x.clk).foldl (formStep (formedOf n)) (pastC acts x.clk, x.op)).2
theorem formStep_fst (f : List Actn → Actn → Opn) : ∀ (l : List Actn) (p : List Actn × Opn), (l.foldl (formStep f) p).1 = p.1 ++ l
 | [], p => by simp
 | y :: l, p => by rw [List.foldl_cons, formStep_fst f l]; unfold formStep; simp
def IsSetC (G L : List Actn) (d : Clk) : Prop := ∀ y, y ∈ L ↔ y ∈ G ∧ y.here d
def Caus (G L : List Actn) : Prop := ∀ (i : Nat) (z : Actn), L[i]? = some z → ∀ u ∈ G, u.here z.clk → u ∈ L.take i
section
variable {G : List Actn} {n0 : Nat} {ep : Int} {b : List El}
theorem leC_of_here (W : Web G n0) {c d : Clk} (hc : Cl G c) (hd : Cl G d) (h : ∀ y ∈ G, y.here c → y.here d) : leC c d := fun k hk => by
 refine Classical.byContradiction fun hlt => ?_
 have h0 := (hd k hk).1
 obtain ⟨y, hy, y1, y2, -⟩ := (hc k hk).2 (c.get k) (by omega) (Int.le_refl _)
 have hyr : y.r = k := by unfold Actn.r; omega
 have := h y hy (by unfold Actn.here; rw [hyr, y2]; exact Int.le_refl _)
 unfold Actn.here at this
 rw [hyr, y2] at this
 omega
theorem mem_past (W : Web G n0) {L : List Actn} {d : Clk} (hL : IsSetC G L d) {c : Clk} (hle : leC c d) : IsSetC G (pastC L c) c := fun y => by
 unfold pastC
 rw [List.mem_filter]
 constructor
 · rintro ⟨h1, h2⟩
   have hG := ((hL y).1 h1).1
   exact ⟨hG, (has_here W hG c).1 h2⟩
 · rintro ⟨h1, h2⟩
   refine ⟨(hL y).2 ⟨h1, ?_⟩, (has_here W h1 c).2 h2⟩
   have := hle y.r (W.r_lt h1)
   unfold Actn.here at h2 ⊢
   omega
theorem mem_beside (W : Web G n0) {L : List Actn} {d : Clk} (hL : IsSetC G L d) (c : Clk) (y : Actn) : y ∈ besideC L c ↔ y ∈ L ∧ ¬ y.here c := by
 unfold besideC
 rw [List.mem_filter]
 constructor
 · rintro ⟨h1, h2⟩
   have hG := ((hL y).1 h1).1
   exact ⟨h1, fun hh => by rw [(has_here W hG c).2 hh] at h2; cases h2⟩
 · rintro ⟨h1, h2⟩
   have hG := ((hL y).1 h1).1
   refine ⟨h1, ?_⟩
   cases hh : hasC c y.op.rep y.num
   · rfl
   · exact absurd ((has_here W hG c).1 hh) h2
theorem split_filter {α : Type} (p : α → Bool) : ∀ {l : List α} {i : Nat} {z : α}, (l.filter p)[i]? = some z → ∃ j, l[j]? = some z ∧ (l.take j).filter p = (l.filter p).take i
 | [], i, z, h => by cases h
 | a :: l, i, z, h => by
  cases hp : p a
  · rw [List.filter_cons_of_neg (by simp [hp])] at h
    obtain ⟨j, h1, h2⟩ := split_filter p h
    refine ⟨j + 1, h1, ?_⟩
    rw [List.take_succ_cons, List.filter_cons_of_neg (by simp [hp]), List.filter_cons_of_neg (by simp [hp])]
    exact h2
  · rw [List.filter_cons_of_pos hp] at h
    cases i with
    | zero =>
     refine ⟨0, by simpa using h, by simp⟩
    | succ i =>
     rw [List.getElem?_cons_succ] at h
     obtain ⟨j, h1, h2⟩ := split_filter p h
     refine ⟨j + 1, h1, ?_⟩
     rw [List.take_succ_cons, List.filter_cons_of_pos hp, List.filter_cons_of_pos hp, List.take_succ_cons, h2]
theorem filter_mem_take {α : Type} (p : α → Bool) {l : List α} {j : Nat} {u : α} (h : u ∈ l.take j) (hp : p u = true) : u ∈ (l.take j).filter p := List.mem_filter.2 ⟨h, hp⟩
theorem Caus.part (W : Web G n0) {L : List Actn} {d c : Clk} (hL : IsSetC G L d) (hc : Caus G L) (hcl : Cl G c) (hle : leC c d) (i : Nat) : Caus G (pastC L c ++ (besideC L c).take i) := fun k z hz u hu hh => by
 have hP := mem_past W hL hle
 by_cases hk : k < (pastC L c).length
 · rw [List.getElem?_append_left hk] at hz
   obtain ⟨j, h1, h2⟩ := split_filter _ hz
   have hzc := (hP z).1 (List.mem_of_getElem? hz)
   have hle2 := W.at_ hcl hzc.1 hzc.2
   have huc : u.here c := by
    have := hle2 u.r (W.r_lt hu)
    unfold Actn.here at hh ⊢
    omega
   have h3 := hc j z h1 u hu hh
   rw [List.take_append_of_le_length (by omega)]
   show u ∈ (pastC L c).take k
   unfold pastC
   rw [← h2]
   exact filter_mem_take _ h3 ((has_here W hu c).2 huc)
 · rw [List.getElem?_append_right (by omega)] at hz
   rw [List.take_append, List.mem_append]
   by_cases huc : u.here c
   · left
     rw [List.take_of_length_le (by omega)]
     exact (hP u).2 ⟨hu, huc⟩
   · right
     rw [List.getElem?_take] at hz
     split at hz
     · next hlt =>
       obtain ⟨j, h1, h2⟩ := split_filter _ (show (L.filter fun x => ! hasC c x.op.rep x.num)[k - (pastC L c).length]? = some z from hz)
       have h3 := hc j z h1 u hu hh
       rw [List.take_take, Nat.min_eq_left (by omega)]
       show u ∈ (besideC L c).take _
       unfold besideC
       rw [← h2]
       refine filter_mem_take _ h3 ?_
       cases hx : hasC c u.op.rep u.num
       · rfl
       · exact absurd ((has_here W hu c).1 hx) huc
     · cases hz
theorem part_length (L : List Actn) (c : Clk) : (pastC L c).length + (besideC L c).length = L.length := by
 unfold pastC besideC
 induction L with
 | nil => rfl
 | cons p l ih => cases hh : hasC c p.op.rep p.num <;> simp [List.filter_cons, hh] <;> omega
theorem formed_fm (W : Web G n0) : ∀ (n : Nat) (L : List Actn) (d : Clk) (x : Actn), IsSetC G L d → Caus G L → L.Nodup → Rdy G d x → L.length ≤ n → Fm G d x (formedOf n L x)
 | 0, L, d, x, hL, _, _, hx, hn => by
  have hcl := W.cl x hx.mem
  have hd : d = x.clk := by
   refine here_ext W hx.cl hcl fun y hy => ⟨fun hh => ?_, fun hh => ?_⟩
   · have := (hL y).2 ⟨hy, hh⟩
     obtain rfl : L = [] := List.eq_nil_of_length_eq_zero (by omega)
     cases this
   · have := hx.le y.r (W.r_lt hy)
     unfold Actn.here at hh ⊢
     omega
  rw [hd]
  exact Fm.base hx.mem
 | n + 1, L, d, x, hL, hC, hnd, hx, hn => by
  have hcl := W.cl x hx.mem
  have hP := mem_past W hL hx.le
  have hpl := part_length L x.clk
  have key : ∀ i, i ≤ (besideC L x.clk).length → ∃ di, IsSetC G (pastC L x.clk ++ (besideC L x.clk).take i) di ∧ Fm G di x (((besideC L x.clk).take i).foldl (formStep (formedOf n)) (pastC L x.clk, x.op)).2 := by
   intro i
   induction i with
   | zero => intro _; exact ⟨x.clk, by simpa using hP, Fm.base hx.mem⟩
   | succ i ih =>
    intro hi
    obtain ⟨di, h1, h2⟩ := ih (by omega)
    obtain ⟨z, hz⟩ : ∃ z, (besideC L x.clk)[i]? = some z := ⟨_, List.getElem?_eq_getElem (by omega)⟩
    have hzb := (mem_beside W hL x.clk z).1 (List.mem_of_getElem? hz)
    have hzG := ((hL z).1 hzb.1)
    have hdc := (h2.rdy W).cl
    have hbn : (besideC L x.clk).Nodup := hnd.filter _
    have hspl : (besideC L x.clk).take i ++ z :: (besideC L x.clk).drop (i + 1) = besideC L x.clk := by
     have hl := (List.getElem?_eq_some_iff.1 hz).1
     have h2 := (List.getElem?_eq_some_iff.1 hz).2
     rw [← h2, ← List.drop_eq_getElem_cons hl, List.take_append_drop]
    have hzt : z ∉ (besideC L x.clk).take i := fun hm => by
     rw [← hspl, List.nodup_append] at hbn
     exact hbn.2.2 _ hm _ (List.mem_cons_self ..) rfl
    have hzn : ¬ z.here di := fun hh => by
     have hm := (h1 z).2 ⟨hzG.1, hh⟩
     rcases List.mem_append.1 hm with hm | hm
     · exact hzb.2 ((hP z).1 hm).2
     · exact hzt hm
    have hC1 := Caus.part W hL hC hcl hx.le (i + 1)
    have hzat : (pastC L x.clk ++ (besideC L x.clk).take (i + 1))[(pastC L x.clk).length + i]? = some z := by
     rw [List.getElem?_append_right (by omega), Nat.add_sub_cancel_left, List.getElem?_take, if_pos (by omega)]
     exact hz
    have htk : (pastC L x.clk ++ (besideC L x.clk).take (i + 1)).take ((pastC L x.clk).length + i) = pastC L x.clk ++ (besideC L x.clk).take i := by
     rw [List.take_append, List.take_of_length_le (by omega), Nat.add_sub_cancel_left, List.take_take, Nat.min_eq_left (by omega)]
    have hle : leC z.clk di := leC_of_here W (W.cl z hzG.1) hdc fun u hu hh => by
     have := hC1 _ z hzat u hu hh
     rw [htk] at this
     exact ((h1 u).1 this).2
    have hrz : Rdy G di z := by
     refine ⟨hzG.1, hdc, hle, ?_⟩
     have h3 := hle z.r (W.r_lt hzG.1)
     rw [W.own z hzG.1] at h3
     unfold Actn.here at hzn
     omega
    have hne : x.op.rep ≠ z.op.rep := fun he => by
     have h3 := (h2.rdy W).next
     have h4 := hrz.next
     have hr : x.r = z.r := by unfold Actn.r; rw [he]
     rw [hr] at h3
     have := W.one x hx.mem z hzG.1 he (by omega)
     subst this
     exact hx.not_here hzG.2
    have hlen : (pastC L x.clk ++ (besideC L x.clk).take i).length ≤ n := by
     rw [List.length_append, List.length_take]
     omega
    have hnd2 : (pastC L x.clk ++ (besideC L x.clk).take i).Nodup := by
     rw [List.nodup_append]
     refine ⟨hnd.filter _, hbn.sublist (List.take_sublist _ _), fun u hu v hv e => ?_⟩
     subst e
     exact ((mem_beside W hL x.clk u).1 (List.mem_of_mem_take hv)).2 ((hP u).1 hu).2
    have hf := formed_fm W n _ di z h1 (Caus.part W hL hC hcl hx.le i) hnd2 hrz hlen
    refine ⟨di.set z.r z.num, fun y => ?_, ?_⟩
    · rw [List.take_add_one, hz, Option.toList_some, ← List.append_assoc, List.mem_append, List.mem_singleton, h1 y]
      constructor
      · rintro (h | rfl)
        · exact ⟨h.1, (here_set W hrz h.1).2 (.inl h.2)⟩
        · exact ⟨hzG.1, (here_set W hrz hzG.1).2 (.inr rfl)⟩
      · rintro ⟨hy, hh⟩
        rcases (here_set W hrz hy).1 hh with h | h
        · exact .inl ⟨hy, h⟩
        · exact .inr h
    · rw [List.take_add_one, hz, Option.toList_some, List.foldl_append, List.foldl_cons, List.foldl_nil]
      have e1 : formStep (formedOf n) (((besideC L x.clk).take i).foldl (formStep (formedOf n)) (pastC L x.clk, x.op)) z = ((((besideC L x.clk).take i).foldl (formStep (formedOf n)) (pastC L x.clk, x.op)).1 ++ [z], Tof (((besideC L x.clk).take i).foldl (formStep (formedOf n)) (pastC L x.clk, x.op)).2 (formedOf n (((besideC L x.clk).take i).foldl (formStep (formedOf n)) (pastC L x.clk, x.op)).1 z)) := rfl
      rw [e1]
      show Fm G (di.set z.r z.num) x (Tof _ (formedOf n _ z))
      rw [formStep_fst]
      exact .step h2 hf hne
  obtain ⟨di, h1, h2⟩ := key _ (Nat.le_refl _)
  rw [List.take_of_length_le (Nat.le_refl _)] at h1 h2
  have hd : di = d := by
   refine here_ext W (h2.rdy W).cl hx.cl fun y hy => ⟨fun hh => ?_, fun hh => ?_⟩
   · have hm := (h1 y).2 ⟨hy, hh⟩
     rcases List.mem_append.1 hm with hm | hm
     · exact ((hL y).1 (List.mem_filter.1 hm).1).2
     · exact ((hL y).1 ((mem_beside W hL x.clk y).1 hm).1).2
   · have hm := (hL y).2 ⟨hy, hh⟩
     have hm2 : y ∈ pastC L x.clk ++ besideC L x.clk := by
      rw [List.mem_append]
      by_cases hc : y.here x.clk
      · exact .inl ((hP y).2 ⟨hy, hc⟩)
      · exact .inr ((mem_beside W hL x.clk y).2 ⟨hm, hc⟩)
     exact ((h1 y).1 hm2).2
  rw [hd] at h2
  exact h2
theorem formed_at (W : Web G b.length) {L : List Actn} {F : List Opn} {d : Clk} {l : List El} (R : Run G ep b L F d l) {i n : Nat} {x : Actn} {o : Opn} (hx : L[i]? = some x) (ho : F[i]? = some o) (hn : i ≤ n) : formedOf n (L.take i) x = o := by
 obtain ⟨dP, lP, o', a1, a2, a3, -⟩ := R.at_ W hx
 rw [ho] at a3
 cases a3
 have hil := (List.getElem?_eq_some_iff.1 hx).1
 refine W.fm_one (formed_fm W n (L.take i) dP x (a1.mem W) (fun j z hz u hu hh => ?_) (a1.nodup W) (a2.rdy W) (by rw [List.length_take]; omega)) a2
 obtain ⟨dQ, lQ, o2, b1, b2, -, -⟩ := a1.at_ W hz
 exact (b1.mem W u).2 ⟨hu, by
  have := (b2.rdy W).le u.r (W.r_lt hu)
  unfold Actn.here at hh ⊢
  omega⟩
end
end Go.Proofs.YteggpddlkkjmjaaGreatDoor
