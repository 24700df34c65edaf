/- The statements' own rows, operations, replicas of chapter 7, in plain words. No condition. No program in sight. -/
import Derived.Test.YtogkbddniacgiaaDoorPlain7
namespace Go.Proofs.YtogkbddniacgiaaDoor
set_option linter.unusedSimpArgs false
set_option linter.unusedVariables false
open Go Go.RowKit
/-- the statements' own row: elements of right characters, with IDs of their own -/
def row7f (x : El × Nat) : Option El := if rightC x.1.char then some ⟨3, 0, x.2 + 1, x.1.char, x.1.hides % 5 - 2⟩ else none
def row7 (l : List El) : List El := l.zipIdx.filterMap row7f
theorem row7_snoc (l : List El) (e : El) : row7 (l ++ [e]) = row7 l ++ (row7f (e, l.length)).toList := by
  unfold row7
  rw [List.zipIdx_append, List.filterMap_append]
  congr 1
  simp only [List.zipIdx_cons, List.zipIdx_nil, Nat.zero_add, List.filterMap_cons, List.filterMap_nil]
  cases row7f (e, l.length) <;> rfl
theorem row7_length (l : List El) : (row7 l).length ≤ l.length := by
  have := List.length_filterMap_le row7f l.zipIdx
  simpa [row7] using this
theorem row7_mem {l : List El} {e : El} (h : e ∈ row7 l) : ∃ i : Nat, i < l.length ∧ e.nm = ⟨3, 0, i + 1⟩ ∧ rightC e.char = true ∧ -2 ≤ e.hides ∧ e.hides ≤ 2 := by
  obtain ⟨x, hx, hf⟩ := List.mem_filterMap.1 h
  unfold row7f at hf
  split at hf
  · next hc =>
    injection hf with hf
    subst hf
    have hi := List.snd_lt_of_mem_zipIdx hx
    refine ⟨x.2, by omega, rfl, hc, ?_, ?_⟩
    · show -2 ≤ x.1.hides % 5 - 2; omega
    · show x.1.hides % 5 - 2 ≤ 2; omega
  · cases hf
theorem row7_nodup (l : List El) : ((row7 l).map El.nm).Nodup := by
  have key : ∀ (l : List El) (k : Nat), ((l.zipIdx k).filterMap row7f).map El.nm |>.Nodup := by
    intro l
    induction l with
    | nil => intro k; exact List.nodup_nil
    | cons e l ih =>
      intro k
      rw [List.zipIdx_cons, List.filterMap_cons]
      split
      · exact ih _
      · next y hy =>
        rw [List.map_cons, List.nodup_cons]
        refine ⟨fun hm => ?_, ih _⟩
        obtain ⟨z, hz, hn⟩ := List.mem_map.1 hm
        obtain ⟨x, hx, hf⟩ := List.mem_filterMap.1 hz
        have hle := List.le_snd_of_mem_zipIdx hx
        unfold row7f at hy hf
        split at hy
        · split at hf
          · injection hy with hy
            injection hf with hf
            subst hy hf
            have := congrArg Nm.num hn
            simp only [El.nm] at this
            omega
          · cases hf
        · cases hy
  exact key l 0
theorem row7_calm (l : List El) : Calm 2 (row7 l) := fun e he => by
  obtain ⟨i, _, _, _, h1, h2⟩ := row7_mem he
  exact ⟨h1, h2⟩
theorem row7_good {l : List El} (hl : l.length ≤ 60) : ∀ e ∈ row7 l, e.Good := fun e he => by
  obtain ⟨i, hi, hn, hc, h1, h2⟩ := row7_mem he
  refine ⟨hc, ?_, ?_⟩
  · unfold fairH
    simp only [decide_eq_true_eq]
    omega
  · rw [hn]
    refine ⟨?_, ?_, ?_⟩
    · show I64 3; exact ⟨by decide, by decide⟩
    · show I64 0; exact ⟨by decide, by decide⟩
    · show I64 ((i : Int) + 1)
      unfold I64
      omega
/-- a name of the fourth epoch is none of the row's -/
theorem row7_new (l : List El) (r n : Int) : (⟨4, r, n⟩ : Nm) ∉ (row7 l).map El.nm := fun h => by
  obtain ⟨e, he, hn⟩ := List.mem_map.1 h
  obtain ⟨i, _, h2, _⟩ := row7_mem he
  rw [h2] at hn
  have := congrArg Nm.epoch hn
  simp at this
/-- an operation made valid -/
def fitOf (o : Opn) (n : Nat) (r : Int) : Opn × Bool :=
  if 1 + o.kind % 3 = 1 then (⟨1, o.at_ % ((n : Int) + 1), if rightC o.char then o.char else 99, r⟩, true)
  else if n = 0 then (⟨1 + o.kind % 3, o.at_, 0, r⟩, false) else (⟨1 + o.kind % 3, o.at_ % n, 0, r⟩, true)
theorem fit_fits {o : Opn} {n : Nat} {r : Int} (hr : 0 ≤ r ∧ r < 8) (h : (fitOf o n r).2 = true) : Fits (fitOf o n r).1 n := by
  unfold fitOf at h ⊢
  split
  · next hk =>
    refine ⟨?_, ?_, ?_⟩
    · unfold rightOp
      rw [if_neg (by show ¬ (r < 0 ∨ 8 ≤ r); omega), if_pos rfl]
      show rightC (if rightC o.char = true then o.char else 99) = true
      split
      · assumption
      · decide
    · exact Int.emod_nonneg _ (by omega)
    · have := Int.emod_lt_of_pos o.at_ (show (0 : Int) < n + 1 by omega)
      show o.at_ % (n + 1) < n ∨ o.at_ % (n + 1) = n ∧ (1 : Int) = 1
      omega
  · next hk =>
    rw [if_neg hk] at h
    split
    · next h0 => rw [if_pos h0] at h; cases h
    · next h0 =>
      refine ⟨?_, ?_, ?_⟩
      · unfold rightOp
        have : 1 + o.kind % 3 = 2 ∨ 1 + o.kind % 3 = 3 := by omega
        rw [if_neg (by show ¬ (r < 0 ∨ 8 ≤ r); omega), if_neg hk, if_pos this]
        rfl
      · exact Int.emod_nonneg _ (by omega)
      · exact .inl (Int.emod_lt_of_pos _ (by omega))
theorem fit_rep (o : Opn) (n : Nat) (r : Int) : (fitOf o n r).1.rep = r := by
  unfold fitOf
  split
  · rfl
  · split <;> rfl
/-- three replicas -/
def threeOf (n : Int) : Int × Int × Int :=
  let a := n % 8
  let b := if a ≤ n.tdiv 8 % 7 then n.tdiv 8 % 7 + 1 else n.tdiv 8 % 7
  let c0 := n.tdiv 56 % 6
  let c1 := if c0 = a ∨ c0 = b then c0 + 1 else c0
  let c2 := if c1 = a ∨ c1 = b then c1 + 1 else c1
  let c3 := if c2 = a ∨ c2 = b then c2 + 1 else c2
  let c4 := if c3 = a ∨ c3 = b then c3 + 1 else c3
  (a, b, c4)
theorem three_apart (n : Int) : ((0 ≤ (threeOf n).1 ∧ (threeOf n).1 < 8) ∧ (0 ≤ (threeOf n).2.1 ∧ (threeOf n).2.1 < 8) ∧ (0 ≤ (threeOf n).2.2 ∧ (threeOf n).2.2 < 8)) ∧
    (threeOf n).1 ≠ (threeOf n).2.1 ∧ (threeOf n).1 ≠ (threeOf n).2.2 ∧ (threeOf n).2.1 ≠ (threeOf n).2.2 := by
  have h1 : 0 ≤ n % 8 ∧ n % 8 < 8 := by omega
  have h2 : 0 ≤ n.tdiv 8 % 7 ∧ n.tdiv 8 % 7 < 7 := by omega
  have h3 : 0 ≤ n.tdiv 56 % 6 ∧ n.tdiv 56 % 6 < 6 := by omega
  unfold threeOf
  simp only
  generalize n % 8 = a at *
  generalize n.tdiv 8 % 7 = b0 at *
  generalize n.tdiv 56 % 6 = c at *
  obtain ⟨b, hb⟩ : ∃ b, b = if a ≤ b0 then b0 + 1 else b0 := ⟨_, rfl⟩
  rw [← hb]
  have h4 : 0 ≤ b ∧ b < 8 ∧ a ≠ b := by
    rw [hb]
    split <;> omega
  clear hb h2
  by_cases e0 : c = a ∨ c = b
  · rw [if_pos e0]
    by_cases e1 : c + 1 = a ∨ c + 1 = b
    · rw [if_pos e1, if_neg (show ¬ (c + 1 + 1 = a ∨ c + 1 + 1 = b) by omega), if_neg (show ¬ (c + 1 + 1 = a ∨ c + 1 + 1 = b) by omega)]
      omega
    · rw [if_neg e1, if_neg e1, if_neg e1]
      omega
  · rw [if_neg e0, if_neg e0, if_neg e0, if_neg e0]
    omega

/-- the ID of the number n of a replica -/
def nm4 (r n : Int) : Nm := ⟨4, r, n⟩
theorem doneIds_two (l : List El) (a b : Opn × Nm) : doneIds l [a, b] = doneOp (doneOp l a.1 a.2) b.1 b.2 := rfl
theorem doneAll_two (l : List El) (a b : Opn) : doneAll l [a, b] = doneOp (doneOp l a a.nm) b b.nm := rfl
theorem doneAll_three (l : List El) (a b c : Opn) : doneAll l [a, b, c] = doneOp (doneOp (doneOp l a a.nm) b b.nm) c c.nm := rfl
theorem Tof_nm (a b : Opn) : (Tof a b).nm = a.nm := by unfold Opn.nm; rw [Tof_rep]
theorem nm_in {o : Opn} (h : rightOp o = true) : o.nm.In := by
  have := rightOp_rep h
  refine ⟨?_, ?_, ?_⟩
  · show I64 4; exact ⟨by decide, by decide⟩
  · show I64 o.rep; unfold I64; omega
  · show I64 1; exact ⟨by decide, by decide⟩
/-- what stands for an operation on a row: it fits, its name is new there -/
structure Can (l : List El) (o : Opn) : Prop where
  fits : Fits o l.length
  new : o.nm ∉ l.map El.nm
theorem Can.behind {l : List El} {a b : Opn} (hb : Can l b) (hr : a.rep ≠ b.rep) (hl : l.length < 9223372036854775807) : Can (doneOp l a a.nm) (Tof b a) := by
  refine ⟨by rw [doneOp_len']; exact hb.fits.behind' hl, fun h => ?_⟩
  rw [Tof_nm] at h
  rcases nm_done h with ⟨_, h⟩ | h
  · have := congrArg Nm.rep h
    simp only [Opn.nm] at this
    exact hr this.symm
  · exact hb.new h
theorem Can.do_ {l : List El} {o : Opn} {H : Int} (h : Can l o) (hc : Calm H l) (hH : H ≤ 1000000) : CanDo l o o.nm := canDo_of h.fits hc hH (nm_in h.fits.right) (fun _ => h.new)
theorem canAll_two {l : List El} {a b : Opn} (ha : Can l a) (hb : Can l b) (hc : Calm 2 l) (hr : a.rep ≠ b.rep) (hl : l.length < 9223372036854775807) : CanAll l [a, Tof b a] :=
  ⟨ha.do_ hc (by decide), (Can.behind (a := a) hb hr hl).do_ (hc.done (by decide) _ _) (by decide), trivial⟩
theorem two_ways {l : List El} {a b : Opn} (ha : Can l a) (hb : Can l b) (hr : a.rep ≠ b.rep) (hl : l.length < 9223372036854775807) : doneAll l [a, Tof b a] = doneAll l [b, Tof a b] := by
  rw [doneAll_two, doneAll_two, Tof_nm, Tof_nm]
  exact tp1 _ _ ha.fits hb.fits hr hl
theorem canAll_three {l : List El} {a b c : Opn} (ha : Can l a) (hb : Can l b) (hc : Can l c) (hq : Calm 2 l) (hab : a.rep ≠ b.rep) (hac : a.rep ≠ c.rep) (hbc : b.rep ≠ c.rep) (hl : l.length < 4611686018427387904) :
    CanAll l [a, Tof b a, Tof (Tof c a) (Tof b a)] := by
  have h1 := Can.behind (a := a) hb hab (by omega)
  have h2 := Can.behind (a := a) hc hac (by omega)
  have q1 := hq.done (by decide) a a.nm
  have h3 := Can.behind (a := Tof b a) h2 (by rw [Tof_rep, Tof_rep]; exact hbc) (by rw [doneOp_len']; unfold Opn.ins; split <;> omega)
  exact ⟨ha.do_ hq (by decide), h1.do_ q1 (by decide), h3.do_ (q1.done (by decide) _ _) (by decide), trivial⟩
theorem three_swap12 {l : List El} {a b c : Opn} (ha : Can l a) (hb : Can l b) (hc : Can l c) (hab : a.rep ≠ b.rep) (hl : l.length < 4611686018427387904) :
    doneAll l [a, Tof b a, Tof (Tof c a) (Tof b a)] = doneAll l [b, Tof a b, Tof (Tof c b) (Tof a b)] := by
  rw [doneAll_three, doneAll_three, tp2 ha.fits hb.fits hc.fits hab hl, Tof_nm b a, tp1 _ _ ha.fits hb.fits hab (by omega), Tof_nm a b, Tof_nm (Tof c b)]
theorem three_swap23 {l : List El} {a b c : Opn} (ha : Can l a) (hb : Can l b) (hc : Can l c) (hab : a.rep ≠ b.rep) (hac : a.rep ≠ c.rep) (hbc : b.rep ≠ c.rep) (hl : l.length < 4611686018427387904) :
    doneAll l [a, Tof b a, Tof (Tof c a) (Tof b a)] = doneAll l [a, Tof c a, Tof (Tof b a) (Tof c a)] := by
  have h1 := Can.behind (a := a) hb hab (by omega)
  have h2 := Can.behind (a := a) hc hac (by omega)
  have := two_ways h1 h2 (by rw [Tof_rep, Tof_rep]; exact hbc) (by rw [doneOp_len']; unfold Opn.ins; split <;> omega)
  exact this
end Go.Proofs.YtogkbddniacgiaaDoor
