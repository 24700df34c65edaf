/- Part of a proof: what functions of the program compute. Conditions: as each theorem says. -/
import Derived.Test.YteggpddlkkjmjaaGreatDoorQ57
import Derived.Test.YteggpddlkkjmjaaGreatDoorQ58
set_option linter.unusedSimpArgs false
set_option linter.unusedVariables false
namespace Go.Proofs.YteggpddlkkjmjaaGreatDoor
open Go Go.RowKit
structure Mv8 where
 do_ : Int
 site : Int
 frm : Int
 op : Opn
structure Mv8.In (v : Mv8) : Prop where
 do_ : I64 v.do_
 site : I64 v.site
 frm : I64 v.frm
 op : v.op.In
instance : Enc Mv8 where
 k := 7
 cells v := [.int .i64 v.do_, .int .i64 v.site, .int .i64 v.frm, .int .i64 v.op.kind, .int .i64 v.op.at_, .int .i32 v.op.char, .int .i64 v.op.rep]
 len _ := rfl
 one := by
  intro a u hu
  simp only [List.mem_cons, List.not_mem_nil, or_false] at hu
  rcases hu with rfl | rfl | rfl | rfl | rfl | rfl | rfl <;> rfl
theorem ready_num {c : Clk} {x : Actn} (h : readyC c x = true) : x.num = c.get x.op.rep.toNat + 1 := by
 unfold readyC at h
 rw [Bool.and_eq_true, decide_eq_true_iff] at h
 exact h.1.2.2.2.2.1
theorem Lg.why0_num {s : Lg} {x : Actn} (hw : s.why x = 0) : x.num = s.clk.get x.op.rep.toNat + 1 := by
 unfold Lg.why at hw
 split at hw
 · omega
 · split at hw
   · omega
   · split at hw
     · omega
     · next h3 => exact ready_num (by simpa using h3)
theorem Lg.Gd.take {s : Lg} {m : Nat} (h : s.Gd m) {x : Actn} (hx : x.In) : (s.takeOf x).Gd (m + 1) := by
 unfold Lg.takeOf
 split
 · next hw => exact h.deliv hx (form_kind s x) (form_rep s x).symm (Lg.why0_num hw)
 · exact h.mono (Nat.le_succ m)
theorem noActn_in : noActn.In := by
 have h0 : I64 0 := ⟨by decide, by decide⟩
 refine ⟨⟨h0, h0, ⟨by decide, by decide⟩, h0⟩, h0, fun r hr => ?_⟩
 show I64 (Clk.zero.get r)
 rw [Clk.get_zero]
 exact h0
theorem lackAct_in {c : Clk} {acts : List Actn} (h : ∀ x ∈ acts, x.In) : (lackAct c acts).In := by
 unfold lackAct
 rcases hf : lacksOf c acts with _ | x
 · exact noActn_in
 · exact h x (List.mem_of_find?_eq_some hf)
theorem fit_in {o : Opn} (ho : o.In) {n : Nat} (hn : n ≤ 1048576) {r : Int} (hr : 0 ≤ r ∧ r < 8) : (fitOf o n r).1.In := by
 have h3 : 0 ≤ o.kind % 3 ∧ o.kind % 3 < 3 := by omega
 have hc := ho.char
 have hrI : I64 r := ⟨by omega, by omega⟩
 have hkI : I64 (1 + o.kind % 3) := ⟨by omega, by omega⟩
 have h0I : I32 0 := ⟨by decide, by decide⟩
 have h1I : I64 1 := ⟨by decide, by decide⟩
 unfold fitOf
 split
 · refine ⟨h1I, ?_, ?_, hrI⟩
   · show I64 (o.at_ % ((n : Int) + 1))
     have h1 := Int.emod_nonneg o.at_ (show (n : Int) + 1 ≠ 0 by omega)
     have h2 := Int.emod_lt_of_pos o.at_ (show (0 : Int) < n + 1 by omega)
     constructor <;> omega
   · show I32 (if rightC o.char = true then o.char else 99)
     split
     · exact hc
     · exact ⟨by decide, by decide⟩
 · split
   · exact ⟨hkI, ho.at_, h0I, hrI⟩
   · next h0 =>
     refine ⟨hkI, ?_, h0I, hrI⟩
     show I64 (o.at_ % (n : Int))
     have h1 := Int.emod_nonneg o.at_ (show (n : Int) ≠ 0 by omega)
     have h2 := Int.emod_lt_of_pos o.at_ (show (0 : Int) < n by omega)
     constructor <;> omega
def issStep (o : Opn) (k : Nat) (s : Lg) : Lg := if (fitOf o s.l.length k).2 = true then s.issueOf (fitOf o s.l.length k).1 else s
def getStep (s t : Lg) : Lg := if lackOk s.clk t.acts = true then s.takeOf (lackAct s.clk t.acts) else s
theorem Lg.Gd.iss {s : Lg} {m : Nat} (h : s.Gd m) (hm : m ≤ 100000) {o : Opn} (ho : o.In) {k : Nat} (hk : k < 8) : (issStep o k s).Gd (m + 1) := by
 unfold issStep
 split
 · exact h.issue hm (fit_in ho (by have := h.snd.l; omega) (by omega))
 · exact h.mono (Nat.le_succ m)
theorem Lg.Gd.get {s t : Lg} {m : Nat} (h : s.Gd m) (ht : t.Gd m) : (getStep s t).Gd (m + 1) := by
 unfold getStep
 split
 · exact h.take (lackAct_in ht.ain)
 · exact h.mono (Nat.le_succ m)
def playStep (n : Nat) (ss : List Lg) (v : Mv8) : List Lg :=
 match ss[(v.site % (n : Int)).toNat]?, ss[(v.frm % (n : Int)).toNat]? with
 | some s, some t => ss.set (v.site % (n : Int)).toNat (if v.do_ % 3 < 2 then issStep v.op (v.site % (n : Int)).toNat s else getStep s t)
 | _, _ => ss
theorem playStep_length (n : Nat) (ss : List Lg) (v : Mv8) : (playStep n ss v).length = ss.length := by
 unfold playStep
 split
 · exact List.length_set ..
 · rfl
def newSites (n : Nat) (b : List Int) : List Lg := List.replicate n (newLg 5 (base8 b (min b.length 20)))
def playedOf (n : Nat) (b : List Int) (vs : List Mv8) : List Lg := (vs.take 40).foldl (playStep n) (newSites n b)
def sitesN (x : Int) : Nat := 2 + (x % 3).toNat
def AllGd (ss : List Lg) (m : Nat) : Prop := ∀ s ∈ ss, s.Gd m
theorem AllGd.mono {ss : List Lg} {m m' : Nat} (h : AllGd ss m) (hm : m ≤ m') : AllGd ss m' := fun s hs => (h s hs).mono hm
theorem AllGd.set {ss : List Lg} {m : Nat} (h : AllGd ss m) {k : Nat} {s : Lg} (hs : s.Gd (m + 1)) : AllGd (ss.set k s) (m + 1) := fun t ht => by
 rcases List.mem_or_eq_of_mem_set ht with h1 | rfl
 · exact (h t h1).mono (Nat.le_succ m)
 · exact hs
theorem playStep_gd {n : Nat} {ss : List Lg} {v : Mv8} {m : Nat} (h : AllGd ss m) (hm : m ≤ 100000) (hv : v.In) (hn : 0 < n ∧ n ≤ 8) : AllGd (playStep n ss v) (m + 1) := by
 have h1 := Int.emod_lt_of_pos v.site (show (0 : Int) < n by omega)
 have h0 := Int.emod_nonneg v.site (show (n : Int) ≠ 0 by omega)
 unfold playStep
 split
 · next s t hs ht =>
   refine h.set ?_
   split
   · exact (h s (List.mem_of_getElem? hs)).iss hm hv.op (by omega)
   · exact (h s (List.mem_of_getElem? hs)).get (h t (List.mem_of_getElem? ht))
 · exact h.mono (Nat.le_succ m)
theorem fold_length (n : Nat) : ∀ (vs : List Mv8) (ss : List Lg), (vs.foldl (playStep n) ss).length = ss.length
 | [], _ => rfl
 | v :: vs, ss => by rw [List.foldl_cons, fold_length n vs, playStep_length]
theorem fold_gd {n : Nat} (hn : 0 < n ∧ n ≤ 8) : ∀ (vs : List Mv8) (ss : List Lg) (m : Nat), AllGd ss m → m + vs.length ≤ 100000 → (∀ v ∈ vs, v.In) → AllGd (vs.foldl (playStep n) ss) (m + vs.length)
 | [], _, m, h, _, _ => h
 | v :: vs, ss, m, h, hm, hv => by
  rw [List.length_cons] at hm
  have := fold_gd hn vs (playStep n ss v) (m + 1) (playStep_gd h (by omega) (hv v (List.mem_cons_self ..)) hn) (by omega) fun u hu => hv u (List.mem_cons_of_mem _ hu)
  rw [List.foldl_cons, List.length_cons]
  rwa [show m + (vs.length + 1) = m + 1 + vs.length by omega]
theorem playedOf_length (n : Nat) (b : List Int) (vs : List Mv8) : (playedOf n b vs).length = n := by
 unfold playedOf newSites
 rw [fold_length, List.length_replicate]
theorem newSites_gd (n : Nat) (b : List Int) : AllGd (newSites n b) 0 := fun s hs => by
 rw [List.eq_of_mem_replicate hs]
 exact new8_gd b _ (by omega)
theorem playedOf_gd {n : Nat} (hn : 0 < n ∧ n ≤ 8) (b : List Int) (vs : List Mv8) (hv : ∀ v ∈ vs, v.In) : AllGd (playedOf n b vs) 40 := by
 have hl : (vs.take 40).length ≤ 40 := by rw [List.length_take]; omega
 exact (fold_gd hn (vs.take 40) _ 0 (newSites_gd n b) (by omega) fun v h => hv v (List.mem_of_mem_take h)).mono (by omega)
theorem play_snoc (n : Nat) (ss : List Lg) {vs : List Mv8} {k : Nat} {v : Mv8} (h : vs[k]? = some v) : (vs.take (k + 1)).foldl (playStep n) ss = playStep n ((vs.take k).foldl (playStep n) ss) v := by
 rw [List.take_add_one, h, List.foldl_append]
 rfl
variable {a : Nat → Addr}
theorem sitesN_pos (k : Int) : 2 ≤ sitesN k ∧ sitesN k ≤ 4 := by unfold sitesN; omega
end Go.Proofs.YteggpddlkkjmjaaGreatDoor
