/- Part of a proof: what functions of the program compute. Conditions: as each theorem says. -/
import Derived.Test.YteggpddlkkjmjaaGreatDoorQ66
set_option linter.unusedSimpArgs false
set_option linter.unusedVariables false
namespace Go.Proofs.YteggpddlkkjmjaaGreatDoor
open Go Go.RowKit
def allStep (k n : Nat) (ss : List Lg) (j : Nat) : List Lg :=
 match ss[k]?, ss[j % n]? with
 | some s, some t => ss.set k (getStep s t)
 | _, _ => ss
def allRound (n : Nat) (ss : List Lg) (k : Nat) : List Lg := (List.range (n * 40)).foldl (allStep k n) ss
def allOf (n : Nat) (ss : List Lg) : List Lg := (List.range n).foldl (allRound n) ss
theorem allStep_length (k n : Nat) (ss : List Lg) (j : Nat) : (allStep k n ss j).length = ss.length := by
 unfold allStep
 split
 · exact List.length_set ..
 · rfl
theorem allStep_gd {k n j : Nat} {ss : List Lg} {m : Nat} (h : AllGd ss m) : AllGd (allStep k n ss j) (m + 1) := by
 unfold allStep
 split
 · next s t hs ht => exact h.set ((h s (List.mem_of_getElem? hs)).get (h t (List.mem_of_getElem? ht)))
 · exact h.mono (Nat.le_succ m)
theorem Sess.allStep {G : List Actn} {b : List El} {ss : List Lg} (h : Sess G b ss) (hsm : Small ss) (k n j : Nat) : Sess G b (allStep k n ss j) := by
 unfold Go.Proofs.YteggpddlkkjmjaaGreatDoor.allStep
 split
 · next s t hs ht => exact h.get hsm hs ht
 · exact h
theorem allSteps_length (k n : Nat) : ∀ (js : List Nat) (ss : List Lg), (js.foldl (allStep k n) ss).length = ss.length
 | [], _ => rfl
 | j :: js, ss => by rw [List.foldl_cons, allSteps_length k n js, allStep_length]
theorem allSteps_inv {G : List Actn} {b : List El} (k n : Nat) : ∀ (js : List Nat) (ss : List Lg) (m : Nat), Sess G b ss → AllGd ss m → m + js.length ≤ 100000 → Sess G b (js.foldl (allStep k n) ss) ∧ AllGd (js.foldl (allStep k n) ss) (m + js.length)
 | [], ss, m, h, ha, _ => ⟨h, ha⟩
 | j :: js, ss, m, h, ha, hm => by
  rw [List.length_cons] at hm ⊢
  rw [List.foldl_cons]
  have := allSteps_inv k n js (allStep k n ss j) (m + 1) (h.allStep (ha.small (by omega)) k n j) (allStep_gd ha) (by omega)
  rwa [show m + 1 + js.length = m + (js.length + 1) by omega] at this
theorem allRound_length (n : Nat) (ss : List Lg) (k : Nat) : (allRound n ss k).length = ss.length := allSteps_length ..
theorem allRounds_length (n : Nat) : ∀ (ks : List Nat) (ss : List Lg), (ks.foldl (allRound n) ss).length = ss.length
 | [], _ => rfl
 | k :: ks, ss => by rw [List.foldl_cons, allRounds_length n ks, allRound_length]
theorem allRounds_inv {G : List Actn} {b : List El} (n : Nat) : ∀ (ks : List Nat) (ss : List Lg) (m : Nat), Sess G b ss → AllGd ss m → m + ks.length * (n * 40) ≤ 100000 → Sess G b (ks.foldl (allRound n) ss) ∧ AllGd (ks.foldl (allRound n) ss) (m + ks.length * (n * 40))
 | [], ss, m, h, ha, _ => ⟨h, by simpa using ha⟩
 | k :: ks, ss, m, h, ha, hm => by
  rw [List.length_cons, Nat.succ_mul] at hm ⊢
  rw [List.foldl_cons]
  have h1 := allSteps_inv k n (List.range (n * 40)) ss m h ha (by rw [List.length_range]; omega)
  rw [List.length_range] at h1
  have := allRounds_inv n ks (allRound n ss k) (m + n * 40) h1.1 h1.2 (by omega)
  rwa [show m + n * 40 + ks.length * (n * 40) = m + (ks.length * (n * 40) + n * 40) by omega] at this
variable {a : Nat → Addr}
theorem obj_of_cell {w : World} {a : Addr} {v : Value} (h : w.cell? a = some v) : ∃ cs u z, w.heap[a.block]? = some (.cells cs u z) := by
 unfold World.cell? at h
 cases hh : w.heap[a.block]? with
 | none => rw [hh] at h; cases h
 | some o =>
  rw [hh] at h
  cases o <;> first | exact ⟨_, _, _, rfl⟩ | (simp at h)
theorem set_same9 {α : Type} {l : List α} {k : Nat} {x : α} (h : l[k]? = some x) : l.set k x = l := by
 refine List.ext_getElem? fun i => ?_
 rw [List.getElem?_set]
 split
 · next e =>
   subst e
   rw [if_pos (List.getElem?_eq_some_iff.1 h).1, h]
 · rfl
theorem allStep_at {k n j f : Nat} {ss : List Lg} {s u : Lg} (hf : j % n = f) (hs : ss[k]? = some s) (hu : ss[f]? = some u) : allStep k n ss j = ss.set k (getStep s u) := by
 unfold allStep
 rw [hf, hs, hu]
theorem allGd_steps {k n : Nat} : ∀ (js : List Nat) (ss : List Lg) (m : Nat), AllGd ss m → AllGd (js.foldl (allStep k n) ss) (m + js.length)
 | [], _, _, h => h
 | j :: js, ss, m, h => by
  have := allGd_steps (k := k) (n := n) js _ (m + 1) (allStep_gd (k := k) (n := n) (j := j) h)
  rw [List.foldl_cons, List.length_cons]
  rwa [show m + (js.length + 1) = m + 1 + js.length by omega]
end Go.Proofs.YteggpddlkkjmjaaGreatDoor
