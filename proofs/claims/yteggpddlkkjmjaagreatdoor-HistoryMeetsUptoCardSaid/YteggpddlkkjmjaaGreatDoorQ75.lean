/- Part of a proof: what functions of the program compute. Conditions: as each theorem says. -/
import Derived.Test.YteggpddlkkjmjaaGreatDoorQ39
import Derived.Test.YteggpddlkkjmjaaGreatDoorQ74
set_option linter.unusedSimpArgs false
set_option linter.unusedVariables false
namespace Go.Proofs.YteggpddlkkjmjaaGreatDoor
open Go Go.RowKit
theorem allOf_meets {G : List Actn} {b : List El} {ss : List Lg} {m n : Nat} (h : Sess G b ss) (ha : AllGd ss m) (hm : m + n * (n * 40) ≤ 100000) (hG : G.length ≤ 40) (hn : ss.length = n) {k j : Nat} {s t : Lg} (hs : (allOf n ss)[k]? = some s) (ht : (allOf n ss)[j]? = some t) : s.clk = t.clk ∧ s.l = t.l := by
 have hlen : (allOf n ss).length = n := by unfold allOf; rw [allRounds_length]; exact hn
 have hkl := (List.getElem?_eq_some_iff.1 hs).1
 have hjl := (List.getElem?_eq_some_iff.1 ht).1
 have hall := allRounds_here hG (List.range n) ss m h ha (by rw [List.length_range]; exact hm) hn
 obtain ⟨i1, -⟩ := allRounds_inv n (List.range n) ss m h ha (by rw [List.length_range]; exact hm)
 obtain ⟨a1, a2, a3, -⟩ := i1.site k s hs
 obtain ⟨b1, b2, b3, -⟩ := i1.site j t ht
 have A := hall k (List.mem_range.2 (by omega)) s hs
 have B := hall j (List.mem_range.2 (by omega)) t ht
 have R1 : Run G 5 b s.acts s.forms s.clk s.l := by rw [← a1, ← a2]; exact a3
 have R2 : Run G 5 b t.acts t.forms t.clk t.l := by rw [← b1, ← b2]; exact b3
 exact R1.meet h.web R2 fun y => by
  rw [R1.mem h.web y, R2.mem h.web y]
  exact ⟨fun q => ⟨q.1, B y q.1⟩, fun q => ⟨q.1, A y q.1⟩⟩
end Go.Proofs.YteggpddlkkjmjaaGreatDoor
