/- Part of a proof: what functions of the program compute. Conditions: as each theorem says. -/
import Derived.Test.YteggpddlkkjmjaaGreatDoorQ39
import Derived.Test.YteggpddlkkjmjaaGreatDoorQ66
set_option linter.unusedSimpArgs false
set_option linter.unusedVariables false
namespace Go.Proofs.YteggpddlkkjmjaaGreatDoor
open Go Go.RowKit
variable {a : Nat → Addr}
structure AgainAt (G : List Actn) (b : List El) (L : List Actn) (F : List Opn) (i : Nat) (r : Lg) : Prop where
 ep : r.ep = 5
 base : r.base = b
 acts : r.acts = L.take i
 forms : r.forms = F.take i
 runs : r.Runs G
theorem again_step {G : List Actn} {b : List El} {L : List Actn} {F : List Opn} {d : Clk} {l : List El} (W : Web G b.length) (hb : Bs 5 b) (R : Run G 5 b L F d l) {i : Nat} {x : Actn} (hx : L[i]? = some x) {r : Lg} (h : AgainAt G b L F i r) (hsm : ∀ k, k < 8 → r.clk.get k < 9223372036854775807) :
 ∃ o, F[i]? = some o ∧ r.takeCode x = 0 ∧ r.formOf x = o ∧ AgainAt G b L F (i + 1) (r.takeOf x) := by
 obtain ⟨dP, lP, o, a1, a2, a3, -⟩ := R.at_ W hx
 have hR := h.runs
 have hR2 : Run G 5 b (L.take i) (F.take i) r.clk r.l := by
  have h1 := h.runs
  unfold Lg.Runs at h1
  rw [h.ep, h.base, h.acts, h.forms] at h1
  exact h1
 have W' : Web G r.base.length := by rw [h.base]; exact W
 have hb' : Bs r.ep r.base := by rw [h.ep, h.base]; exact hb
 obtain ⟨e1, -⟩ := hR2.meet W a1 fun y => Iff.rfl
 rw [← e1] at a2
 have hrd := a2.rdy W
 obtain ⟨k1, k2, k3, k4⟩ := hR.taken W' hb' hrd hsm
 have hf := W.fm_one (hR.form W' hb' hrd) a2
 refine ⟨o, a3, k2, ?_, ?_⟩
 · unfold Lg.formOf
   rw [if_pos k2, hf]
 · refine ⟨by rw [k4]; exact h.ep, by rw [k4]; exact h.base, ?_, ?_, k3⟩
   · rw [k4]
     show r.acts ++ [x] = L.take (i + 1)
     rw [h.acts, List.take_add_one, hx]
     rfl
   · rw [k4]
     show r.forms ++ [r.form x] = F.take (i + 1)
     rw [h.forms, List.take_add_one, a3, hf]
     rfl
theorem again_end {G : List Actn} {b : List El} {L : List Actn} {F : List Opn} {d : Clk} {l : List El} (W : Web G b.length) (R : Run G 5 b L F d l) {r : Lg} (h : AgainAt G b L F L.length r) : r.clk = d ∧ r.l = l := by
 have h1 := h.runs
 unfold Lg.Runs at h1
 rw [h.ep, h.base, h.acts, h.forms] at h1
 exact h1.meet W R fun y => by rw [List.take_length]
theorem again_zero {G : List Actn} {b : List El} {L : List Actn} {F : List Opn} : AgainAt G b L F 0 (newLg 5 b) := ⟨rfl, rfl, rfl, rfl, .nil⟩
theorem IsErr.pos {w : World} {S : Nat → Prop} : ∀ {ch : List Lk} {code : Nat} {v : Value}, IsErr w S a ch code v → 1 ≤ code
 | [], _, _, h => h.1
 | _ :: _, _, _, h => by obtain ⟨_, _, _, _, _, h⟩ := h; exact IsErr.pos h
theorem htake_done (w : World) (gb K : Nat) (S S' : Nat → Prop) (s : Lg) (x : Actn) (h : LogAt w S gb s K) (hf : s.Fine K) (hx : x.In) (hs : Sents w S' a) (hlow : ∀ b, S' b → b < w.heap.size) (hc : s.takeCode x = 0) :
 Calls Tryz.prog 37 #[.pointer (some ⟨gb, 0, none⟩), x.agg] w fun e w' => e = .returned (.tuple #[(s.formOf x).agg, .nilIface]) ∧ LogAt w' (Fr w S) gb (s.takeOf x) (K + 1) ∧ Out S w w' := by
 refine (take_step (a := a) w gb K S S' s x h hf hx hs hlow).mono ?_
 rintro e w' ⟨v, rfl, h1, h2, h3⟩
 rcases h1 with ⟨-, rfl⟩ | h1
 · exact ⟨rfl, h2, h3⟩
 · have := h1.pos
   omega
end Go.Proofs.YteggpddlkkjmjaaGreatDoor
