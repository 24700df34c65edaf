/- Part of a proof: what functions of the program compute. Conditions: as each theorem says. -/
import Derived.Test.YteggpddlkkjmjaaGreatDoorQ50
set_option linter.unusedSimpArgs false
set_option linter.unusedVariables false
namespace Go.Proofs.YteggpddlkkjmjaaGreatDoor
open Go Go.RowKit
structure Lg.Snd (s : Lg) (m : Nat) : Prop where
 base : s.base.length ≤ 100
 acts : s.acts.length ≤ m
 forms : s.forms.length ≤ m
 l : s.l.length ≤ 100 + m
 clk : ∀ k, k < 8 → 0 ≤ s.clk.get k ∧ s.clk.get k ≤ m
 st : s.Stand
 epo : s.Epo
 nd : (s.l.map El.nm).Nodup
 calm : Calm (10 + m) s.l
 ep : 0 ≤ s.ep ∧ s.ep ≤ 1099511627777
theorem Lg.Snd.fine {s : Lg} {m K : Nat} (h : s.Snd m) (hm : m ≤ 100000) (hK : K ≤ 1099511627775) : s.Fine K :=
 ⟨by have := h.base; omega, by have := h.acts; omega, by have := h.forms; omega, by have := h.l; omega, fun k hk => ⟨by have := h.clk k hk; omega, by have := h.clk k hk; omega⟩, h.st, h.epo, h.nd, fun e he => by have := h.calm e he; constructor <;> omega, ⟨by have := h.ep; omega, by have := h.ep; omega⟩, hK⟩
theorem Lg.Snd.ck {s : Lg} {m : Nat} (h : s.Snd m) (hm : m ≤ 100000) : ∀ k, k < 8 → s.clk.get k ≤ 2097152 := fun k hk => by have := h.clk k hk; omega
theorem Lg.Snd.mono {s : Lg} {m m' : Nat} (h : s.Snd m) (hm : m ≤ m') : s.Snd m' :=
 ⟨h.base, Nat.le_trans h.acts hm, Nat.le_trans h.forms hm, by have := h.l; omega, fun k hk => by have := h.clk k hk; omega, h.st, h.epo, h.nd, fun e he => by have := h.calm e he; constructor <;> omega, h.ep⟩
theorem Lg.Snd.deliver {s : Lg} {m : Nat} (h : s.Snd m) {x : Actn} {f : Opn} (hk : f.kind = x.op.kind) (hr : x.op.rep = f.rep) (hn : x.num = s.clk.get x.op.rep.toNat + 1) : (s.deliver x f).Snd (m + 1) := by
 by_cases hw : whyOf s.l f (s.name x) = 0
 · have he : s.deliver x f = { s with acts := s.acts ++ [x], forms := s.forms ++ [f], clk := s.clk.set x.op.rep.toNat x.num, l := doneOp s.l f (s.name x) } := by
    unfold Lg.deliver
    rw [if_pos hw, appOf_done hw]
   have hrep : 0 ≤ x.op.rep ∧ x.op.rep < 8 := by
    rcases why_cases s.l f (s.name x) with ⟨h1, _⟩ | ⟨h1, _⟩ | ⟨h1, _⟩ | ⟨_, h2, _⟩
    · omega
    · omega
    · omega
    · have := rightOp_rep (validOp_right h2).1
      rw [hr]; exact this
   have hfresh : f.kind = 1 → s.name x ∉ s.l.map El.nm := fun h1 hm => by
    unfold whyOf at hw
    split at hw
    · omega
    · split at hw
      · omega
      · rw [if_pos ⟨h1, hm⟩] at hw
        omega
   have hsub : ∀ i, i ∈ s.l.map El.nm → i ∈ (doneOp s.l f (s.name x)).map El.nm := fun i hi => by
    rw [names_done]
    split
    · exact (mem_split _ _).2 (.inl hi)
    · exact hi
   rw [he]
   refine ⟨h.base, ?_, ?_, ?_, fun k hk' => ?_, ?_, ?_, ?_, ?_, h.ep⟩
   · show (s.acts ++ [x]).length ≤ m + 1
     rw [List.length_append, List.length_singleton]
     have := h.acts; omega
   · show (s.forms ++ [f]).length ≤ m + 1
     rw [List.length_append, List.length_singleton]
     have := h.forms; omega
   · show (doneOp s.l f (s.name x)).length ≤ 100 + (m + 1)
     have h1 := doneOp_length s.l f (s.name x)
     have := h.l; omega
   · show 0 ≤ (s.clk.set x.op.rep.toNat x.num).get k ∧ (s.clk.set x.op.rep.toNat x.num).get k ≤ ((m + 1 : Nat) : Int)
     rw [Clk.get_set _ (by omega)]
     have h2 := h.clk x.op.rep.toNat (by omega)
     have h3 := h.clk k hk'
     split <;> omega
   · intro y hy hk1
     rcases List.mem_append.1 hy with hy | hy
     · exact hsub _ (h.st y hy hk1)
     · rw [List.mem_singleton.1 hy] at hk1 ⊢
       show s.name x ∈ (doneOp s.l f (s.name x)).map El.nm
       rw [names_done, if_pos (by rw [hk]; exact hk1)]
       exact (mem_split _ _).2 (.inr rfl)
   · intro e he'
     have he' : e ∈ doneOp s.l f (s.name x) := he'
     have h1 : e.nm ∈ (doneOp s.l f (s.name x)).map El.nm := List.mem_map_of_mem he'
     rcases nm_done h1 with ⟨_, h2⟩ | h2
     · exact .inr (show e.nm.epoch = s.ep by rw [h2]; rfl)
     · obtain ⟨e', he2, h3⟩ := List.mem_map.1 h2
       rcases h.epo e' he2 with h4 | h4
       · exact .inl (h3 ▸ h4)
       · exact .inr (show e.nm.epoch = s.ep by rw [← h3]; exact h4)
   · show ((doneOp s.l f (s.name x)).map El.nm).Nodup
     rw [names_done]
     split
     · next h1 => exact nodup_split h.nd (hfresh h1) _
     · exact h.nd
   · show Calm (10 + ((m + 1 : Nat) : Int)) (doneOp s.l f (s.name x))
     have h1 := h.calm.done (by omega) f (s.name x)
     intro e he'
     have := h1 e he'
     constructor <;> omega
 · rw [deliver_nay hw]
   exact h.mono (Nat.le_succ m)
end Go.Proofs.YteggpddlkkjmjaaGreatDoor
