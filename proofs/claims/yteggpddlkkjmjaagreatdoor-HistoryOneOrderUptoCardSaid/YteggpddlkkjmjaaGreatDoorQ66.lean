/- Part of a proof: what functions of the program compute. Conditions: as each theorem says. -/
import Derived.Test.YteggpddlkkjmjaaGreatDoorQ30
import Derived.Test.YteggpddlkkjmjaaGreatDoorQ61
set_option linter.unusedSimpArgs false
set_option linter.unusedVariables false
namespace Go.Proofs.YteggpddlkkjmjaaGreatDoor
open Go Go.RowKit
structure Sess (G : List Actn) (b : List El) (ss : List Lg) : Prop where
 web : Web G b.length
 bs : Bs 5 b
 site : ∀ (k : Nat) (s : Lg), ss[k]? = some s → s.ep = 5 ∧ s.base = b ∧ s.Runs G ∧ ∀ y ∈ G, y.op.rep = (k : Int) → y.here s.clk
 few : ∀ y ∈ G, y.r < ss.length
def Small (ss : List Lg) : Prop := ∀ s ∈ ss, ∀ k, k < 8 → s.clk.get k < 9223372036854775807
theorem AllGd.small {ss : List Lg} {m : Nat} (h : AllGd ss m) (hm : m ≤ 100000) : Small ss := fun s hs k hk => by
 have := (h s hs).snd.clk k hk
 omega
theorem Lg.Runs.ready {s : Lg} {G : List Actn} (R : s.Runs G) (W : Web G s.base.length) {x : Actn} (hx : Rdy G s.clk x) (hsm : ∀ k, k < 8 → s.clk.get k < 9223372036854775807) : readyC s.clk x = true := by
 have h := R.why0 W hx hsm
 unfold Lg.why at h
 split at h
 · omega
 · split at h
   · omega
   · split at h
     · omega
     · next h3 => simpa using h3
theorem Lg.Runs.taken {s : Lg} {G : List Actn} (R : s.Runs G) (W : Web G s.base.length) (hb : Bs s.ep s.base) {x : Actn} (hx : Rdy G s.clk x) (hsm : ∀ k, k < 8 → s.clk.get k < 9223372036854775807) :
 s.why x = 0 ∧ s.takeCode x = 0 ∧ (s.takeOf x).Runs G ∧ s.takeOf x = { s with acts := s.acts ++ [x], forms := s.forms ++ [s.form x], clk := s.clk.set x.op.rep.toNat x.num, l := doneOp s.l (s.form x) (s.name x) } := by
 have h0 := R.why0 W hx hsm
 have hf := R.form W hb hx
 obtain ⟨h1, h2, h3⟩ := R.deliver W hb hf
 have e : s.takeOf x = s.deliver x (s.form x) := by unfold Lg.takeOf; rw [if_pos h0]
 refine ⟨h0, ?_, ?_, ?_⟩
 · unfold Lg.takeCode
   rw [if_pos h0, h1]
 · rw [e]; exact h2
 · rw [e]; exact h3
theorem lacksOf_some {c : Clk} {acts : List Actn} {x : Actn} (h : lacksOf c acts = some x) : ∃ k : Nat, acts[k]? = some x ∧ hasC c x.op.rep x.num = false ∧ ∀ y ∈ acts.take k, hasC c y.op.rep y.num = true := by
 unfold lacksOf at h
 obtain ⟨h1, k, hk, h2, h3⟩ := List.find?_eq_some_iff_getElem.1 h
 refine ⟨k, by rw [List.getElem?_eq_getElem hk, h2], by simpa using h1, fun y hy => ?_⟩
 obtain ⟨j, hj⟩ := List.getElem?_of_mem hy
 rw [List.getElem?_take] at hj
 split at hj
 · next hlt =>
   have hjl := (List.getElem?_eq_some_iff.1 hj).1
   have := h3 j hlt
   rw [(List.getElem?_eq_some_iff.1 hj).2] at this
   simpa using this
 · cases hj
theorem lacksOf_none {c : Clk} {acts : List Actn} (h : lacksOf c acts = none) : ∀ y ∈ acts, hasC c y.op.rep y.num = true := fun y hy => by
 unfold lacksOf at h
 have := List.find?_eq_none.1 h y hy
 simpa using this
theorem Lg.Runs.get {s t : Lg} {G : List Actn} (R : s.Runs G) (W : Web G s.base.length) (hb : Bs s.ep s.base) (T : t.Runs G) (hsm : ∀ k, k < 8 → s.clk.get k < 9223372036854775807) :
 (getStep s t = s ∧ lackOk s.clk t.acts = false ∧ ∀ y ∈ t.acts, y.here s.clk) ∨
 ∃ x, Rdy G s.clk x ∧ x ∈ t.acts ∧ lackOk s.clk t.acts = true ∧ lackAct s.clk t.acts = x ∧ getStep s t = s.takeOf x ∧ (s.takeOf x).Runs G ∧ s.takeCode x = 0 ∧ s.takeOf x = { s with acts := s.acts ++ [x], forms := s.forms ++ [s.form x], clk := s.clk.set x.op.rep.toNat x.num, l := doneOp s.l (s.form x) (s.name x) } := by
 rcases hl : lacksOf s.clk t.acts with _ | x
 · have h1 : lackOk s.clk t.acts = false := by unfold lackOk; rw [hl]
   refine .inl ⟨?_, h1, fun y hy => ?_⟩
   · unfold getStep
     rw [h1, if_neg (by simp)]
   · exact (has_here W ((T.mem W y).1 hy).1 _).1 (lacksOf_none hl y hy)
 · obtain ⟨k, hk, h1, h2⟩ := lacksOf_some hl
   have hxG : x ∈ G := ((T.mem W x).1 (List.mem_of_getElem? hk)).1
   have hx : Rdy G s.clk x := R.lacks W T hk (fun hh => by rw [(has_here W hxG _).2 hh] at h1; cases h1) fun y hy => (has_here W ((T.mem W y).1 (List.mem_of_mem_take hy)).1 _).1 (h2 y hy)
   have hr := R.ready W hx hsm
   have hok : lackOk s.clk t.acts = true := by unfold lackOk; rw [hl]; exact hr
   have hac : lackAct s.clk t.acts = x := by unfold lackAct; rw [hl]; rfl
   obtain ⟨-, g1, g2, g3⟩ := R.taken W hb hx hsm
   refine .inr ⟨x, hx, List.mem_of_getElem? hk, hok, hac, ?_, g2, g1, g3⟩
   unfold getStep
   rw [if_pos hok, hac]
theorem set_same {α : Type} {l : List α} {k : Nat} {x : α} (h : l[k]? = some x) : l.set k x = l := by
 refine List.ext_getElem? fun i => ?_
 rw [List.getElem?_set]
 split
 · next e =>
   subst e
   rw [if_pos (List.getElem?_eq_some_iff.1 h).1, h]
 · rfl
theorem Sess.get {G : List Actn} {b : List El} {ss : List Lg} (h : Sess G b ss) (hsm : Small ss) {k f : Nat} {s t : Lg} (hs : ss[k]? = some s) (ht : ss[f]? = some t) : Sess G b (ss.set k (getStep s t)) := by
 obtain ⟨h1, h2, h3, h4⟩ := h.site k s hs
 obtain ⟨t1, t2, t3, t4⟩ := h.site f t ht
 have hkl := (List.getElem?_eq_some_iff.1 hs).1
 have W := h.web
 rw [← h2] at W
 rcases h3.get W (by rw [h1, h2]; exact h.bs) t3 (hsm s (List.mem_of_getElem? hs)) with ⟨e, -⟩ | ⟨x, hx, -, -, -, e, hR, -, e2⟩
 · rw [e, set_same hs]
   exact h
 · refine ⟨h.web, h.bs, fun j u hj => ?_, fun y hy => by rw [List.length_set]; exact h.few y hy⟩
   by_cases hjk : j = k
   · subst hjk
     rw [List.getElem?_set_self hkl] at hj
     cases hj
     rw [e]
     refine ⟨by rw [e2]; exact h1, by rw [e2]; exact h2, hR, fun y hy hr => ?_⟩
     rw [e2]
     exact (here_set W hx hy).2 (.inl (h4 y hy hr))
   · rw [List.getElem?_set_ne (fun e => hjk e.symm)] at hj
     exact h.site j u hj
theorem Sess.iss {G : List Actn} {b : List El} {ss : List Lg} (h : Sess G b ss) {k : Nat} {s : Lg} (hs : ss[k]? = some s) (hk : k < 8) (o : Opn) (hg : b.length + (G.length + 1) < 1099511627776) :
 ∃ G', Sess G' b (ss.set k (issStep o k s)) ∧ (∀ x ∈ G, x ∈ G') ∧ G'.length ≤ G.length + 1 := by
 obtain ⟨h1, h2, h3, h4⟩ := h.site k s hs
 have hkl := (List.getElem?_eq_some_iff.1 hs).1
 have W := h.web
 rw [← h2] at W
 unfold issStep
 split
 · next hok =>
   have hf := fit_fits (o := o) (n := s.l.length) (r := (k : Int)) (by omega) hok
   obtain ⟨O, hO⟩ : ∃ O, O = (fitOf o s.l.length (k : Int)).1 := ⟨_, rfl⟩
   have hrep : O.rep = (k : Int) := by rw [hO]; exact fit_rep _ _ _
   rw [← hO] at hf ⊢
   have hb : Bs s.ep s.base := by rw [h1, h2]; exact h.bs
   obtain ⟨g1, g2, g3⟩ := h3.issue W hb hf (fun y hy hr => h4 y hy (hr.trans hrep)) (by rw [h2]; exact hg)
   have hsub : ∀ x ∈ G, x ∈ G ++ [s.actOf O] := fun x hx => List.mem_append_left _ hx
   have R' : s.Runs (G ++ [s.actOf O]) := Run.mono h3 hsub
   obtain ⟨-, k2, k3⟩ := R'.deliver g1 hb g2
   have e : s.issueOf O = s.deliver (s.actOf O) O := rfl
   have hrr : (s.actOf O).op.rep = (k : Int) := hrep
   refine ⟨G ++ [s.actOf O], ⟨by rw [← h2]; exact g1, h.bs, fun j u hj => ?_, fun y hy => ?_⟩, hsub, by simp⟩
   · by_cases hjk : j = k
     · subst hjk
       rw [List.getElem?_set_self hkl] at hj
       cases hj
       rw [e]
       refine ⟨by rw [k3]; exact h1, by rw [k3]; exact h2, k2, fun y hy hr => ?_⟩
       rw [k3]
       rcases List.mem_append.1 hy with hy' | hy'
       · exact (here_set g1 (g2.rdy g1) hy).2 (.inl (h4 y hy' hr))
       · exact (here_set g1 (g2.rdy g1) hy).2 (.inr (List.mem_singleton.1 hy'))
     · rw [List.getElem?_set_ne (fun e => hjk e.symm)] at hj
       obtain ⟨a1, a2, a3, a4⟩ := h.site j u hj
       refine ⟨a1, a2, Run.mono a3 hsub, fun y hy hr => ?_⟩
       rcases List.mem_append.1 hy with hy' | hy'
       · exact a4 y hy' hr
       · exfalso
         rw [List.mem_singleton.1 hy', hrr] at hr
         omega
   · rw [List.length_set]
     rcases List.mem_append.1 hy with hy' | hy'
     · exact h.few y hy'
     · rw [List.mem_singleton.1 hy']
       unfold Actn.r
       rw [hrr]
       omega
 · rw [set_same hs]
   exact ⟨G, h, fun _ hx => hx, Nat.le_succ _⟩
theorem web_nil (n : Nat) (hn : n < 1099511627776) : Web [] n :=
 ⟨fun x h => absurd h (List.not_mem_nil), fun x h => absurd h (List.not_mem_nil), fun x h => absurd h (List.not_mem_nil), fun x h => absurd h (List.not_mem_nil), fun x h => absurd h (List.not_mem_nil), fun x h => absurd h (List.not_mem_nil), List.nodup_nil, by simpa using hn⟩
theorem bs_base8 (l : List Int) (k : Nat) : Bs 5 (base8 l k) := ⟨fun e he => by rw [(base8_good l k e he).2]; decide, base8_nodup l k⟩
theorem Sess.new (n : Nat) (l : List Int) : Sess [] (base8 l (min l.length 20)) (newSites n l) := by
 have hl := base8_length l (min l.length 20)
 refine ⟨web_nil _ (by omega), bs_base8 _ _, fun k s hs => ?_, fun y h => absurd h (List.not_mem_nil)⟩
 have := List.eq_of_mem_replicate (List.mem_of_getElem? hs)
 subst this
 exact ⟨rfl, rfl, .nil, fun y h => absurd h (List.not_mem_nil)⟩
theorem Sess.play {G : List Actn} {b : List El} {ss : List Lg} {n : Nat} (h : Sess G b ss) (hsm : Small ss) (hn : 0 < n ∧ n ≤ 8) (v : Mv8) (hg : b.length + (G.length + 1) < 1099511627776) : ∃ G', Sess G' b (playStep n ss v) ∧ (∀ x ∈ G, x ∈ G') ∧ G'.length ≤ G.length + 1 := by
 have h1 := Int.emod_lt_of_pos v.site (show (0 : Int) < n by omega)
 have h0 := Int.emod_nonneg v.site (show (n : Int) ≠ 0 by omega)
 unfold playStep
 split
 · next s t hs ht =>
   split
   · exact h.iss hs (by omega) v.op hg
   · exact ⟨G, h.get hsm hs ht, fun _ hx => hx, Nat.le_succ _⟩
 · exact ⟨G, h, fun _ hx => hx, Nat.le_succ _⟩
theorem Sess.fold {b : List El} {n : Nat} (hn : 0 < n ∧ n ≤ 8) (hb : b.length ≤ 1000) : ∀ (vs : List Mv8) (G : List Actn) (ss : List Lg) (m : Nat), Sess G b ss → AllGd ss m → m + vs.length ≤ 100000 → G.length ≤ m → (∀ v ∈ vs, v.In) → ∃ G', Sess G' b (vs.foldl (playStep n) ss) ∧ (∀ x ∈ G, x ∈ G') ∧ G'.length ≤ G.length + vs.length
 | [], G, ss, m, h, _, _, _, _ => ⟨G, h, fun _ hx => hx, Nat.le_refl _⟩
 | v :: vs, G, ss, m, h, ha, hm, hG, hv => by
  rw [List.length_cons] at hm
  obtain ⟨G1, h1, h2, h3⟩ := h.play (ha.small (by omega)) hn v (by omega)
  obtain ⟨G2, k1, k2, k3⟩ := Sess.fold hn hb vs G1 _ (m + 1) h1 (playStep_gd ha (by omega) (hv v (List.mem_cons_self ..)) hn) (by omega) (by omega) fun u hu => hv u (List.mem_cons_of_mem _ hu)
  exact ⟨G2, k1, fun x hx => k2 x (h2 x hx), by rw [List.length_cons]; omega⟩
end Go.Proofs.YteggpddlkkjmjaaGreatDoor
