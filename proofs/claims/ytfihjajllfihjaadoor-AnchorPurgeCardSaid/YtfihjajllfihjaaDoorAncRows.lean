/- Rows of anchors and of numbers, grown; gaps behind a purge: plain. Conditions: fewer than 2^40. -/
import Derived.Test.YtfihjajllfihjaaDoorOpen13
import Derived.Test.YtfihjajllfihjaaDoorPurge
namespace Go.Proofs.YtfihjajllfihjaaDoor
set_option linter.unusedSimpArgs false
set_option linter.unusedVariables false
open Go Go.RowKit
theorem Tryd.infoAnc : (Tryd.prog.info? 57).map (fun i => (i.zero, i.size, i.bytes)) = some (some (.agg #[.bool false, .int .i64 0, .int .i64 0, .int .i64 0]), 4, 32) := by kernel_rfl
theorem wp_append_ancs {ac : Act} {K : Act → World → Prop} {Q : Exit → Act → World → Prop} {w : World} {dst : Option Tmp} {s x : Operand} {ty : TypeId} {pos : String} {after : Array Edge} {guard : Option (Nat × Bool)}
    (base : Nat) (A B : Option Addr) (n c m d : Nat) (es fs : List Anc) (S : Nat → Prop) (hs : ac.eval s = .slice A n c) (hx : ac.eval x = .slice B m d) (hown : GOwn 57 w base A n c es) (hrow : GRow w S B m d fs) (hb : base ≤ w.heap.size) (hbd : n + m ≤ 1099511627776)
    (h : ∀ A' c' w', GOwn 57 w' base A' (n + m) c' (es ++ fs) → Below base w w' → Same (fun k => ∀ g, A = some g → g.block ≠ k) w w' → (A' = A ∨ ∃ g, A' = some ⟨g, 0, none⟩ ∧ w.heap.size ≤ g) → w.heap.size ≤ w'.heap.size → K (ac.put dst (.slice A' (n + m) c')) w') :
    Oper.wp Tryd.prog ⟨dst, .call ⟨.builtin .append, #[s, x], #[72, 72]⟩, ty, pos, after, guard⟩ ac w K Q :=
  wp_append_g (α := Anc) 72 57 _ 32 Tryd.underlying72 Tryd.infoAnc rfl (by decide) (by decide) (by decide) base A B n c m d es fs S hs hx hown hrow hb hbd h
theorem wp_append_ancs0 {ac : Act} {K : Act → World → Prop} {Q : Exit → Act → World → Prop} {w : World} {dst : Option Tmp} {s x : Operand} {ty : TypeId} {pos : String} {after : Array Edge} {guard : Option (Nat × Bool)}
    (base : Nat) (A B : Option Addr) (c m d : Nat) (fs : List Anc) (S : Nat → Prop) (hs : ac.eval s = .slice A 0 c) (hx : ac.eval x = .slice B m d) (hown : GOwn 57 w base A 0 c ([] : List Anc)) (hrow : GRow w S B m d fs) (hb : base ≤ w.heap.size) (hbd : m ≤ 1099511627776)
    (h : ∀ A' c' w', GOwn 57 w' base A' m c' fs → Below base w w' → Same (fun k => ∀ g, A = some g → g.block ≠ k) w w' → w.heap.size ≤ w'.heap.size → K (ac.put dst (.slice A' m c')) w') :
    Oper.wp Tryd.prog ⟨dst, .call ⟨.builtin .append, #[s, x], #[72, 72]⟩, ty, pos, after, guard⟩ ac w K Q := by
  refine wp_append_ancs base A B 0 c m d [] fs S hs hx hown hrow hb (by omega) ?_
  intro A' c' w' h1 h2 h3 _ h5
  rw [Nat.zero_add, List.nil_append] at h1
  rw [Nat.zero_add]
  exact h A' c' w' h1 h2 h3 h5
theorem app_ancs_here {ac : Act} {K : Act → World → Prop} {Q : Exit → Act → World → Prop} {w : World} {dst : Option Tmp} {s x : Operand} {ty : TypeId} {pos : String} {after : Array Edge} {guard : Option (Nat × Bool)}
    (h : Oper.wp Tryd.prog ⟨dst, .call ⟨.builtin .append, #[s, x], #[72, 72]⟩, ty, pos, after, guard⟩ ac w K Q) : Oper.wp Tryd.prog ⟨dst, .call ⟨.builtin .append, #[s, x], #[72, 72]⟩, ty, pos, after, guard⟩ ac w K Q := h
/-- an own row behind an append to an own row of another kind -/
theorem GOwn.apart {α β : Type} [Enc α] [Enc β] {t u : TypeId} {w w' : World} {base base' n c m d : Nat} {A B : Option Addr} {es : List α} {fs : List β} (htu : t ≠ u) (h : GOwn t w base A n c es) (k : GOwn u w base' B m d fs) (hs : Same (fun k => ∀ g, B = some g → g.block ≠ k) w w') : GOwn t w' base A n c es := by
  refine h.keep hs fun a ha g hg e => ?_
  subst ha hg
  obtain ⟨a', rfl⟩ := h.head
  obtain ⟨g', rfl⟩ := k.head
  have e' : g' = a' := e
  subst e'
  rcases h.2.2 with ⟨h0, _⟩ | ⟨g1, cap, cur, h1, _, hh, _⟩
  · injection h0 with h0; cases h0
  · rcases k.2.2 with ⟨k0, _⟩ | ⟨g2, cap2, cur2, k1, _, kk, _⟩
    · injection k0 with k0; cases k0
    · injection h1 with h1; injection h1 with h1; injection h1 with h1
      injection k1 with k1; injection k1 with k1; injection k1 with k1
      subst h1
      subst k1
      rw [hh] at kk
      injection kk with kk
      injection kk with _ kk
      exact htu kk
theorem gown_empty (t : TypeId) (W : World) : GOwn t (W.alloc (.cells #[] t)) W.heap.size (some ⟨W.heap.size, 0, none⟩) 0 0 ([] : List Anc) := GOwn.lit W #[] [] W.heap.size (Nat.le_refl _) (Nat.zero_le _) rfl
theorem grow_one (W : World) (x : Anc) : GRow (W.alloc (.cells #[.bool x.front, .int .i64 x.id.epoch, .int .i64 x.id.rep, .int .i64 x.id.num] 57)) (fun _ => True) (some ⟨W.heap.size, 0, none⟩) 1 1 [x] :=
  (GOwn.lit (t := 57) W #[.bool x.front, .int .i64 x.id.epoch, .int .i64 x.id.rep, .int .i64 x.id.num] [x] W.heap.size (Nat.le_refl _) (by show 1 ≤ maxLen; decide) rfl).row fun _ _ _ => trivial
theorem grow_int (W : World) (x : Int) : GRow (W.alloc (.cells #[.int .i64 x] 3)) (fun _ => True) (some ⟨W.heap.size, 0, none⟩) 1 1 [x] :=
  (GOwn.lit (t := 3) W #[.int .i64 x] [x] W.heap.size (Nat.le_refl _) (by show 1 ≤ maxLen; decide) rfl).row fun _ _ _ => trivial
theorem purge_filter (l : List El) : (purgeOf l).filter (fun e => decide (e.live = 1)) = l.filter fun e => decide (e.live = 1) := by
  unfold purgeOf
  rw [List.filter_filter]
  congr 1
  funext e
  unfold El.live
  by_cases h : e.hides > 0
  · simp [h]
  · rw [if_neg h]
    have h' : e.hides ≤ 0 := by omega
    simp [h']
theorem gapOf_purge (l : List El) (p : Nat) : gapOf (purgeOf l) p = gapOf l p := by
  unfold gapOf liveAt
  rw [purge_filter]
theorem where_purge {l : List El} {p : Nat} (hd : (l.map El.nm).Nodup) (hp : p ≤ liveOf l) : whereOf (purgeOf l) (gapOf l p) = (p, true) := by
  rw [← gapOf_purge]
  refine where_gap (purgeOf_nodup hd) ?_
  have h : liveOf (purgeOf l) = liveOf l := by rw [← purgeOf_live, purgeOf_twice, purgeOf_live]
  omega
theorem rebase_where (l : List El) (x : Anc) : rebaseOf l x = if (whereOf l x).2 = true then (gapOf l (whereOf l x).1, true) else (⟨false, ⟨0, 0, 0⟩⟩, false) := rfl
end Go.Proofs.YtfihjajllfihjaaDoor
