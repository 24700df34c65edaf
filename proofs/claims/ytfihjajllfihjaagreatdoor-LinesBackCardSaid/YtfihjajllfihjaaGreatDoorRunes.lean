/- Rows of characters and of truth values; what append of a character leaves; own rows of two kinds. Conditions: fewer than 2^40. -/
import Derived.Test.YtfihjajllfihjaaGreatDoorLines2
import Derived.Test.YtfihjajllfihjaaGreatDoorOpenG
import Derived.Test.YtfihjajllfihjaaGreatDoorErr3
namespace Go.Proofs.YtfihjajllfihjaaGreatDoor
set_option linter.unusedSimpArgs false
set_option linter.unusedVariables false
open Go Go.RowKit Go.ChangeShapes Go.WideShapes Go.ChangeAt Go.Deep
/-- a character in a cell -/
structure Rn where
  c : Int
instance : Enc Rn where
  k := 1
  cells r := [.int .i32 r.c]
  len _ := rfl
  one := by
    intro a u hu
    have : u = .int .i32 a.c := by simpa using hu
    subst this
    rfl
instance : Inhabited Rn := ⟨⟨0⟩⟩
instance : Enc Bool where
  k := 1
  cells b := [.bool b]
  len _ := rfl
  one := by
    intro a u hu
    have : u = .bool a := by simpa using hu
    subst this
    rfl
def I32 (n : Int) : Prop := -2147483648 ≤ n ∧ n ≤ 2147483647
set_option maxRecDepth 20000 in
theorem runes_of_trod {H : Type} {enc : TypeId × Value → H} {W : World} {v : Value} {d : DataW H} {p : List MemPlace} {r : Reach} {b0 : Nat} (hv : Value.okWide Tryz.prog W r b0 47 v) (h : DataW.Trod enc Tryz.prog W 0 (fun _ => true) true 47 v d p) :
    ∃ A n c, ∃ es : List Int, v = .slice A n c ∧ GRow W (fun b => b < W.heap.size) A n c (es.map Rn.mk) ∧ ∀ e ∈ es, I32 e := by
  obtain ⟨A, n, c, es, h1, h2, h3⟩ := grow_of_trod (α := Rn) (t := 21) Tryz.underlying47 (by kernel_rfl) (by decide) (fun e => I32 e.c) (fun fuel cs x hl h => by
    match cs, hl with
    | [u], _ =>
      obtain ⟨n, e, q⟩ := one_of_trod Tryz.underlying21 h rfl
      exact ⟨⟨n⟩, e, wf_i32 q⟩) hv h
  have hm : es.map (Rn.mk ∘ Rn.c) = es := by
    conv => rhs; rw [← List.map_id es]
    rfl
  exact ⟨A, n, c, es.map Rn.c, h1, by rw [List.map_map, hm]; exact h2, fun e he => by
    obtain ⟨x, hx, rfl⟩ := List.mem_map.1 he
    exact h3 x hx⟩
set_option maxRecDepth 20000 in
theorem bools_of_trod {H : Type} {enc : TypeId × Value → H} {W : World} {v : Value} {d : DataW H} {p : List MemPlace} {r : Reach} {b0 : Nat} (hv : Value.okWide Tryz.prog W r b0 48 v) (h : DataW.Trod enc Tryz.prog W 0 (fun _ => true) true 48 v d p) :
    ∃ A n c, ∃ es : List Bool, v = .slice A n c ∧ GRow W (fun b => b < W.heap.size) A n c es := by
  obtain ⟨A, n, c, es, h1, h2, _⟩ := grow_of_trod (α := Bool) (t := 4) Tryz.underlying48 (by kernel_rfl) (by decide) (fun _ => True) (fun fuel cs x hl h => by
    match cs, hl with
    | [u], _ =>
      obtain ⟨b, e3, q3⟩ := DataW.trod_bool Tryz.underlying4 h
      exact ⟨b, e3, trivial⟩) hv h
  exact ⟨A, n, c, es, h1, h2⟩
theorem Tryz.infoRn : (Tryz.prog.info? 21).map (fun i => (i.zero, i.size, i.bytes)) = some (some (.int .i32 0), 1, 4) := by kernel_rfl
theorem wp_append_runes {ac : Act} {K : Act → World → Prop} {Q : Exit → Act → World → Prop} {w : World} {dst : Option Tmp} {s x : Operand} {ty : TypeId} {pos : String} {after : Array Edge} {guard : Option (Nat × Bool)}
    (base : Nat) (A B : Option Addr) (n c m d : Nat) (es fs : List Rn) (S : Nat → Prop) (hs : ac.eval s = .slice A n c) (hx : ac.eval x = .slice B m d) (hown : GOwn 21 w base A n c es) (hrow : GRow w S B m d fs) (hb : base ≤ w.heap.size) (hbd : n + m ≤ 1099511627776)
    (h : ∀ A' c' w', GOwn 21 w' base A' (n + m) c' (es ++ fs) → Below base w w' → Same (fun k => ∀ g, A = some g → g.block ≠ k) w w' → (A' = A ∨ ∃ g, A' = some ⟨g, 0, none⟩ ∧ w.heap.size ≤ g) → w.heap.size ≤ w'.heap.size → K (ac.put dst (.slice A' (n + m) c')) w') :
    Oper.wp Tryz.prog ⟨dst, .call ⟨.builtin .append, #[s, x], #[47, 47]⟩, ty, pos, after, guard⟩ ac w K Q :=
  wp_append_g (α := Rn) 47 21 _ 4 Tryz.underlying47 Tryz.infoRn rfl (by decide) (by decide) (by decide) base A B n c m d es fs S hs hx hown hrow hb hbd h
theorem app_runes_here {ac : Act} {K : Act → World → Prop} {Q : Exit → Act → World → Prop} {w : World} {dst : Option Tmp} {s x : Operand} {ty : TypeId} {pos : String} {after : Array Edge} {guard : Option (Nat × Bool)}
    (h : Oper.wp Tryz.prog ⟨dst, .call ⟨.builtin .append, #[s, x], #[47, 47]⟩, ty, pos, after, guard⟩ ac w K Q) : Oper.wp Tryz.prog ⟨dst, .call ⟨.builtin .append, #[s, x], #[47, 47]⟩, ty, pos, after, guard⟩ ac w K Q := h
theorem grow_rune (W : World) (x : Int) : GRow (W.alloc (.cells #[.int .i32 x] 21)) (fun _ => True) (some ⟨W.heap.size, 0, none⟩) 1 1 [(⟨x⟩ : Rn)] :=
  (GOwn.lit (t := 21) W #[.int .i32 x] [(⟨x⟩ : Rn)] W.heap.size (Nat.le_refl _) (by show 1 ≤ maxLen; decide) rfl).row fun _ _ _ => trivial
/-- two slices that own blocks of two kinds: the blocks are two -/
theorem owns_ne {w : World} {base base' n n' c m m' d k k' : Nat} {A B : Option Addr} {t u : TypeId} {xs ys : List Value} (h : w.ownsRow base t k (.slice A n c) n' xs) (q : w.ownsRow base' u k' (.slice B m d) m' ys) (htu : t ≠ u) : ∀ a, A = some a → ∀ g, B = some g → g.block ≠ a.block := by
  intro a ha g hg e
  subst ha hg
  rcases h.2 with ⟨h0, _⟩ | ⟨g1, cap, cur, h1, _, hh, _⟩
  · injection h0 with h0; cases h0
  · rcases q.2 with ⟨k0, _⟩ | ⟨g2, cap2, cur2, k1, _, kk, _⟩
    · injection k0 with k0; cases k0
    · injection h1 with h1; injection h1 with h1
      injection k1 with k1; injection k1 with k1
      subst h1
      subst k1
      have e' : g2 = g1 := e
      subst e'
      rw [hh] at kk
      injection kk with kk
      injection kk with _ kk
      exact htu kk
theorem Own.apart_g {α : Type} [Enc α] {u : TypeId} {w w' : World} {base base' n c m d : Nat} {A B : Option Addr} {es : List El} {fs : List α} (h : Own w base A n c es) (k : GOwn u w base' B m d fs) (htu : 32 ≠ u) (hs : Same (fun k => ∀ g, B = some g → g.block ≠ k) w w') : Own w' base A n c es :=
  h.keep hs fun a ha g hg => owns_ne h.2 k.2 htu a ha g hg
theorem GOwn.apart_el {α : Type} [Enc α] {u : TypeId} {w w' : World} {base base' n c m d : Nat} {A B : Option Addr} {es : List El} {fs : List α} (h : GOwn u w base B m d fs) (k : Own w base' A n c es) (htu : u ≠ 32) (hs : Same (fun k => ∀ g, A = some g → g.block ≠ k) w w') : GOwn u w' base B m d fs :=
  h.keep hs fun a ha g hg => owns_ne h.2 k.2 htu a ha g hg
/-- a block behind an append to an own slice -/
theorem Blk.app {w w' : World} {g : Nat} {t : TypeId} {cs : Array Value} {A : Option Addr} (h : Blk w g t cs) (hs : Same (fun k => ∀ g, A = some g → g.block ≠ k) w w') (hA : ∀ a, A = some a → a.block < g) : Blk w' g t cs :=
  h.keep (S := fun k => ∀ g, A = some g → g.block ≠ k) (fun a ha => Nat.ne_of_lt (hA a ha)) hs
/-- what chapter 6 lays in -/
def hid6 (hs : List Bool) (k : Nat) : Bool := hs[k]?.getD false
def el6 (l : List Int) (hs : List Bool) (k : Nat) : List El := match l[k]? with
  | some c => if rightC c then [⟨0, 0, k + 1, c, if hid6 hs k then 1 else 0⟩] else []
  | none => []
def els6 (l : List Int) (hs : List Bool) (k : Nat) : List El := (List.range k).flatMap (el6 l hs)
theorem els6_succ (l : List Int) (hs : List Bool) (k : Nat) : els6 l hs (k + 1) = els6 l hs k ++ el6 l hs k := by
  unfold els6
  rw [List.range_succ, List.flatMap_append]
  simp
theorem els6_no {l : List Int} {hs : List Bool} {k : Nat} {c : Int} (h : l[k]? = some c) (hr : rightC c = false) : els6 l hs (k + 1) = els6 l hs k := by
  rw [els6_succ, el6, h]
  simp [hr]
theorem els6_yes {l : List Int} {hs : List Bool} {k : Nat} {c : Int} (h : l[k]? = some c) (hr : rightC c = true) : els6 l hs (k + 1) = els6 l hs k ++ [⟨0, 0, k + 1, c, if hid6 hs k then 1 else 0⟩] := by
  rw [els6_succ, el6, h]
  simp [hr]
theorem els6_good {l : List Int} {hs : List Bool} {k : Nat} (hk : k ≤ 1048576) : (∀ e ∈ els6 l hs k, e.Good ∧ e.num ≤ k) ∧ ((els6 l hs k).map El.nm).Nodup ∧ (els6 l hs k).length ≤ k := by
  induction k with
  | zero => exact ⟨fun e he => absurd he (by simp [els6]), by simp [els6], by simp [els6]⟩
  | succ k ih =>
    obtain ⟨h1, h2, h3⟩ := ih (by omega)
    cases hc : l[k]? with
    | none =>
      have : els6 l hs (k + 1) = els6 l hs k := by rw [els6_succ, el6, hc]; simp
      rw [this]
      exact ⟨fun e he => ⟨(h1 e he).1, by have := (h1 e he).2; omega⟩, h2, by omega⟩
    | some c =>
      cases hr : rightC c
      · rw [els6_no hc hr]
        exact ⟨fun e he => ⟨(h1 e he).1, by have := (h1 e he).2; omega⟩, h2, by omega⟩
      · rw [els6_yes hc hr]
        refine ⟨fun e he => ?_, ?_, by simp; omega⟩
        · rcases List.mem_append.1 he with he | he
          · exact ⟨(h1 e he).1, by have := (h1 e he).2; omega⟩
          · obtain rfl : e = _ := by simpa using he
            refine ⟨⟨hr, ?_, ⟨by show I64 0; exact ⟨by decide, by decide⟩, by show I64 0; exact ⟨by decide, by decide⟩, ?_⟩⟩, by dsimp only; omega⟩
            · show fairH (if hid6 hs k then 1 else 0) = true
              split <;> decide
            · show I64 ((k : Int) + 1)
              constructor <;> omega
        · rw [List.map_append, List.nodup_append]
          refine ⟨h2, by simp, fun a ha b hb e => ?_⟩
          obtain ⟨x, hx, rfl⟩ := List.mem_map.1 ha
          have hb' : b = ⟨0, 0, k + 1⟩ := by simpa [El.nm] using hb
          rw [hb'] at e
          have hn := congrArg Nm.num e
          have := (h1 x hx).2
          have hn' : x.num = (k : Int) + 1 := hn
          omega
end Go.Proofs.YtfihjajllfihjaaGreatDoor
