/- Arguments opened: changes of chapter 13, rows of them. No condition. How an anchor's gap moves: plain. No condition. No program in sight. -/
import Derived.Test.YtfihjajllfihjaaDoorOpen13
import Derived.Test.YtfihjajllfihjaaDoorPlain13
import Derived.Test.YtfihjajllfihjaaDoorModel3
namespace Go.Proofs.YtfihjajllfihjaaDoor
set_option linter.unusedSimpArgs false
set_option linter.unusedVariables false
open Go Go.RowKit Go.ChangeShapes Go.WideShapes Go.ChangeAt Go.Deep
/-- a change -/
structure Chg where
  do_ : Int
  i : Int
  down : Bool
  e : El
def Chg.cells (o : Chg) : List Value := [.int .i64 o.do_, .int .i64 o.i, .bool o.down, .int .i64 o.e.epoch, .int .i64 o.e.rep, .int .i64 o.e.num, .int .i32 o.e.char, .int .i64 o.e.hides]
instance : Enc Chg where
  k := 8
  cells := Chg.cells
  len _ := rfl
  one := by
    intro a u hu
    simp only [Chg.cells, List.mem_cons, List.not_mem_nil, or_false] at hu
    rcases hu with rfl | rfl | rfl | rfl | rfl | rfl | rfl | rfl <;> rfl
instance : Inhabited Chg := ⟨⟨0, 0, false, ⟨0, 0, 0, 0, 0⟩⟩⟩
set_option maxRecDepth 20000 in
theorem chg_of_trod {H : Type} {enc : TypeId × Value → H} {w : World} {base : Nat} {spare : Nat → Bool} {held : Bool} {fuel : Nat} {cs : List Value} {x : DataW H × List MemPlace} (hl : cs.length = 8) (h : DataW.trod enc Tryd.prog w base spare held fuel 86 cs = some x) : ∃ o : Chg, cs = o.cells ∧ o.e.In := by
  obtain ⟨xs, n, _, _, _, hxl, hf⟩ := DataW.trod_struct Tryd.underlying86 h
  match cs, hl with
  | [v0, v1, v2, v3, v4, v5, v6, v7], _ =>
    have c3 : Tryd.prog.cellsOf 3 = 1 := by kernel_rfl
    have c4 : Tryd.prog.cellsOf 4 = 1 := by kernel_rfl
    have c5 : Tryd.prog.cellsOf 42 = 5 := by kernel_rfl
    match xs, hxl with
    | [y0, y1, y2, y3], _ =>
      have g0 := hf 0 _ rfl
      have g1 := hf 1 _ rfl
      have g2 := hf 2 _ rfl
      have g3 := hf 3 _ rfl
      simp [c3, c4, c5] at g0 g1 g2 g3
      obtain ⟨n0, e0, q0⟩ := one_of_trod Tryd.underlying3 g0 rfl
      obtain ⟨n1, e1, q1⟩ := one_of_trod Tryd.underlying3 g1 rfl
      obtain ⟨b, e2, q2⟩ := DataW.trod_bool Tryd.underlying4 g2
      obtain ⟨e, he, hin⟩ := el_of_trod rfl g3
      injection e0 with e0
      injection e1 with e1
      injection e2 with e2
      simp only [El.cells, List.cons.injEq, and_true] at he
      obtain ⟨rfl, rfl, rfl, rfl, rfl⟩ := he
      subst e0 e1 e2
      exact ⟨⟨n0, n1, b, e⟩, rfl, hin⟩
set_option maxRecDepth 20000 in
theorem chgs_of_trod {H : Type} {enc : TypeId × Value → H} {W : World} {v : Value} {d : DataW H} {p : List MemPlace} {r : Reach} {b0 : Nat} (hv : Value.okWide Tryd.prog W r b0 84 v) (h : DataW.Trod enc Tryd.prog W 0 (fun _ => true) true 84 v d p) :
    ∃ A n c, ∃ es : List Chg, v = .slice A n c ∧ GRow W (fun b => b < W.heap.size) A n c es ∧ ∀ x ∈ es, x.e.In :=
  grow_of_trod (α := Chg) (t := 86) Tryd.underlying84 (by kernel_rfl) (by decide) (fun x => x.e.In) (fun fuel cs x hl h => chg_of_trod hl h) hv h
end Go.Proofs.YtfihjajllfihjaaDoor
namespace Go.Proofs.YtfihjajllfihjaaDoor
set_option linter.unusedSimpArgs false
set_option linter.unusedVariables false
open Go Go.RowKit
theorem liveOf_one (e : El) : liveOf [e] = e.live := by simp [liveOf]
theorem liveOf_ins (X : List El) (p : Nat) (e : El) : liveOf (X.take p ++ e :: X.drop p) = liveOf X + e.live := by
  have h : liveOf (X.take p) + liveOf (X.drop p) = liveOf X := by rw [← liveOf_append, List.take_append_drop]
  rw [liveOf_append, liveOf_cons]
  omega
theorem take_ins_le {X : List El} {p k : Nat} (hp : p ≤ k) (hk : k ≤ X.length) (e : El) : (X.take p ++ e :: X.drop p).take (k + 1) = (X.take k).take p ++ e :: (X.take k).drop p := by
  have h1 : (X.take p).length = p := by rw [List.length_take]; omega
  rw [List.take_append, h1, List.take_of_length_le (by omega), List.take_take, Nat.min_eq_left hp]
  congr 1
  rw [show k + 1 - p = (k - p) + 1 from by omega, List.take_succ_cons, List.drop_take]
theorem take_ins_gt {X : List El} {p k : Nat} (hp : k < p) (hpl : p ≤ X.length) (e : El) : (X.take p ++ e :: X.drop p).take (k + 1) = X.take (k + 1) := by
  have h1 : (X.take p).length = p := by rw [List.length_take]; omega
  rw [List.take_append_of_le_length (by omega), List.take_take, Nat.min_eq_left (by omega)]
theorem get_ins_le {X : List El} {p k : Nat} (hp : p ≤ k) (hk : k < X.length) (e : El) : (X.take p ++ e :: X.drop p)[k + 1]? = X[k]? := by
  have h1 : (X.take p).length = p := by rw [List.length_take]; omega
  rw [List.getElem?_append_right (by omega), h1, show k + 1 - p = (k - p) + 1 from by omega, List.getElem?_cons_succ, List.getElem?_drop, show p + (k - p) = k from by omega]
theorem get_ins_gt {X : List El} {p k : Nat} (hp : k < p) (hpl : p ≤ X.length) (e : El) : (X.take p ++ e :: X.drop p)[k]? = X[k]? := by
  have h1 : (X.take p).length = p := by rw [List.length_take]; omega
  rw [List.getElem?_append_left (by omega), List.getElem?_take, if_pos hp]
/-- where the anchor's gap is behind an insert -/
theorem where_ins {X : List El} {x : Anc} {p k : Nat} {e : El} (hf : x.front = false) (hk : ixOf X x.id = some k) (hp : p ≤ X.length) (hn : e.nm ∉ X.map El.nm) :
    whereOf (X.take p ++ e :: X.drop p) x = (liveOf (X.take (k + 1)) + (if p ≤ k then e.live else 0), true) := by
  obtain ⟨y, hy, hyn, hyf⟩ := ixOf_get hk
  have hkl := (List.getElem?_eq_some_iff.1 hy).1
  have hne : e.nm ≠ x.id := fun h => hn (List.mem_map.2 ⟨y, List.mem_of_getElem? hy, hyn.trans h.symm⟩)
  by_cases hpk : p ≤ k
  · have hi : ixOf (X.take p ++ e :: X.drop p) x.id = some (k + 1) := by
      refine ixOf_some ((get_ins_le hpk hkl e).trans hy) hyn ?_
      rw [take_ins_le hpk (by omega), ← mem_ins]
      intro h
      rcases List.mem_cons.1 h with h | h
      · exact hne h.symm
      · exact hyf h
    rw [whereOf_some hf hi, if_pos hpk, take_ins_le (show p ≤ k + 1 by omega) (by omega), liveOf_ins]
  · have hi : ixOf (X.take p ++ e :: X.drop p) x.id = some k := by
      refine ixOf_some ((get_ins_gt (by omega) hp e).trans hy) hyn ?_
      rcases Nat.eq_zero_or_pos k with rfl | hk0
      · simp
      · obtain ⟨j, rfl⟩ : ∃ j, k = j + 1 := ⟨k - 1, by omega⟩
        rw [take_ins_gt (by omega) hp]
        exact hyf
    rw [whereOf_some hf hi, if_neg hpk, take_ins_gt (by omega) hp]
    rfl
theorem ixOf_names {X Y : List El} (h : X.map El.nm = Y.map El.nm) (id : Nm) : ixOf X id = ixOf Y id := by
  have key : ∀ l : List El, ixOf l id = (l.map El.nm).findIdx? fun n => decide (n = id) := fun l => by
    unfold ixOf
    rw [List.findIdx?_map]
    rfl
  rw [key, key, h]
theorem liveOf_set {l : List El} {p : Nat} {x : El} (y : El) (h : l[p]? = some x) : liveOf (l.set p y) + x.live = liveOf l + y.live := by
  induction l generalizing p with
  | nil => simp at h
  | cons a l ih =>
    cases p with
    | zero =>
      have : a = x := by simpa using h
      subst this
      rw [List.set_cons_zero, liveOf_cons, liveOf_cons]
      omega
    | succ p =>
      rw [List.getElem?_cons_succ] at h
      have := ih h
      rw [List.set_cons_succ, liveOf_cons, liveOf_cons]
      omega
/-- where it is behind a change of an element's Hides -/
theorem where_set {X : List El} {x : Anc} {p k : Nat} {e : El} {d : Int} (hf : x.front = false) (hk : ixOf X x.id = some k) (he : X[p]? = some e) :
    whereOf (X.set p (e.hide d)) x = (liveOf ((X.set p (e.hide d)).take (k + 1)), true) ∧ (p ≤ k → liveOf ((X.set p (e.hide d)).take (k + 1)) + e.live = liveOf (X.take (k + 1)) + (e.hide d).live) ∧ (k < p → liveOf ((X.set p (e.hide d)).take (k + 1)) = liveOf (X.take (k + 1))) := by
  have hi : ixOf (X.set p (e.hide d)) x.id = some k := by rw [ixOf_names (map_nm_set X p e d he)]; exact hk
  refine ⟨whereOf_some hf hi, fun hpk => ?_, fun hkp => ?_⟩
  · rw [List.take_set]
    exact liveOf_set _ (by rw [List.getElem?_take, if_pos (by omega)]; exact he)
  · rw [List.take_set_of_le (by omega)]
/-- the anchor's element's place; -1: it has none -/
def ownOf (X : List El) (x : Anc) : Int := if x.front = true then -1 else match ixOf X x.id with
  | some k => (k : Int)
  | none => -1
theorem ownOf_front {X : List El} {x : Anc} (h : x.front = true) : ownOf X x = -1 := if_pos h
theorem ownOf_some {X : List El} {x : Anc} {k : Nat} (h : x.front = false) (hk : ixOf X x.id = some k) : ownOf X x = k := by
  unfold ownOf
  rw [if_neg (by simp [h]), hk]
theorem where_there {X : List El} {x : Anc} (h : x.front = true ∨ x.id ∈ X.map El.nm) : whereOf X x = ((whereOf X x).1, true) := by
  cases hf : x.front
  · obtain ⟨k, hk⟩ := ixOf_mem (h.resolve_left (by simp [hf]))
    rw [whereOf_some hf hk]
  · rw [whereOf_front hf]
theorem where_ins' {X : List El} {x : Anc} {p : Nat} {e : El} (h : x.front = true ∨ x.id ∈ X.map El.nm) (hp : p ≤ X.length) (hn : e.nm ∉ X.map El.nm) :
    whereOf (X.take p ++ e :: X.drop p) x = ((whereOf X x).1 + (if (p : Int) ≤ ownOf X x then e.live else 0), true) := by
  cases hf : x.front
  · obtain ⟨k, hk⟩ := ixOf_mem (h.resolve_left (by simp [hf]))
    rw [where_ins hf hk hp hn, whereOf_some hf hk, ownOf_some hf hk]
    by_cases hpk : p ≤ k
    · rw [if_pos hpk, if_pos (by omega)]
    · rw [if_neg hpk, if_neg (by omega)]
  · rw [whereOf_front hf, whereOf_front hf, ownOf_front hf, if_neg (by omega)]
theorem where_set' {X : List El} {x : Anc} {p : Nat} {e : El} {d : Int} (h : x.front = true ∨ x.id ∈ X.map El.nm) (he : X[p]? = some e) :
    ∃ v, whereOf (X.set p (e.hide d)) x = (v, true) ∧ ((p : Int) ≤ ownOf X x → v + e.live = (whereOf X x).1 + (e.hide d).live) ∧ (¬ (p : Int) ≤ ownOf X x → v = (whereOf X x).1) := by
  cases hf : x.front
  · obtain ⟨k, hk⟩ := ixOf_mem (h.resolve_left (by simp [hf]))
    obtain ⟨h1, h2, h3⟩ := where_set (d := d) hf hk he
    rw [whereOf_some hf hk, ownOf_some hf hk]
    exact ⟨_, h1, fun hp => h2 (by omega), fun hp => h3 (by omega)⟩
  · exact ⟨0, whereOf_front hf, fun hp => by rw [ownOf_front hf] at hp; omega, fun _ => by rw [whereOf_front hf]⟩
theorem ref5Index_own (A : Option Addr) (n c : Nat) (es : List El) (S : Nat → Prop) (id : Nm) (w : World) (k0 : Nat) (h : Row w S A n c es) (hn : n ≤ 1073741824) (hk : ixOf es id = some k0) :
    Calls Tryd.prog 35 #[.slice A n c, .agg #[.int .i64 id.epoch, .int .i64 id.rep, .int .i64 id.num]] w fun e w' => e = .returned (.int .i64 k0) ∧ Below w.heap.size w w' := by
  obtain ⟨x0, hx0, hxn, hxf⟩ := ixOf_get hk
  refine (ref5Index_at A n c es S id w h hn).mono ?_
  rintro e w' ⟨h1 | h1, h2⟩
  · obtain ⟨k, y, rfl, hy, hyn, hyf⟩ := h1
    obtain rfl := first_same hx0 hxn hxf hy hyn hyf
    exact ⟨rfl, h2⟩
  · exact absurd (List.mem_map.2 ⟨x0, List.mem_of_getElem? hx0, hxn⟩) h1.2
end Go.Proofs.YtfihjajllfihjaaDoor
