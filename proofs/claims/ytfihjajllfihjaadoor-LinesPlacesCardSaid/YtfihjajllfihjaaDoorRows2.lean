/- Rows of rows of characters; the document's Split, Start, Where: the walks. Conditions: the rows lie in memory, fewer than 2^29 characters. -/
import Derived.Test.YtfihjajllfihjaaDoorRunes
import Derived.Test.YtfihjajllfihjaaDoorBel
namespace Go.Proofs.YtfihjajllfihjaaDoor
set_option linter.unusedSimpArgs false
set_option linter.unusedVariables false
open Go Go.RowKit
/-- a slice, as it lies in a cell -/
structure Sl where
  A : Option Addr
  n : Nat
  c : Nat
def Sl.v (s : Sl) : Value := .slice s.A s.n s.c
instance : Enc Sl where
  k := 1
  cells s := [s.v]
  len _ := rfl
  one := by
    intro a u hu
    have : u = a.v := by simpa using hu
    subst this
    rfl
theorem gcells_sl (l : List Sl) : gcells l = l.map Sl.v := by
  induction l with
  | nil => rfl
  | cons x l ih => rw [gcells_cons, ih]; rfl
theorem gown_row_sl {t : TypeId} {w : World} {base : Nat} {A : Option Addr} {n c : Nat} {es : List Sl} (h : GOwn t w base A n c es) (hn : 0 < n) : ∃ g cur, A = some ⟨g, 0, none⟩ ∧ base ≤ g ∧ Blk w g t cur ∧ cur.size = c ∧ n ≤ c ∧ c ≤ maxLen ∧ cur.toList.take n = gcells es := by
  have hc := h.cap_le
  rcases h.2.2 with ⟨_, h0⟩ | ⟨g, cap, cur, e, hbg, hh, h1, h2, h3, h4⟩
  · omega
  · injection e with e1 e2 e3
    subst e3
    exact ⟨g, cur, e1, hbg, hh, h3.trans (Nat.mul_one _), h1, hc.2, by rw [← h4]; congr 1; exact (Nat.mul_one n).symm⟩
theorem GOwn.setSl {w : World} {base g n c i : Nat} {es : List Sl} {t : TypeId} (h : GOwn t w base (some ⟨g, 0, none⟩) n c es) (v : Sl) (hi : i < n) :
    GOwn t (w.setCell ⟨g, i, none⟩ v.v) base (some ⟨g, 0, none⟩) n c (es.set i v) := by
  obtain ⟨g', cur, e1, hbg, hb, hs, hnc, hc, ht⟩ := gown_row_sl h (by omega)
  injection e1 with e1
  injection e1 with e1
  subst e1
  refine ⟨by simpa using h.1, by rw [gcells_length, List.length_set, h.1], .inr ⟨g, c, _, rfl, hbg, hb.set_ i v.v, hnc, hc, ?_, ?_⟩⟩
  · simp [hs]; exact (Nat.mul_one c).symm
  · rw [gcells_sl, List.map_set, ← gcells_sl, ← ht]
    simp only [Array.toList_setIfInBounds]
    rw [show n * Enc.k Sl = n from Nat.mul_one n, List.take_set]
theorem own_sl {t : TypeId} {w : World} {base g n c : Nat} {es : List Sl} (h : GOwn t w base (some ⟨g, 0, none⟩) n c es) {i : Nat} {v : Sl} (hv : es[i]? = some v) : w.cell? ⟨g, i, none⟩ = some v.v ∧ w.frozen? ⟨g, i, none⟩ = false ∧ g < w.heap.size := by
  have hi : i < n := by rw [← h.1]; exact (List.getElem?_eq_some_iff.1 hv).1
  obtain ⟨g', cur, e1, hbg, hb, hs, hnc, hc, ht⟩ := gown_row_sl h (by omega)
  injection e1 with e1
  injection e1 with e1
  subst e1
  refine ⟨?_, hb.frozen _, hb.lt⟩
  rw [hb.cell, ← Array.getElem?_toList, ← List.getElem?_take_of_lt hi, ht, gcells_sl, List.getElem?_map, hv]
  rfl
/-- the slice h holds the characters x -/
def Holds (w : World) (S : Nat → Prop) (h : Sl) (x : List Int) : Prop := h.n = x.length ∧ GRow w S h.A h.n h.c (x.map Rn.mk)
theorem Holds.step {w w' : World} {S : Nat → Prop} {h : Sl} {x : List Int} (q : Holds w S h x) (hb : Below w.heap.size w w') : Holds w' S h x := ⟨q.1, q.2.step hb⟩
theorem Holds.more {w : World} {S S' : Nat → Prop} {h : Sl} {x : List Int} (q : Holds w S h x) (hs : ∀ b, b < w.heap.size → S b → S' b) : Holds w S' h x := ⟨q.1, q.2.more hs⟩
theorem Holds.keep {w w' : World} {S : Nat → Prop} {h : Sl} {x : List Int} (q : Holds w S h x) (hsz : w.heap.size ≤ w'.heap.size) (hk : Same S w w') : Holds w' S h x := ⟨q.1, q.2.keep hsz hk⟩
/-- slices that hold rows, one each -/
def Pairs (w : World) (S : Nat → Prop) (hd : List Sl) (ls : List (List Int)) : Prop := hd.length = ls.length ∧ ∀ (i : Nat) (h : Sl) (x : List Int), hd[i]? = some h → ls[i]? = some x → Holds w S h x
theorem Pairs.nil (w : World) (S : Nat → Prop) : Pairs w S [] [] := ⟨rfl, fun i h x hh => by cases hh⟩
theorem Pairs.step {w w' : World} {S : Nat → Prop} {hd : List Sl} {ls : List (List Int)} (q : Pairs w S hd ls) (hb : Below w.heap.size w w') : Pairs w' S hd ls := ⟨q.1, fun i h x h1 h2 => (q.2 i h x h1 h2).step hb⟩
theorem Pairs.more {w : World} {S S' : Nat → Prop} {hd : List Sl} {ls : List (List Int)} (q : Pairs w S hd ls) (hs : ∀ b, b < w.heap.size → S b → S' b) : Pairs w S' hd ls := ⟨q.1, fun i h x h1 h2 => (q.2 i h x h1 h2).more hs⟩
theorem Pairs.keep {w w' : World} {S : Nat → Prop} {hd : List Sl} {ls : List (List Int)} (q : Pairs w S hd ls) (hsz : w.heap.size ≤ w'.heap.size) (hk : Same S w w') : Pairs w' S hd ls := ⟨q.1, fun i h x h1 h2 => (q.2 i h x h1 h2).keep hsz hk⟩
theorem Pairs.snoc {w : World} {S : Nat → Prop} {hd : List Sl} {ls : List (List Int)} {h : Sl} {x : List Int} (q : Pairs w S hd ls) (p : Holds w S h x) : Pairs w S (hd ++ [h]) (ls ++ [x]) := by
  refine ⟨by simp [q.1], fun i h' x' h1 h2 => ?_⟩
  by_cases hi : i < hd.length
  · rw [List.getElem?_append_left hi] at h1
    rw [List.getElem?_append_left (by rw [← q.1]; exact hi)] at h2
    exact q.2 i h' x' h1 h2
  · rw [List.getElem?_append_right (by omega)] at h1
    rw [List.getElem?_append_right (by rw [← q.1]; omega), ← q.1] at h2
    have h0 : i - hd.length = 0 := by
      have := (List.getElem?_eq_some_iff.1 h1).1
      simpa using this
    rw [h0] at h1 h2
    have e1 : h' = h := by simpa using h1.symm
    have e2 : x' = x := by simpa using h2.symm
    rw [e1, e2]
    exact p
/-- a slice of slices that hold rows -/
def RRows (w : World) (S : Nat → Prop) (A : Option Addr) (c : Nat) (ls : List (List Int)) : Prop := ∃ hd : List Sl, GRow w S A ls.length c hd ∧ Pairs w S hd ls
theorem RRows.step {w w' : World} {S : Nat → Prop} {A : Option Addr} {c : Nat} {ls : List (List Int)} (q : RRows w S A c ls) (hb : Below w.heap.size w w') : RRows w' S A c ls := by
  obtain ⟨hd, h1, h2⟩ := q
  exact ⟨hd, h1.step hb, h2.step hb⟩
theorem RRows.at_ {w : World} {S : Nat → Prop} {A : Option Addr} {c : Nat} {ls : List (List Int)} (q : RRows w S A c ls) {i : Nat} {x : List Int} (hi : ls[i]? = some x) : ∃ b off B d, A = some ⟨b, off, none⟩ ∧ b < w.heap.size ∧ w.cell? ⟨b, off + i, none⟩ = some (.slice B x.length d) ∧ GRow w S B x.length d (x.map Rn.mk) := by
  obtain ⟨hd, h1, h2⟩ := q
  obtain ⟨b, off, h, hA, hS, hb, hh, hc⟩ := h1.at_ (List.getElem?_eq_some_iff.1 hi).1
  have hH := h2.2 i h x hh hi
  have c0 : w.cell? ⟨b, off + i * 1, none⟩ = some (.slice h.A h.n h.c) := hc 0 _ rfl
  rw [Nat.mul_one, hH.1] at c0
  have hr := hH.2
  rw [hH.1] at hr
  exact ⟨b, off, h.A, h.c, hA, hb, c0, hr⟩
theorem Tryd.infoSl : (Tryd.prog.info? 94).map (fun i => (i.zero, i.size, i.bytes)) = some (some (.slice none 0 0), 1, 24) := by kernel_rfl
theorem wp_append_sls {ac : Act} {K : Act → World → Prop} {Q : Exit → Act → World → Prop} {w : World} {dst : Option Tmp} {s x : Operand} {ty : TypeId} {pos : String} {after : Array Edge} {guard : Option (Nat × Bool)}
    (base : Nat) (A B : Option Addr) (n c m d : Nat) (es fs : List Sl) (S : Nat → Prop) (hs : ac.eval s = .slice A n c) (hx : ac.eval x = .slice B m d) (hown : GOwn 94 w base A n c es) (hrow : GRow w S B m d fs) (hb : base ≤ w.heap.size) (hbd : n + m ≤ 1099511627776)
    (h : ∀ A' c' w', GOwn 94 w' base A' (n + m) c' (es ++ fs) → Below base w w' → Same (fun k => ∀ g, A = some g → g.block ≠ k) w w' → (A' = A ∨ ∃ g, A' = some ⟨g, 0, none⟩ ∧ w.heap.size ≤ g) → w.heap.size ≤ w'.heap.size → K (ac.put dst (.slice A' (n + m) c')) w') :
    Oper.wp Tryd.prog ⟨dst, .call ⟨.builtin .append, #[s, x], #[98, 98]⟩, ty, pos, after, guard⟩ ac w K Q :=
  wp_append_g (α := Sl) 98 94 _ 24 Tryd.underlying98 Tryd.infoSl rfl (by decide) (by decide) (by decide) base A B n c m d es fs S hs hx hown hrow hb hbd h
theorem app_sls_here {ac : Act} {K : Act → World → Prop} {Q : Exit → Act → World → Prop} {w : World} {dst : Option Tmp} {s x : Operand} {ty : TypeId} {pos : String} {after : Array Edge} {guard : Option (Nat × Bool)}
    (h : Oper.wp Tryd.prog ⟨dst, .call ⟨.builtin .append, #[s, x], #[98, 98]⟩, ty, pos, after, guard⟩ ac w K Q) : Oper.wp Tryd.prog ⟨dst, .call ⟨.builtin .append, #[s, x], #[98, 98]⟩, ty, pos, after, guard⟩ ac w K Q := h
def Sl.none_ : Sl := ⟨none, 0, 0⟩
theorem gown_sl0 (W : World) : GOwn 94 (W.alloc (.cells #[.slice none 0 0] 94)) W.heap.size (some ⟨W.heap.size, 0, none⟩) 1 1 [Sl.none_] := GOwn.lit (t := 94) W #[.slice none 0 0] [Sl.none_] W.heap.size (Nat.le_refl _) (by show 1 ≤ maxLen; decide) rfl
/-- what Split keeps: the lines that are ended, the one that is not -/
structure SpAt (w : World) (base : Nat) (AO : Option Addr) (co : Nat) (hd : List Sl) (cur : Sl) (done : List (List Int)) (last : List Int) : Prop where
  out : GOwn 94 w base AO (hd.length + 1) co (hd ++ [cur])
  done : Pairs w (fun b => base ≤ b ∧ Away AO b ∧ Away cur.A b) hd done
  last : GOwn 21 w base cur.A cur.n cur.c (last.map Rn.mk)
theorem SpAt.step {w w' : World} {base : Nat} {AO : Option Addr} {co : Nat} {hd : List Sl} {cur : Sl} {done : List (List Int)} {last : List Int} (h : SpAt w base AO co hd cur done last) (hb : Below w.heap.size w w') : SpAt w' base AO co hd cur done last := ⟨h.out.step hb, h.done.step hb, h.last.step hb⟩
/-- a line is ended: a new one is appended to the out row -/
theorem SpAt.eol {w w' : World} {base : Nat} {AO AO' : Option Addr} {co co' : Nat} {hd : List Sl} {cur : Sl} {done : List (List Int)} {last : List Int} (h : SpAt w base AO co hd cur done last)
    (ho : GOwn 94 w' base AO' (hd.length + 1 + 1) co' ((hd ++ [cur]) ++ [Sl.none_])) (hs : Same (fun k => ∀ g, AO = some g → g.block ≠ k) w w') (hat : AO' = AO ∨ ∃ g, AO' = some ⟨g, 0, none⟩ ∧ w.heap.size ≤ g) (hz : w.heap.size ≤ w'.heap.size) :
    SpAt w' base AO' co' (hd ++ [cur]) Sl.none_ (done ++ [last]) [] := by
  have hne : ∀ b, b < w.heap.size → Away AO b → Away AO' b := by
    intro b hb h
    rcases hat with rfl | ⟨g, rfl, hg⟩
    · exact h
    · intro a ha
      injection ha with ha
      subst ha
      show g ≠ b
      omega
  refine ⟨by rw [List.length_append]; exact ho, ?_, GOwn.nil _ _ _⟩
  have hlen : cur.n = last.length := by have := h.last.1; rw [List.length_map] at this; exact this.symm
  have hcur : Holds w (fun b => base ≤ b ∧ Away AO b) cur last := by
    refine ⟨hlen, ?_⟩
    have h1 := h.last.row (S := fun b => base ≤ b ∧ b < w.heap.size) fun b h1 h2 => ⟨h1, h2⟩
    exact h1.re fun x hx => ⟨(h.last.block x hx).1, fun a ha => owns_ne h.last.2 h.out.2 (by decide) x hx a ha⟩
  have hpair : Pairs w (fun b => base ≤ b ∧ Away AO b) (hd ++ [cur]) (done ++ [last]) := (h.done.more fun b _ h => ⟨h.1, h.2.1⟩).snoc hcur
  exact ((hpair.more (S' := fun b => base ≤ b ∧ Away AO b ∧ Away AO' b) fun b hb h => ⟨h.1, h.2, hne b hb h.2⟩).keep hz (hs.sub fun b hb => hb.2.1)).more fun b _ h => ⟨h.1, h.2.2, Away.none_ b⟩
/-- a character is appended to the line that is not ended, and the slice put back -/
theorem SpAt.char {w w' : World} {base g : Nat} {A' : Option Addr} {co c' : Nat} {hd : List Sl} {cur : Sl} {done : List (List Int)} {last : List Int} {ch : Int} (h : SpAt w base (some ⟨g, 0, none⟩) co hd cur done last)
    (ho : GOwn 21 w' base A' (cur.n + 1) c' (last.map Rn.mk ++ [⟨ch⟩])) (hs : Same (fun k => ∀ g, cur.A = some g → g.block ≠ k) w w') (hat : A' = cur.A ∨ ∃ g, A' = some ⟨g, 0, none⟩ ∧ w.heap.size ≤ g) (hz : w.heap.size ≤ w'.heap.size) :
    SpAt (w'.setCell ⟨g, hd.length, none⟩ (.slice A' (cur.n + 1) c')) base (some ⟨g, 0, none⟩) co hd ⟨A', cur.n + 1, c'⟩ done (last ++ [ch]) := by
  have hne : ∀ b, b < w.heap.size → Away cur.A b → Away A' b := by
    intro b hb h
    rcases hat with e | ⟨g, e, hg⟩
    · rw [e]; exact h
    · rw [e]
      intro a ha
      injection ha with ha
      subst ha
      show g ≠ b
      omega
  have hgb := h.out.block ⟨g, 0, none⟩ rfl
  have hout' : GOwn 94 w' base (some ⟨g, 0, none⟩) (hd.length + 1) co (hd ++ [cur]) := h.out.keep hs fun a ha x hx => owns_ne h.out.2 h.last.2 (by decide) a ha x hx
  have hA' : ∀ a, A' = some a → a.block ≠ g := fun a ha => Ne.symm (owns_ne ho.2 hout'.2 (by decide) a ha _ rfl)
  have hset := hout'.setSl ⟨A', cur.n + 1, c'⟩ (i := hd.length) (by omega)
  rw [show (hd ++ [cur]).set hd.length ⟨A', cur.n + 1, c'⟩ = hd ++ [⟨A', cur.n + 1, c'⟩] by simp] at hset
  refine ⟨hset, ?_, ?_⟩
  · have h1 := (h.done.more (S' := fun b => base ≤ b ∧ Away (some ⟨g, 0, none⟩) b ∧ Away cur.A b ∧ Away A' b) fun b hb h => ⟨h.1, h.2.1, h.2.2, hne b hb h.2.2⟩).keep hz (hs.sub fun b hb => hb.2.2.1)
    have h2 := h1.keep (w' := w'.setCell ⟨g, hd.length, none⟩ (.slice A' (cur.n + 1) c')) (by simp [World.setCell]) (Same.setCell _ (fun hb => (hb.2.1 ⟨g, 0, none⟩ rfl) rfl) _)
    exact h2.more fun b _ h => ⟨h.1, h.2.1, h.2.2.2⟩
  · rw [List.map_append]
    exact ho.keep (Same.setCell (S := fun b => b ≠ g) _ (fun hb => hb rfl) _) fun a ha => hA' a ha
end Go.Proofs.YtfihjajllfihjaaDoor
