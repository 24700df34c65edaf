/- Rows of rows of characters; the document's Split, Start, Where: the walks. Conditions: the rows lie in memory, fewer than 2^29 characters. The document's Split, Start, Where over rows of characters: the walks. Conditions: the rows lie in memory, fewer than 2^29 characters. -/
import Derived.Test.YtfihjajllfihjaaDoorRunes
import Derived.Test.YtfihjajllfihjaaDoorBel
import Derived.Test.YtfihjajllfihjaaDoorLines3
namespace Go.Proofs.YtfihjajllfihjaaDoor
set_option linter.unusedSimpArgs false
set_option linter.unusedVariables false
open Go Go.RowKit
/-- a slice, as it lies in a cell -/
structure Sl where
  A : Option Addr
  n : Nat
  c : Nat
def Sl.v (s : Sl) : Value := .slice s.A s.n s.c
instance : Enc Sl where
  k := 1
  cells s := [s.v]
  len _ := rfl
  one := by
    intro a u hu
    have : u = a.v := by simpa using hu
    subst this
    rfl
theorem gcells_sl (l : List Sl) : gcells l = l.map Sl.v := by
  induction l with
  | nil => rfl
  | cons x l ih => rw [gcells_cons, ih]; rfl
theorem gown_row_sl {t : TypeId} {w : World} {base : Nat} {A : Option Addr} {n c : Nat} {es : List Sl} (h : GOwn t w base A n c es) (hn : 0 < n) : ∃ g cur, A = some ⟨g, 0, none⟩ ∧ base ≤ g ∧ Blk w g t cur ∧ cur.size = c ∧ n ≤ c ∧ c ≤ maxLen ∧ cur.toList.take n = gcells es := by
  have hc := h.cap_le
  rcases h.2.2 with ⟨_, h0⟩ | ⟨g, cap, cur, e, hbg, hh, h1, h2, h3, h4⟩
  · omega
  · injection e with e1 e2 e3
    subst e3
    exact ⟨g, cur, e1, hbg, hh, h3.trans (Nat.mul_one _), h1, hc.2, by rw [← h4]; congr 1; exact (Nat.mul_one n).symm⟩
theorem GOwn.setSl {w : World} {base g n c i : Nat} {es : List Sl} {t : TypeId} (h : GOwn t w base (some ⟨g, 0, none⟩) n c es) (v : Sl) (hi : i < n) :
    GOwn t (w.setCell ⟨g, i, none⟩ v.v) base (some ⟨g, 0, none⟩) n c (es.set i v) := by
  obtain ⟨g', cur, e1, hbg, hb, hs, hnc, hc, ht⟩ := gown_row_sl h (by omega)
  injection e1 with e1
  injection e1 with e1
  subst e1
  refine ⟨by simpa using h.1, by rw [gcells_length, List.length_set, h.1], .inr ⟨g, c, _, rfl, hbg, hb.set_ i v.v, hnc, hc, ?_, ?_⟩⟩
  · simp [hs]; exact (Nat.mul_one c).symm
  · rw [gcells_sl, List.map_set, ← gcells_sl, ← ht]
    simp only [Array.toList_setIfInBounds]
    rw [show n * Enc.k Sl = n from Nat.mul_one n, List.take_set]
theorem own_sl {t : TypeId} {w : World} {base g n c : Nat} {es : List Sl} (h : GOwn t w base (some ⟨g, 0, none⟩) n c es) {i : Nat} {v : Sl} (hv : es[i]? = some v) : w.cell? ⟨g, i, none⟩ = some v.v ∧ w.frozen? ⟨g, i, none⟩ = false ∧ g < w.heap.size := by
  have hi : i < n := by rw [← h.1]; exact (List.getElem?_eq_some_iff.1 hv).1
  obtain ⟨g', cur, e1, hbg, hb, hs, hnc, hc, ht⟩ := gown_row_sl h (by omega)
  injection e1 with e1
  injection e1 with e1
  subst e1
  refine ⟨?_, hb.frozen _, hb.lt⟩
  rw [hb.cell, ← Array.getElem?_toList, ← List.getElem?_take_of_lt hi, ht, gcells_sl, List.getElem?_map, hv]
  rfl
/-- the slice h holds the characters x -/
def Holds (w : World) (S : Nat → Prop) (h : Sl) (x : List Int) : Prop := h.n = x.length ∧ GRow w S h.A h.n h.c (x.map Rn.mk)
theorem Holds.step {w w' : World} {S : Nat → Prop} {h : Sl} {x : List Int} (q : Holds w S h x) (hb : Below w.heap.size w w') : Holds w' S h x := ⟨q.1, q.2.step hb⟩
theorem Holds.more {w : World} {S S' : Nat → Prop} {h : Sl} {x : List Int} (q : Holds w S h x) (hs : ∀ b, b < w.heap.size → S b → S' b) : Holds w S' h x := ⟨q.1, q.2.more hs⟩
theorem Holds.keep {w w' : World} {S : Nat → Prop} {h : Sl} {x : List Int} (q : Holds w S h x) (hsz : w.heap.size ≤ w'.heap.size) (hk : Same S w w') : Holds w' S h x := ⟨q.1, q.2.keep hsz hk⟩
/-- slices that hold rows, one each -/
def Pairs (w : World) (S : Nat → Prop) (hd : List Sl) (ls : List (List Int)) : Prop := hd.length = ls.length ∧ ∀ (i : Nat) (h : Sl) (x : List Int), hd[i]? = some h → ls[i]? = some x → Holds w S h x
theorem Pairs.nil (w : World) (S : Nat → Prop) : Pairs w S [] [] := ⟨rfl, fun i h x hh => by cases hh⟩
theorem Pairs.step {w w' : World} {S : Nat → Prop} {hd : List Sl} {ls : List (List Int)} (q : Pairs w S hd ls) (hb : Below w.heap.size w w') : Pairs w' S hd ls := ⟨q.1, fun i h x h1 h2 => (q.2 i h x h1 h2).step hb⟩
theorem Pairs.more {w : World} {S S' : Nat → Prop} {hd : List Sl} {ls : List (List Int)} (q : Pairs w S hd ls) (hs : ∀ b, b < w.heap.size → S b → S' b) : Pairs w S' hd ls := ⟨q.1, fun i h x h1 h2 => (q.2 i h x h1 h2).more hs⟩
theorem Pairs.keep {w w' : World} {S : Nat → Prop} {hd : List Sl} {ls : List (List Int)} (q : Pairs w S hd ls) (hsz : w.heap.size ≤ w'.heap.size) (hk : Same S w w') : Pairs w' S hd ls := ⟨q.1, fun i h x h1 h2 => (q.2 i h x h1 h2).keep hsz hk⟩
theorem Pairs.snoc {w : World} {S : Nat → Prop} {hd : List Sl} {ls : List (List Int)} {h : Sl} {x : List Int} (q : Pairs w S hd ls) (p : Holds w S h x) : Pairs w S (hd ++ [h]) (ls ++ [x]) := by
  refine ⟨by simp [q.1], fun i h' x' h1 h2 => ?_⟩
  by_cases hi : i < hd.length
  · rw [List.getElem?_append_left hi] at h1
    rw [List.getElem?_append_left (by rw [← q.1]; exact hi)] at h2
    exact q.2 i h' x' h1 h2
  · rw [List.getElem?_append_right (by omega)] at h1
    rw [List.getElem?_append_right (by rw [← q.1]; omega), ← q.1] at h2
    have h0 : i - hd.length = 0 := by
      have := (List.getElem?_eq_some_iff.1 h1).1
      simpa using this
    rw [h0] at h1 h2
    have e1 : h' = h := by simpa using h1.symm
    have e2 : x' = x := by simpa using h2.symm
    rw [e1, e2]
    exact p
/-- a slice of slices that hold rows -/
def RRows (w : World) (S : Nat → Prop) (A : Option Addr) (c : Nat) (ls : List (List Int)) : Prop := ∃ hd : List Sl, GRow w S A ls.length c hd ∧ Pairs w S hd ls
theorem RRows.step {w w' : World} {S : Nat → Prop} {A : Option Addr} {c : Nat} {ls : List (List Int)} (q : RRows w S A c ls) (hb : Below w.heap.size w w') : RRows w' S A c ls := by
  obtain ⟨hd, h1, h2⟩ := q
  exact ⟨hd, h1.step hb, h2.step hb⟩
theorem RRows.at_ {w : World} {S : Nat → Prop} {A : Option Addr} {c : Nat} {ls : List (List Int)} (q : RRows w S A c ls) {i : Nat} {x : List Int} (hi : ls[i]? = some x) : ∃ b off B d, A = some ⟨b, off, none⟩ ∧ b < w.heap.size ∧ w.cell? ⟨b, off + i, none⟩ = some (.slice B x.length d) ∧ GRow w S B x.length d (x.map Rn.mk) := by
  obtain ⟨hd, h1, h2⟩ := q
  obtain ⟨b, off, h, hA, hS, hb, hh, hc⟩ := h1.at_ (List.getElem?_eq_some_iff.1 hi).1
  have hH := h2.2 i h x hh hi
  have c0 : w.cell? ⟨b, off + i * 1, none⟩ = some (.slice h.A h.n h.c) := hc 0 _ rfl
  rw [Nat.mul_one, hH.1] at c0
  have hr := hH.2
  rw [hH.1] at hr
  exact ⟨b, off, h.A, h.c, hA, hb, c0, hr⟩
theorem Tryd.infoSl : (Tryd.prog.info? 94).map (fun i => (i.zero, i.size, i.bytes)) = some (some (.slice none 0 0), 1, 24) := by kernel_rfl
theorem wp_append_sls {ac : Act} {K : Act → World → Prop} {Q : Exit → Act → World → Prop} {w : World} {dst : Option Tmp} {s x : Operand} {ty : TypeId} {pos : String} {after : Array Edge} {guard : Option (Nat × Bool)}
    (base : Nat) (A B : Option Addr) (n c m d : Nat) (es fs : List Sl) (S : Nat → Prop) (hs : ac.eval s = .slice A n c) (hx : ac.eval x = .slice B m d) (hown : GOwn 94 w base A n c es) (hrow : GRow w S B m d fs) (hb : base ≤ w.heap.size) (hbd : n + m ≤ 1099511627776)
    (h : ∀ A' c' w', GOwn 94 w' base A' (n + m) c' (es ++ fs) → Below base w w' → Same (fun k => ∀ g, A = some g → g.block ≠ k) w w' → (A' = A ∨ ∃ g, A' = some ⟨g, 0, none⟩ ∧ w.heap.size ≤ g) → w.heap.size ≤ w'.heap.size → K (ac.put dst (.slice A' (n + m) c')) w') :
    Oper.wp Tryd.prog ⟨dst, .call ⟨.builtin .append, #[s, x], #[98, 98]⟩, ty, pos, after, guard⟩ ac w K Q :=
  wp_append_g (α := Sl) 98 94 _ 24 Tryd.underlying98 Tryd.infoSl rfl (by decide) (by decide) (by decide) base A B n c m d es fs S hs hx hown hrow hb hbd h
theorem app_sls_here {ac : Act} {K : Act → World → Prop} {Q : Exit → Act → World → Prop} {w : World} {dst : Option Tmp} {s x : Operand} {ty : TypeId} {pos : String} {after : Array Edge} {guard : Option (Nat × Bool)}
    (h : Oper.wp Tryd.prog ⟨dst, .call ⟨.builtin .append, #[s, x], #[98, 98]⟩, ty, pos, after, guard⟩ ac w K Q) : Oper.wp Tryd.prog ⟨dst, .call ⟨.builtin .append, #[s, x], #[98, 98]⟩, ty, pos, after, guard⟩ ac w K Q := h
def Sl.none_ : Sl := ⟨none, 0, 0⟩
theorem gown_sl0 (W : World) : GOwn 94 (W.alloc (.cells #[.slice none 0 0] 94)) W.heap.size (some ⟨W.heap.size, 0, none⟩) 1 1 [Sl.none_] := GOwn.lit (t := 94) W #[.slice none 0 0] [Sl.none_] W.heap.size (Nat.le_refl _) (by show 1 ≤ maxLen; decide) rfl
/-- what Split keeps: the lines that are ended, the one that is not -/
structure SpAt (w : World) (base : Nat) (AO : Option Addr) (co : Nat) (hd : List Sl) (cur : Sl) (done : List (List Int)) (last : List Int) : Prop where
  out : GOwn 94 w base AO (hd.length + 1) co (hd ++ [cur])
  done : Pairs w (fun b => base ≤ b ∧ Away AO b ∧ Away cur.A b) hd done
  last : GOwn 21 w base cur.A cur.n cur.c (last.map Rn.mk)
theorem SpAt.step {w w' : World} {base : Nat} {AO : Option Addr} {co : Nat} {hd : List Sl} {cur : Sl} {done : List (List Int)} {last : List Int} (h : SpAt w base AO co hd cur done last) (hb : Below w.heap.size w w') : SpAt w' base AO co hd cur done last := ⟨h.out.step hb, h.done.step hb, h.last.step hb⟩
/-- a line is ended: a new one is appended to the out row -/
theorem SpAt.eol {w w' : World} {base : Nat} {AO AO' : Option Addr} {co co' : Nat} {hd : List Sl} {cur : Sl} {done : List (List Int)} {last : List Int} (h : SpAt w base AO co hd cur done last)
    (ho : GOwn 94 w' base AO' (hd.length + 1 + 1) co' ((hd ++ [cur]) ++ [Sl.none_])) (hs : Same (fun k => ∀ g, AO = some g → g.block ≠ k) w w') (hat : AO' = AO ∨ ∃ g, AO' = some ⟨g, 0, none⟩ ∧ w.heap.size ≤ g) (hz : w.heap.size ≤ w'.heap.size) :
    SpAt w' base AO' co' (hd ++ [cur]) Sl.none_ (done ++ [last]) [] := by
  have hne : ∀ b, b < w.heap.size → Away AO b → Away AO' b := by
    intro b hb h
    rcases hat with rfl | ⟨g, rfl, hg⟩
    · exact h
    · intro a ha
      injection ha with ha
      subst ha
      show g ≠ b
      omega
  refine ⟨by rw [List.length_append]; exact ho, ?_, GOwn.nil _ _ _⟩
  have hlen : cur.n = last.length := by have := h.last.1; rw [List.length_map] at this; exact this.symm
  have hcur : Holds w (fun b => base ≤ b ∧ Away AO b) cur last := by
    refine ⟨hlen, ?_⟩
    have h1 := h.last.row (S := fun b => base ≤ b ∧ b < w.heap.size) fun b h1 h2 => ⟨h1, h2⟩
    exact h1.re fun x hx => ⟨(h.last.block x hx).1, fun a ha => owns_ne h.last.2 h.out.2 (by decide) x hx a ha⟩
  have hpair : Pairs w (fun b => base ≤ b ∧ Away AO b) (hd ++ [cur]) (done ++ [last]) := (h.done.more fun b _ h => ⟨h.1, h.2.1⟩).snoc hcur
  exact ((hpair.more (S' := fun b => base ≤ b ∧ Away AO b ∧ Away AO' b) fun b hb h => ⟨h.1, h.2, hne b hb h.2⟩).keep hz (hs.sub fun b hb => hb.2.1)).more fun b _ h => ⟨h.1, h.2.2, Away.none_ b⟩
/-- a character is appended to the line that is not ended, and the slice put back -/
theorem SpAt.char {w w' : World} {base g : Nat} {A' : Option Addr} {co c' : Nat} {hd : List Sl} {cur : Sl} {done : List (List Int)} {last : List Int} {ch : Int} (h : SpAt w base (some ⟨g, 0, none⟩) co hd cur done last)
    (ho : GOwn 21 w' base A' (cur.n + 1) c' (last.map Rn.mk ++ [⟨ch⟩])) (hs : Same (fun k => ∀ g, cur.A = some g → g.block ≠ k) w w') (hat : A' = cur.A ∨ ∃ g, A' = some ⟨g, 0, none⟩ ∧ w.heap.size ≤ g) (hz : w.heap.size ≤ w'.heap.size) :
    SpAt (w'.setCell ⟨g, hd.length, none⟩ (.slice A' (cur.n + 1) c')) base (some ⟨g, 0, none⟩) co hd ⟨A', cur.n + 1, c'⟩ done (last ++ [ch]) := by
  have hne : ∀ b, b < w.heap.size → Away cur.A b → Away A' b := by
    intro b hb h
    rcases hat with e | ⟨g, e, hg⟩
    · rw [e]; exact h
    · rw [e]
      intro a ha
      injection ha with ha
      subst ha
      show g ≠ b
      omega
  have hgb := h.out.block ⟨g, 0, none⟩ rfl
  have hout' : GOwn 94 w' base (some ⟨g, 0, none⟩) (hd.length + 1) co (hd ++ [cur]) := h.out.keep hs fun a ha x hx => owns_ne h.out.2 h.last.2 (by decide) a ha x hx
  have hA' : ∀ a, A' = some a → a.block ≠ g := fun a ha => Ne.symm (owns_ne ho.2 hout'.2 (by decide) a ha _ rfl)
  have hset := hout'.setSl ⟨A', cur.n + 1, c'⟩ (i := hd.length) (by omega)
  rw [show (hd ++ [cur]).set hd.length ⟨A', cur.n + 1, c'⟩ = hd ++ [⟨A', cur.n + 1, c'⟩] by simp] at hset
  refine ⟨hset, ?_, ?_⟩
  · have h1 := (h.done.more (S' := fun b => base ≤ b ∧ Away (some ⟨g, 0, none⟩) b ∧ Away cur.A b ∧ Away A' b) fun b hb h => ⟨h.1, h.2.1, h.2.2, hne b hb h.2.2⟩).keep hz (hs.sub fun b hb => hb.2.2.1)
    have h2 := h1.keep (w' := w'.setCell ⟨g, hd.length, none⟩ (.slice A' (cur.n + 1) c')) (by simp [World.setCell]) (Same.setCell _ (fun hb => (hb.2.1 ⟨g, 0, none⟩ rfl) rfl) _)
    exact h2.more fun b _ h => ⟨h.1, h.2.1, h.2.2.2⟩
  · rw [List.map_append]
    exact ho.keep (Same.setCell (S := fun b => b ≠ g) _ (fun hb => hb rfl) _) fun a ha => hA' a ha
end Go.Proofs.YtfihjajllfihjaaDoor
namespace Go.Proofs.YtfihjajllfihjaaDoor
set_option linter.unusedSimpArgs false
set_option linter.unusedVariables false
open Go Go.RowKit
theorem cut_take {s : List Int} {k : Nat} {ch : Int} (h : s[k]? = some ch) : cutOf (s.take (k + 1)) = cutStep (cutOf (s.take k)) ch := by
  rw [List.take_add_one, h, show (some ch).toList = [ch] from rfl, cutOf_snoc]
set_option maxRecDepth 100000 in
set_option maxHeartbeats 4000000 in
theorem refSplit_any (w : World) (A : Option Addr) (n c : Nat) (s : List Int) (S : Nat → Prop) (h : GRow w S A n c (s.map Rn.mk)) (hn : n ≤ 536870912) :
    Calls Tryd.prog 51 #[.slice A n c] w fun e w' => (∃ A' c', e = .returned (.slice A' (splitS s).length c') ∧ RRows w' (fun b => w.heap.size ≤ b) A' c' (splitS s)) ∧ Below w.heap.size w w' := by
  have Hr := hid (h.more (S' := fun b => b < w.heap.size) fun b hb _ => hb)
  have hnl : s.length = n := by have := h.1; rwa [List.length_map] at this
  have g0 := gown_sl0 w
  have e0 := balloc (o := .cells #[.slice none 0 0] 94) (Below.refl _ w)
  clear h
  go_enter Tryd.func51, Tryd.ntmps51
  repeat' (first | (with_reducible refine Keep.last ?_) | (with_reducible refine Keep.below (by assumption) ?_) | (with_reducible refine Keep.kept (by assumption) ?_) | (with_reducible refine Keep.alloc ?_) | (with_reducible refine Keep.same ?_) | ((with_reducible refine WpH.here ?_); first | (refine WpH.nil ?_; refine NoP.normal ?_) | (refine WpH.load (by rfl) (by rfl) (by go_simp; rfl) ?_; simp only [Act.put, List.setIfInBounds_toArray, List.set_cons_zero, List.set_cons_succ]) | (refine WpH.loadT (by rfl) (by rfl) (by go_simp; rfl) (by rintro _ _ ⟨⟩; exact ⟨_, _, _, _, _, _, by rfl, by assumption, by assumption⟩) ?_; simp only [Act.put, List.setIfInBounds_toArray, List.set_cons_zero, List.set_cons_succ]) | (refine WpH.pure (by rfl) (fun w_ => by go_simp; (try go_bits); rfl) ?_; simp only [Act.put, List.setIfInBounds_toArray, List.set_cons_zero, List.set_cons_succ]) | (refine WpH.wild1 (by rfl) (fun _ _ => ?_)) | (refine WpH.skip (by rfl) ?_; simp only [Act.put, List.setIfInBounds_toArray, List.set_cons_zero, List.set_cons_succ])) | go_values | go_skip | go_guarded | go_step | go_upon | go_back)
  go_loopw [3, 4, 5] (fun o i _ wr => ∃ (k no : Nat) (AO : Option Addr) (co : Nat) (hd : List Sl) (cur : Sl), i = .int .i64 k ∧ o = .slice AO no co ∧ no = hd.length + 1 ∧ k ≤ n ∧ hd.length ≤ k ∧ cur.n ≤ k ∧ Hid (SpAt wr w.heap.size AO co hd cur (cutOf (s.take k)).1 (cutOf (s.take k)).2) ∧ Below w.heap.size w wr) (fun _ i _ _ => n - (intOf i).toNat)
  case atStart => exact ⟨0, 1, _, _, [], Sl.none_, rfl, rfl, rfl, Nat.zero_le _, Nat.le_refl _, Nat.le_refl _, hid ⟨g0, Pairs.nil _ _, GOwn.nil _ _ _⟩, e0⟩
  case round =>
    clear g0 e0
    obtain ⟨k, no, AO, co, hd, cur, rfl, rfl, hno, hk, hdk, hck, HS, hbr⟩ := hrel
    have Hno := hid hno
    have hnob : no ≤ 536870914 := by omega
    by_cases hlt : k < n
    · have hkn : (k : Int) < n := by omega
      obtain ⟨b, off, e, rfl, hSb, hbl, he, hcell⟩ := (Hr.out.step hbr).at_ hlt
      obtain ⟨ch, hch, rfl⟩ : ∃ ch, s[k]? = some ch ∧ Rn.mk ch = e := by simpa using he
      have c0 : wr.cell? ⟨b, off + k * 1, none⟩ = some (.int .i32 ch) := hcell 0 _ rfl
      rw [Nat.mul_one] at c0
      have Hct := hid (cut_take hch)
      have hz := hbr.size
      clear hcell he hch
      by_cases h10 : ch = 10
      · subst h10
        have eL := balloc (o := .cells #[.slice none 0 0] 94) (Below.refl _ wr)
        have hz1 := eL.size
        have HO := hid (HS.out.out.step eL)
        have hrow := (gown_sl0 wr).row (S := fun _ => True) fun _ _ _ => trivial
        clear hno
        repeat' (first | ((with_reducible refine app_sls_here ?_); go_must (refine wp_append_sls w.heap.size AO _ no co 1 1 (hd ++ [cur]) [Sl.none_] (fun _ => True) (by rfl) (by rfl) (by rw [Hno.out]; exact HO.out) hrow (by omega) (by omega) ?_; intro A4 c4 w4 hown4 hb4 hsm4 hat4 hz4)) | (with_reducible refine Keep.last ?_) | (with_reducible refine Keep.below (by assumption) ?_) | (with_reducible refine Keep.kept (by assumption) ?_) | (with_reducible refine Keep.alloc ?_) | (with_reducible refine Keep.same ?_) | ((with_reducible refine WpH.here ?_); first | (refine WpH.nil ?_; refine NoP.normal ?_) | (refine WpH.load (by rfl) (by rfl) (by go_simp; rfl) ?_; simp only [Act.put, List.setIfInBounds_toArray, List.set_cons_zero, List.set_cons_succ]) | (refine WpH.loadT (by rfl) (by rfl) (by go_simp; rfl) (by rintro _ _ ⟨⟩; exact ⟨_, _, _, _, _, _, by rfl, by assumption, by assumption⟩) ?_; simp only [Act.put, List.setIfInBounds_toArray, List.set_cons_zero, List.set_cons_succ]) | (refine WpH.pure (by rfl) (fun w_ => by go_simp; (try go_bits); rfl) ?_; simp only [Act.put, List.setIfInBounds_toArray, List.set_cons_zero, List.set_cons_succ]) | (refine WpH.wild1 (by rfl) (fun _ _ => ?_)) | (refine WpH.skip (by rfl) ?_; simp only [Act.put, List.setIfInBounds_toArray, List.set_cons_zero, List.set_cons_succ])) | go_values | go_skip | go_guarded | go_step | go_upon | go_back)
        skip
        go_roundw
        case rel =>
          have hS2 := (HS.out.step eL).eol (by rw [Hno.out] at hown4; exact hown4) hsm4 hat4 hz4
          refine ⟨k + 1, no + 1, A4, c4, hd ++ [cur], Sl.none_, by go_num, by first | rfl | go_num, by rw [List.length_append, Hno.out]; rfl, by omega, by rw [List.length_append]; show hd.length + 1 ≤ k + 1; omega, Nat.zero_le _, hid ?_, (bvia hbr eL).trans hb4⟩
          rw [Hct.out]
          unfold cutStep
          rw [if_pos rfl]
          exact hS2
        case measure => simp [intOf]; omega
      · obtain ⟨g, hg⟩ : ∃ g, AO = some ⟨g, 0, none⟩ := by
          cases AO with
          | none => have := HS.out.out.cap_le; rcases HS.out.out.2.2 with ⟨_, h0⟩ | ⟨g, _, _, h1, _⟩
                    · omega
                    · injection h1 with h1; cases h1
          | some a => obtain ⟨g, rfl⟩ := HS.out.out.head; exact ⟨g, rfl⟩
        subst hg
        obtain ⟨o0, of_, ol⟩ := own_sl HS.out.out (i := hd.length) (v := cur) (by simp)
        unfold Sl.v at o0
        have hTg : Away cur.A g := fun a ha => Ne.symm (owns_ne HS.out.last.2 HS.out.out.2 (by decide) a ha _ rfl)
        have hTb : Away cur.A b := fun a ha => by have := (HS.out.last.block a ha).1; omega
        have hni : (no : Int) - 1 = (hd.length : Nat) := by omega
        have hdl : hd.length < no := by omega
        have hdb : (hd.length : Int) ≤ 536870912 := by omega
        have eL := balloc (o := .cells #[.int .i32 ch] 21) (Below.refl _ wr)
        have eD : Below wr.heap.size wr (wr.alloc (.cells #[.int .i32 ch] 21)).drew := eL.drew
        have hLD := HS.out.step eD
        have hrow := (grow_rune wr ch).drew
        have hzD : (wr.alloc (.cells #[.int .i32 ch] 21)).drew.heap.size = wr.heap.size + 1 := Array.size_push _
        have hBD := bvia hbr eD
        obtain ⟨CA, cn, cc⟩ := cur
        dsimp only at o0 hck hTg hTb
        have cD : wr.drew.cell? ⟨b, off + k, none⟩ = some (.int .i32 ch) := c0
        have oD : wr.drew.cell? ⟨g, hd.length, none⟩ = some (.slice CA cn cc) := o0
        obtain ⟨hcs, hcu, hcz, hcH⟩ := cell_obj cD
        obtain ⟨hos, hou, hoz, hoH⟩ := cell_obj oD
        clear hno
        have HLD := hid hLD
        have Hnn := hid (And.intro h10 Hno.out)
        clear hLD
        repeat' (first | ((with_reducible refine region_at 8 ?_); refine wp_region_orderT (fun x => Away CA x) [(0, true, false), (1, true, false), (2, true, false), (3, true, false), (4, true, false), (5, true, false), (6, true, false), (7, true, false), (8, true, false), (9, true, false), (10, false, false), (11, false, false), (12, true, false), (13, false, true)] (by kernel_rfl) (by kernel_rfl) (by kernel_rfl) rfl rfl ?_) | (with_reducible refine Keep.allocD ?_) | ((with_reducible refine app_runes_here ?_); go_must (refine wp_append_runes w.heap.size CA _ cn cc 1 1 ((cutOf (s.take k)).2.map Rn.mk) [⟨ch⟩] (fun _ => True) (by rfl) (by rfl) HLD.out.last hrow (by omega) (by omega) ?_; intro A3 c3 w3 hown3 hb3 hsm3 hat3 hz3; have hk3 : KeepT (fun x => Away CA x) _ w3 := ⟨hz3, fun b hl hb => hsm3 b (fun g hg => hb g hg) hl⟩; have hout3 := HLD.out.out.keep hsm3 (fun a ha x hx => owns_ne HLD.out.out.2 HLD.out.last.2 (by decide) a ha x hx); obtain ⟨o3, of3, ol3⟩ := own_sl hout3 (i := hd.length) (v := ⟨CA, cn, cc⟩) (by simp); unfold Sl.v at o3)) | (with_reducible refine Keep.last ?_) | (with_reducible refine Keep.below (by assumption) ?_) | (with_reducible refine Keep.kept (by assumption) ?_) | (with_reducible refine Keep.alloc ?_) | (with_reducible refine Keep.same ?_) | ((with_reducible refine WpH.here ?_); first | (refine WpH.nil ?_; refine NoP.normal ?_) | (refine WpH.load (by rfl) (by rfl) (by go_simp; rfl) ?_; simp only [Act.put, List.setIfInBounds_toArray, List.set_cons_zero, List.set_cons_succ]) | (refine WpH.loadT (by rfl) (by rfl) (by go_simp; rfl) (by rintro _ _ ⟨⟩; exact ⟨_, _, _, _, _, _, by rfl, by assumption, by assumption⟩) ?_; simp only [Act.put, List.setIfInBounds_toArray, List.set_cons_zero, List.set_cons_succ]) | (refine WpH.pure (by rfl) (fun w_ => by go_simp; (try go_bits); rfl) ?_; simp only [Act.put, List.setIfInBounds_toArray, List.set_cons_zero, List.set_cons_succ]) | (refine WpH.wild1 (by rfl) (fun _ _ => ?_)) | (refine WpH.skip (by rfl) ?_; simp only [Act.put, List.setIfInBounds_toArray, List.set_cons_zero, List.set_cons_succ])) | go_values | go_skip | go_guarded | go_step | go_upon | go_back)
        skip
        go_roundw
        case rel =>
          have hS2 := HLD.out.char hown3 hsm3 hat3 hz3
          refine ⟨k + 1, no, _, co, hd, ⟨A3, cn + 1, c3⟩, by go_num, rfl, Hnn.out.2, by omega, by omega, by show cn + 1 ≤ k + 1; omega, hid ?_, ?_⟩
          · rw [Hct.out]
            unfold cutStep
            rw [if_neg Hnn.out.1]
            exact hS2
          · exact bset (hBD.trans hb3) (HS.out.out.block _ rfl).1
        case measure => simp [intOf]; omega
    · obtain rfl : k = n := by omega
      have Hs := hid (show s.take k = s from List.take_of_length_le (by omega))
      repeat' (first | (with_reducible refine Keep.last ?_) | (with_reducible refine Keep.below (by assumption) ?_) | (with_reducible refine Keep.kept (by assumption) ?_) | (with_reducible refine Keep.alloc ?_) | (with_reducible refine Keep.same ?_) | ((with_reducible refine WpH.here ?_); first | (refine WpH.nil ?_; refine NoP.normal ?_) | (refine WpH.load (by rfl) (by rfl) (by go_simp; rfl) ?_; simp only [Act.put, List.setIfInBounds_toArray, List.set_cons_zero, List.set_cons_succ]) | (refine WpH.loadT (by rfl) (by rfl) (by go_simp; rfl) (by rintro _ _ ⟨⟩; exact ⟨_, _, _, _, _, _, by rfl, by assumption, by assumption⟩) ?_; simp only [Act.put, List.setIfInBounds_toArray, List.set_cons_zero, List.set_cons_succ]) | (refine WpH.pure (by rfl) (fun w_ => by go_simp; (try go_bits); rfl) ?_; simp only [Act.put, List.setIfInBounds_toArray, List.set_cons_zero, List.set_cons_succ]) | (refine WpH.wild1 (by rfl) (fun _ _ => ?_)) | (refine WpH.skip (by rfl) ?_; simp only [Act.put, List.setIfInBounds_toArray, List.set_cons_zero, List.set_cons_succ])) | go_values | go_skip | go_guarded | go_step | go_upon | go_back)
      skip
      go_ret
      rw [Hs.out] at HS
      have hl : (splitS s).length = no := by have h1 := HS.out.done.1; have h2 := Hno.out; unfold splitS; rw [List.length_append]; simp only [List.length_singleton]; omega
      rw [hl]
      refine ⟨⟨AO, co, rfl, hd ++ [cur], ?_, ?_⟩, hbr⟩
      · rw [hl, Hno.out]
        exact HS.out.out.row fun b h _ => h
      · have hlen : cur.n = (cutOf s).2.length := by have := HS.out.last.1; rw [List.length_map] at this; exact this.symm
        exact (HS.out.done.more fun b _ h => h.1).snoc ⟨hlen, HS.out.last.row fun b h _ => h⟩
set_option maxRecDepth 100000 in
theorem refStart_any (w : World) (A : Option Addr) (c k : Nat) (ls : List (List Int)) (S : Nat → Prop) (h : RRows w S A c ls) (hk : k ≤ ls.length) (hb : startS ls k ≤ 1073741824) :
    Calls Tryd.prog 56 #[.slice A ls.length c, .int .i64 k] w fun e w' => e = .returned (.int .i64 (startS ls k)) ∧ Below w.heap.size w w' := by
  have Hr := hid h
  obtain ⟨n, hn⟩ : ∃ n, n = ls.length := ⟨_, rfl⟩
  have hnb : n ≤ maxLen := by obtain ⟨hd, h1, _⟩ := h; rw [hn]; exact h1.len_le
  unfold maxLen at hnb
  rw [← hn]
  clear h
  go_enter Tryd.func56, Tryd.ntmps56
  repeat' (first | (with_reducible refine Keep.last ?_) | (with_reducible refine Keep.below (by assumption) ?_) | (with_reducible refine Keep.kept (by assumption) ?_) | (with_reducible refine Keep.alloc ?_) | (with_reducible refine Keep.same ?_) | ((with_reducible refine WpH.here ?_); first | (refine WpH.nil ?_; refine NoP.normal ?_) | (refine WpH.load (by rfl) (by rfl) (by go_simp; rfl) ?_; simp only [Act.put, List.setIfInBounds_toArray, List.set_cons_zero, List.set_cons_succ]) | (refine WpH.loadT (by rfl) (by rfl) (by go_simp; rfl) (by rintro _ _ ⟨⟩; exact ⟨_, _, _, _, _, _, by rfl, by assumption, by assumption⟩) ?_; simp only [Act.put, List.setIfInBounds_toArray, List.set_cons_zero, List.set_cons_succ]) | (refine WpH.pure (by rfl) (fun w_ => by go_simp; (try go_bits); rfl) ?_; simp only [Act.put, List.setIfInBounds_toArray, List.set_cons_zero, List.set_cons_succ]) | (refine WpH.wild1 (by rfl) (fun _ _ => ?_)) | (refine WpH.skip (by rfl) ?_; simp only [Act.put, List.setIfInBounds_toArray, List.set_cons_zero, List.set_cons_succ])) | go_values | go_skip | go_guarded | go_step | go_upon | go_back)
  go_loopw [5, 6] (fun t i wr => ∃ (j s : Nat), i = .int .i64 j ∧ t = .int .i64 s ∧ Hid (s = startS ls j) ∧ j ≤ k ∧ Below w.heap.size w wr) (fun _ i _ => k - (intOf i).toNat)
  case atStart => exact ⟨0, 0, rfl, rfl, hid rfl, Nat.zero_le _, Below.refl _ _⟩
  case round =>
    obtain ⟨j, s, rfl, rfl, hs, hj, hbr⟩ := hrel
    by_cases hlt : j < k
    · have hx : ls[j]? = some ls[j] := List.getElem?_eq_getElem (by omega)
      generalize ls[j] = x at hx
      obtain ⟨b, off, B, d, rfl, hbl, c0, hrow⟩ := (Hr.out.step hbr).at_ hx
      have hss := startS_succ hx
      have hsm := startS_mono (ls := ls) (i := j + 1) (j := k) (by omega) hk
      have hjk : (j : Int) < k := by omega
      have hjn : (j : Int) < n := by omega
      obtain ⟨m, hm⟩ : ∃ m, m = x.length := ⟨_, rfl⟩
      rw [← hm] at c0 hss
      obtain ⟨u, hu⟩ : ∃ u, u = s + m := ⟨_, rfl⟩
      have hui : (s : Int) + m = u := by omega
      have hsb : s + m + 1 ≤ 1073741824 := by have := hs.out; omega
      have Hss := hid (show u + 1 = startS ls (j + 1) by rw [hss, ← hs.out, hu])
      clear hss hsm hx hm hu hrow hlt
      repeat' (first | (with_reducible refine Keep.last ?_) | (with_reducible refine Keep.below (by assumption) ?_) | (with_reducible refine Keep.kept (by assumption) ?_) | (with_reducible refine Keep.alloc ?_) | (with_reducible refine Keep.same ?_) | ((with_reducible refine WpH.here ?_); first | (refine WpH.nil ?_; refine NoP.normal ?_) | (refine WpH.load (by rfl) (by rfl) (by go_simp; rfl) ?_; simp only [Act.put, List.setIfInBounds_toArray, List.set_cons_zero, List.set_cons_succ]) | (refine WpH.loadT (by rfl) (by rfl) (by go_simp; rfl) (by rintro _ _ ⟨⟩; exact ⟨_, _, _, _, _, _, by rfl, by assumption, by assumption⟩) ?_; simp only [Act.put, List.setIfInBounds_toArray, List.set_cons_zero, List.set_cons_succ]) | (refine WpH.pure (by rfl) (fun w_ => by go_simp; (try go_bits); rfl) ?_; simp only [Act.put, List.setIfInBounds_toArray, List.set_cons_zero, List.set_cons_succ]) | (refine WpH.wild1 (by rfl) (fun _ _ => ?_)) | (refine WpH.skip (by rfl) ?_; simp only [Act.put, List.setIfInBounds_toArray, List.set_cons_zero, List.set_cons_succ])) | go_values | go_skip | go_guarded | go_step | go_upon | go_back)
      skip
      go_roundw
      case rel => exact ⟨j + 1, u + 1, by go_num, by go_num, Hss, by omega, hbr⟩
      case measure => simp [intOf]; omega
    · obtain rfl : j = k := by omega
      repeat' (first | (with_reducible refine Keep.last ?_) | (with_reducible refine Keep.below (by assumption) ?_) | (with_reducible refine Keep.kept (by assumption) ?_) | (with_reducible refine Keep.alloc ?_) | (with_reducible refine Keep.same ?_) | ((with_reducible refine WpH.here ?_); first | (refine WpH.nil ?_; refine NoP.normal ?_) | (refine WpH.load (by rfl) (by rfl) (by go_simp; rfl) ?_; simp only [Act.put, List.setIfInBounds_toArray, List.set_cons_zero, List.set_cons_succ]) | (refine WpH.loadT (by rfl) (by rfl) (by go_simp; rfl) (by rintro _ _ ⟨⟩; exact ⟨_, _, _, _, _, _, by rfl, by assumption, by assumption⟩) ?_; simp only [Act.put, List.setIfInBounds_toArray, List.set_cons_zero, List.set_cons_succ]) | (refine WpH.pure (by rfl) (fun w_ => by go_simp; (try go_bits); rfl) ?_; simp only [Act.put, List.setIfInBounds_toArray, List.set_cons_zero, List.set_cons_succ]) | (refine WpH.wild1 (by rfl) (fun _ _ => ?_)) | (refine WpH.skip (by rfl) ?_; simp only [Act.put, List.setIfInBounds_toArray, List.set_cons_zero, List.set_cons_succ])) | go_values | go_skip | go_guarded | go_step | go_upon | go_back)
      go_ret
      rw [← hs.out]
      exact ⟨rfl, hbr⟩
set_option maxRecDepth 100000 in
theorem refWhere_any (w : World) (A : Option Addr) (c p k : Nat) (ls : List (List Int)) (S : Nat → Prop) (h : RRows w S A c ls) (hw : IsWhere ls p k) (hb : p ≤ 1073741824) :
    Calls Tryd.prog 59 #[.slice A ls.length c, .int .i64 p] w fun e w' => (∃ q : Nat, startS ls k + q = p ∧ e = .returned (.tuple #[.int .i64 k, .int .i64 q])) ∧ Below w.heap.size w w' := by
  have Hr := hid h
  obtain ⟨n, hn⟩ : ∃ n, n = ls.length := ⟨_, rfl⟩
  have hnb : n ≤ maxLen := by obtain ⟨hd, h1, _⟩ := h; rw [hn]; exact h1.len_le
  unfold maxLen at hnb
  rw [← hn]
  have Hw := hid hw
  clear h hw
  go_enter Tryd.func59, Tryd.ntmps59
  repeat' (first | (with_reducible refine Keep.last ?_) | (with_reducible refine Keep.below (by assumption) ?_) | (with_reducible refine Keep.kept (by assumption) ?_) | (with_reducible refine Keep.alloc ?_) | (with_reducible refine Keep.same ?_) | ((with_reducible refine WpH.here ?_); first | (refine WpH.nil ?_; refine NoP.normal ?_) | (refine WpH.load (by rfl) (by rfl) (by go_simp; rfl) ?_; simp only [Act.put, List.setIfInBounds_toArray, List.set_cons_zero, List.set_cons_succ]) | (refine WpH.loadT (by rfl) (by rfl) (by go_simp; rfl) (by rintro _ _ ⟨⟩; exact ⟨_, _, _, _, _, _, by rfl, by assumption, by assumption⟩) ?_; simp only [Act.put, List.setIfInBounds_toArray, List.set_cons_zero, List.set_cons_succ]) | (refine WpH.pure (by rfl) (fun w_ => by go_simp; (try go_bits); rfl) ?_; simp only [Act.put, List.setIfInBounds_toArray, List.set_cons_zero, List.set_cons_succ]) | (refine WpH.wild1 (by rfl) (fun _ _ => ?_)) | (refine WpH.skip (by rfl) ?_; simp only [Act.put, List.setIfInBounds_toArray, List.set_cons_zero, List.set_cons_succ])) | go_values | go_skip | go_guarded | go_step | go_upon | go_back)
  go_loopw [1, 6] (fun t i wr => ∃ (j q : Nat), i = .int .i64 j ∧ t = .int .i64 q ∧ Hid (startS ls j + q = p) ∧ j ≤ k ∧ q ≤ p ∧ Below w.heap.size w wr) (fun _ i _ => k - (intOf i).toNat)
  case atStart => exact ⟨0, p, rfl, rfl, hid (Nat.zero_add p), Nat.zero_le _, Nat.le_refl _, Below.refl _ _⟩
  case round =>
    obtain ⟨j, q, rfl, rfl, hs, hj, hqp, hbr⟩ := hrel
    obtain ⟨y, hy, hy1, hy2⟩ := Hw.out
    have hkl := (List.getElem?_eq_some_iff.1 hy).1
    have hx : ls[j]? = some ls[j] := List.getElem?_eq_getElem (by omega)
    generalize ls[j] = x at hx
    obtain ⟨b, off, B, d, rfl, hbl, c0, hrow⟩ := (Hr.out.step hbr).at_ hx
    have hjn : (j : Int) < n := by omega
    obtain ⟨m, hm⟩ : ∃ m, m = x.length := ⟨_, rfl⟩
    have hss := startS_succ hx
    rw [← hm] at c0 hss
    by_cases hgt : q > m
    · have hjk : j < k := by
        rcases Nat.lt_or_ge j k with h1 | h1
        · exact h1
        · have : j = k := by omega
          subst this
          rw [hx] at hy
          injection hy with hy
          subst hy
          have := hs.out
          omega
      have hgi : (q : Int) > m := by omega
      obtain ⟨u, hu⟩ : ∃ u, u + m = q := ⟨q - m, by omega⟩
      have hui : (q : Int) - m = u := by omega
      obtain ⟨v, hv⟩ : ∃ v, v + 1 = u := ⟨u - 1, by omega⟩
      have hvi : (u : Int) - 1 = v := by omega
      have Hs := hid (show startS ls (j + 1) + v = p by have := hs.out; omega)
      have hvp : v ≤ p := by omega
      have hub : (u : Int) ≤ 1073741824 := by omega
      clear hss hx hm hu hv hrow hgt hy hy1 hy2
      repeat' (first | (with_reducible refine Keep.last ?_) | (with_reducible refine Keep.below (by assumption) ?_) | (with_reducible refine Keep.kept (by assumption) ?_) | (with_reducible refine Keep.alloc ?_) | (with_reducible refine Keep.same ?_) | ((with_reducible refine WpH.here ?_); first | (refine WpH.nil ?_; refine NoP.normal ?_) | (refine WpH.load (by rfl) (by rfl) (by go_simp; rfl) ?_; simp only [Act.put, List.setIfInBounds_toArray, List.set_cons_zero, List.set_cons_succ]) | (refine WpH.loadT (by rfl) (by rfl) (by go_simp; rfl) (by rintro _ _ ⟨⟩; exact ⟨_, _, _, _, _, _, by rfl, by assumption, by assumption⟩) ?_; simp only [Act.put, List.setIfInBounds_toArray, List.set_cons_zero, List.set_cons_succ]) | (refine WpH.pure (by rfl) (fun w_ => by go_simp; (try go_bits); rfl) ?_; simp only [Act.put, List.setIfInBounds_toArray, List.set_cons_zero, List.set_cons_succ]) | (refine WpH.wild1 (by rfl) (fun _ _ => ?_)) | (refine WpH.skip (by rfl) ?_; simp only [Act.put, List.setIfInBounds_toArray, List.set_cons_zero, List.set_cons_succ])) | go_values | go_skip | go_guarded | go_step | go_upon | go_back)
      skip
      go_roundw
      case rel => exact ⟨j + 1, v, by go_num, rfl, Hs, by omega, hvp, hbr⟩
      case measure => simp [intOf]; omega
    · have hgi : ¬ (q : Int) > m := by omega
      have hjk : j = k := by
        refine IsWhere.same (p := p) ⟨x, hx, ?_, ?_⟩ Hw.out
        · have := hs.out; omega
        · have := hs.out; omega
      have Hjk := hid hjk
      clear hss hx hm hrow hgt hy hy1 hy2 hjk
      repeat' (first | (with_reducible refine Keep.last ?_) | (with_reducible refine Keep.below (by assumption) ?_) | (with_reducible refine Keep.kept (by assumption) ?_) | (with_reducible refine Keep.alloc ?_) | (with_reducible refine Keep.same ?_) | ((with_reducible refine WpH.here ?_); first | (refine WpH.nil ?_; refine NoP.normal ?_) | (refine WpH.load (by rfl) (by rfl) (by go_simp; rfl) ?_; simp only [Act.put, List.setIfInBounds_toArray, List.set_cons_zero, List.set_cons_succ]) | (refine WpH.loadT (by rfl) (by rfl) (by go_simp; rfl) (by rintro _ _ ⟨⟩; exact ⟨_, _, _, _, _, _, by rfl, by assumption, by assumption⟩) ?_; simp only [Act.put, List.setIfInBounds_toArray, List.set_cons_zero, List.set_cons_succ]) | (refine WpH.pure (by rfl) (fun w_ => by go_simp; (try go_bits); rfl) ?_; simp only [Act.put, List.setIfInBounds_toArray, List.set_cons_zero, List.set_cons_succ]) | (refine WpH.wild1 (by rfl) (fun _ _ => ?_)) | (refine WpH.skip (by rfl) ?_; simp only [Act.put, List.setIfInBounds_toArray, List.set_cons_zero, List.set_cons_succ])) | go_values | go_skip | go_guarded | go_step | go_upon | go_back)
      skip
      go_ret2
      rw [Hjk.out]
      exact ⟨⟨q, by rw [← Hjk.out]; exact hs.out, rfl⟩, hbr⟩
end Go.Proofs.YtfihjajllfihjaaDoor
