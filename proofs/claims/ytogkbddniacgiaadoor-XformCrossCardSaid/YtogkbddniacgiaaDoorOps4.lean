/- Rows of operations, each behind the other: the walks of Cross, the program's and the document's. Conditions: the rows lie in memory, the numbers fit their kinds. -/
import Derived.Test.YtogkbddniacgiaaDoorOps3
namespace Go.Proofs.YtogkbddniacgiaaDoor
set_option linter.unusedSimpArgs false
set_option linter.unusedVariables false
open Go Go.RowKit
theorem crossIn_snoc (xs : List Opn) : ∀ (a b : Opn), crossIn (xs ++ [a]) b = ((crossIn xs b).1 ++ [Tof a (crossIn xs b).2], Tof (crossIn xs b).2 a) := by
  induction xs with
  | nil => intro a b; rfl
  | cons x xs ih =>
    intro a b
    simp only [List.cons_append, crossIn, ih]
theorem crossOf_snoc (bs : List Opn) : ∀ (xs : List Opn) (b : Opn), crossOf xs (bs ++ [b]) = ((crossIn (crossOf xs bs).1 b).1, (crossOf xs bs).2 ++ [(crossIn (crossOf xs bs).1 b).2]) := by
  induction bs with
  | nil => intro xs b; rfl
  | cons x bs ih =>
    intro xs b
    simp only [List.cons_append, crossOf, ih]
theorem crossIn_in (xs : List Opn) : ∀ (b : Opn), b.In → (∀ a ∈ xs, a.In) → (∀ a ∈ (crossIn xs b).1, a.In) ∧ (crossIn xs b).2.In := by
  induction xs with
  | nil => intro b hb _; exact ⟨fun a h => (by cases h), hb⟩
  | cons x xs ih =>
    intro b hb hx
    obtain ⟨h1, h2⟩ := ih (Tof b x) (Tof_in hb) (fun a h => hx a (List.mem_cons_of_mem _ h))
    refine ⟨fun a ha => ?_, h2⟩
    simp only [crossIn, List.mem_cons] at ha
    rcases ha with rfl | ha
    · exact Tof_in (hx x (List.mem_cons_self ..))
    · exact h1 a ha
theorem crossOf_in (bs : List Opn) : ∀ (xs : List Opn), (∀ b ∈ bs, b.In) → (∀ a ∈ xs, a.In) → (∀ a ∈ (crossOf xs bs).1, a.In) ∧ (∀ b ∈ (crossOf xs bs).2, b.In) := by
  induction bs with
  | nil => intro xs _ hx; exact ⟨hx, fun b h => (by cases h)⟩
  | cons b bs ih =>
    intro xs hb hx
    obtain ⟨g1, g2⟩ := crossIn_in xs b (hb b (List.mem_cons_self ..)) hx
    obtain ⟨h1, h2⟩ := ih (crossIn xs b).1 (fun x h => hb x (List.mem_cons_of_mem _ h)) g1
    refine ⟨h1, fun x hx => ?_⟩
    simp only [crossOf, List.mem_cons] at hx
    rcases hx with rfl | hx
    · exact g2
    · exact h2 x hx
/-- the left row while it is gone through with b: i of it are behind b -/
def leftAt (xs : List Opn) (b : Opn) (i : Nat) : List Opn := (crossIn (xs.take i) b).1 ++ xs.drop i
theorem leftAt_length (xs : List Opn) (b : Opn) (i : Nat) : (leftAt xs b i).length = xs.length := by
  unfold leftAt
  rw [List.length_append, crossIn_length, List.length_take, List.length_drop]
  omega
theorem leftAt_zero (xs : List Opn) (b : Opn) : leftAt xs b 0 = xs := rfl
theorem leftAt_end (xs : List Opn) (b : Opn) : leftAt xs b xs.length = (crossIn xs b).1 := by
  unfold leftAt
  simp
theorem leftAt_get {xs : List Opn} {b : Opn} {i : Nat} (hi : i < xs.length) : (leftAt xs b i)[i]? = xs[i]? := by
  unfold leftAt
  rw [List.getElem?_append_right (by rw [crossIn_length, List.length_take]; omega), crossIn_length, List.length_take, List.getElem?_drop]
  congr 1
  omega
theorem leftAt_succ {xs : List Opn} {b a : Opn} {i : Nat} (h : xs[i]? = some a) : leftAt xs b (i + 1) = (leftAt xs b i).set i (Tof a (crossIn (xs.take i) b).2) := by
  obtain ⟨hi, rfl⟩ := List.getElem?_eq_some_iff.1 h
  unfold leftAt
  rw [take_snoc_g h, crossIn_snoc, List.set_append_right _ _ (by rw [crossIn_length, List.length_take]; omega)]
  have e : i - (crossIn (List.take i xs) b).1.length = 0 := by rw [crossIn_length, List.length_take]; omega
  rw [e, List.drop_eq_getElem_cons hi, List.set_cons_zero, List.append_assoc]
  rfl
theorem bIn_succ {xs : List Opn} {b a : Opn} {i : Nat} (h : xs[i]? = some a) : (crossIn (xs.take (i + 1)) b).2 = Tof (crossIn (xs.take i) b).2 a := by
  rw [take_snoc_g h, crossIn_snoc]
/-- the right row: k of it are behind the left one, that in turn is gone through up to i -/
def rightAt (xs bs : List Opn) (k i : Nat) : List Opn := match bs[k]? with
  | some b => (crossOf xs (bs.take k)).2 ++ (crossIn ((crossOf xs (bs.take k)).1.take i) b).2 :: bs.drop (k + 1)
  | none => (crossOf xs bs).2
theorem rightAt_length (xs bs : List Opn) (k i : Nat) : (rightAt xs bs k i).length = bs.length := by
  unfold rightAt
  split
  · next b h =>
    obtain ⟨hk, _⟩ := List.getElem?_eq_some_iff.1 h
    rw [List.length_append, (crossOf_length _ _).2, List.length_take, List.length_cons, List.length_drop]
    omega
  · exact (crossOf_length _ _).2
theorem rightAt_zero (xs bs : List Opn) : rightAt xs bs 0 0 = bs := by
  unfold rightAt
  cases bs with
  | nil => rfl
  | cons b bs => rfl
theorem rightAt_get {xs bs : List Opn} {k i : Nat} {b : Opn} (h : bs[k]? = some b) : (rightAt xs bs k i)[k]? = some (crossIn ((crossOf xs (bs.take k)).1.take i) b).2 := by
  obtain ⟨hk, _⟩ := List.getElem?_eq_some_iff.1 h
  unfold rightAt
  rw [h]
  simp only
  have e : (crossOf xs (bs.take k)).2.length = k := by rw [(crossOf_length _ _).2, List.length_take]; omega
  rw [List.getElem?_append_right (by omega), e, Nat.sub_self]
  rfl
theorem rightAt_succ {xs bs : List Opn} {k i : Nat} {a b : Opn} (hb : bs[k]? = some b) (ha : (crossOf xs (bs.take k)).1[i]? = some a) :
    rightAt xs bs k (i + 1) = (rightAt xs bs k i).set k (Tof (crossIn ((crossOf xs (bs.take k)).1.take i) b).2 a) := by
  obtain ⟨hk, _⟩ := List.getElem?_eq_some_iff.1 hb
  unfold rightAt
  rw [hb]
  simp only
  have e : (crossOf xs (bs.take k)).2.length = k := by rw [(crossOf_length _ _).2, List.length_take]; omega
  rw [bIn_succ ha, List.set_append_right _ _ (by omega), e, Nat.sub_self, List.set_cons_zero]
theorem rightAt_next {xs bs : List Opn} {k : Nat} {b : Opn} (hb : bs[k]? = some b) : rightAt xs bs k xs.length = rightAt xs bs (k + 1) 0 := by
  obtain ⟨hk, _⟩ := List.getElem?_eq_some_iff.1 hb
  have e : (crossOf xs (bs.take k)).1.length = xs.length := (crossOf_length _ _).1
  have ht : (crossOf xs (bs.take k)).1.take xs.length = (crossOf xs (bs.take k)).1 := List.take_of_length_le (by omega)
  unfold rightAt
  rw [hb]
  simp only [ht]
  cases h : bs[k + 1]? with
  | none =>
    have hl : bs.length ≤ k + 1 := List.getElem?_eq_none_iff.1 h
    have h2 : bs = bs.take k ++ [b] := by rw [← take_snoc_g hb, List.take_of_length_le hl]
    simp only
    rw [List.drop_of_length_le hl]
    conv => rhs; rw [h2, crossOf_snoc]
  | some b' =>
    obtain ⟨hk', rfl⟩ := List.getElem?_eq_some_iff.1 h
    simp only [List.take_zero, crossIn]
    rw [take_snoc_g hb, crossOf_snoc, List.drop_eq_getElem_cons hk', List.append_assoc]
    rfl
theorem rightAt_end (xs bs : List Opn) : rightAt xs bs bs.length 0 = (crossOf xs bs).2 := by
  unfold rightAt
  simp
theorem crossLeft_next {xs bs : List Opn} {k : Nat} {b : Opn} (hb : bs[k]? = some b) : (crossOf xs (bs.take (k + 1))).1 = (crossIn (crossOf xs (bs.take k)).1 b).1 := by
  rw [take_snoc_g hb, crossOf_snoc]
/-- an operation of a row of the call's own: its cells, none of them frozen -/
theorem own_op {t : TypeId} {w : World} {base : Nat} {A : Option Addr} {n c i : Nat} {es : List Opn} (h : GOwn t w base A n c es) (hi : i < n) : ∃ g o, A = some ⟨g, 0, none⟩ ∧ es[i]? = some o ∧ base ≤ g ∧ g < w.heap.size ∧
    w.cell? ⟨g, i * 4, none⟩ = some (.int .i64 o.kind) ∧ w.cell? ⟨g, i * 4 + 1, none⟩ = some (.int .i64 o.at_) ∧ w.cell? ⟨g, i * 4 + 2, none⟩ = some (.int .i32 o.char) ∧ w.cell? ⟨g, i * 4 + 3, none⟩ = some (.int .i64 o.rep) ∧
    w.frozen? ⟨g, i * 4, none⟩ = false ∧ w.frozen? ⟨g, i * 4 + 1, none⟩ = false ∧ w.frozen? ⟨g, i * 4 + 2, none⟩ = false ∧ w.frozen? ⟨g, i * 4 + 3, none⟩ = false := by
  obtain ⟨g, cur, rfl, hb, hB, _⟩ := gown_at h (by omega)
  obtain ⟨b, off, o, h1, _, hl, ho, hc⟩ := (h.row (S := fun _ => True) fun _ _ _ => trivial).at_ hi
  injection h1 with h1
  injection h1 with h1 h2
  subst h1 h2
  have c0 := hc 0 _ rfl
  have c1 := hc 1 _ rfl
  have c2 := hc 2 _ rfl
  have c3 := hc 3 _ rfl
  have e : ∀ x, 0 + i * Enc.k Opn + x = i * 4 + x := fun x => by rw [Nat.zero_add]; rfl
  rw [e] at c0 c1 c2 c3
  exact ⟨g, o, rfl, ho, hb, hB.lt, c0, c1, c2, c3, hB.frozen _, hB.frozen _, hB.frozen _, hB.frozen _⟩
theorem own_op' {t : TypeId} {w : World} {base g n c i : Nat} {es : List Opn} {o : Opn} (h : GOwn t w base (some ⟨g, 0, none⟩) n c es) (hi : i < n) (ho : es[i]? = some o) : 
    w.cell? ⟨g, i * 4, none⟩ = some (.int .i64 o.kind) ∧ w.cell? ⟨g, i * 4 + 1, none⟩ = some (.int .i64 o.at_) ∧ w.cell? ⟨g, i * 4 + 2, none⟩ = some (.int .i32 o.char) ∧ w.cell? ⟨g, i * 4 + 3, none⟩ = some (.int .i64 o.rep) ∧
    w.frozen? ⟨g, i * 4, none⟩ = false ∧ w.frozen? ⟨g, i * 4 + 1, none⟩ = false ∧ w.frozen? ⟨g, i * 4 + 2, none⟩ = false ∧ w.frozen? ⟨g, i * 4 + 3, none⟩ = false ∧ base ≤ g ∧ g < w.heap.size := by
  obtain ⟨g', o', h1, h2, h3, h4, h5⟩ := own_op h hi
  injection h1 with h1
  injection h1 with h1
  subst h1
  obtain rfl : o' = o := Option.some.inj (h2.symm.trans ho)
  obtain ⟨c0, c1, c2, c3, f0, f1, f2, f3⟩ := h5
  exact ⟨c0, c1, c2, c3, f0, f1, f2, f3, h3, h4⟩
theorem GOwn.drew {α : Type} [Enc α] {t : TypeId} {w : World} {base : Nat} {A : Option Addr} {n c : Nat} {es : List α} (h : GOwn t w base A n c es) : GOwn t w.drew base A n c es := h.keep (Same.drew (fun _ => True) _) fun _ _ => trivial
theorem set4_same {w : World} {g : Nat} {a b c d : Nat} {x y z u : Value} : Same (fun k => k ≠ g) w ((((w.setCell ⟨g, a, none⟩ x).setCell ⟨g, b, none⟩ y).setCell ⟨g, c, none⟩ z).setCell ⟨g, d, none⟩ u) := fun k hk _ =>
  (((Below.heap_setCell _ _ _ _ hk).trans (Below.heap_setCell _ _ _ _ hk)).trans (Below.heap_setCell _ _ _ _ hk)).trans (Below.heap_setCell _ _ _ _ hk)
theorem set4_size {w : World} {g : Nat} {a b c d : Nat} {x y z u : Value} : ((((w.setCell ⟨g, a, none⟩ x).setCell ⟨g, b, none⟩ y).setCell ⟨g, c, none⟩ z).setCell ⟨g, d, none⟩ u).heap.size = w.heap.size := by simp [size_setCell]
set_option maxRecDepth 50000 in
set_option maxHeartbeats 4000000 in
theorem cross_apart (w : World) (A0 B0 : Option Addr) (n c m d : Nat) (xs bs : List Opn) (hx : GRow w (fun b => b < w.heap.size) A0 n c xs) (hb : GRow w (fun b => b < w.heap.size) B0 m d bs) (hn : n ≤ 1000) (hm : m ≤ 1000) (ix : ∀ o ∈ xs, o.In) (ib : ∀ o ∈ bs, o.In) :
    Calls Tryd.prog 49 #[.slice A0 n c, .slice B0 m d] w fun e w' => ∃ A c' B d', e = .returned (.tuple #[.slice A n c', .slice B m d']) ∧ GOwn 58 w' w.heap.size A n c' (crossOf xs bs).1 ∧ GOwn 58 w' w.heap.size B m d' (crossOf xs bs).2 ∧ (∀ a b, A = some a → B = some b → a.block ≠ b.block) ∧ Below w.heap.size w w' := by
  have Hx := hid hx
  have Hb := hid hb
  have Ix := hid ix
  have Ib := hid ib
  have hxl := hx.1
  have hbl := hb.1
  clear hx hb ix ib
  go_enter Tryd.func49, Tryd.ntmps49
  repeat' (first | ((with_reducible refine app_ops_here ?_); first | (refine wp_append_ops w.heap.size none A0 0 0 n c [] xs (fun b => b < w.heap.size) (by rfl) (by rfl) (GOwn.nil _ _ _) Hx.out (Nat.le_refl _) (by omega) ?_; intro A c' w1 hA hb1 hsm1 hat1 hz1) | (refine wp_append_ops w1.heap.size none B0 0 0 m d [] bs (fun b => b < w.heap.size) (by rfl) (by rfl) (GOwn.nil _ _ _) (Hb.out.step hb1) (Nat.le_refl _) (by omega) ?_; intro B d' w2 hB hb2 hsm2 hat2 hz2)) | (with_reducible refine Keep.last ?_) | (with_reducible refine Keep.below (by assumption) ?_) | (with_reducible refine Keep.kept (by assumption) ?_) | (with_reducible refine Keep.alloc ?_) | (with_reducible refine Keep.same ?_) | ((with_reducible refine WpH.here ?_); first | (refine WpH.nil ?_; refine NoP.normal ?_) | (refine WpH.load (by rfl) (by rfl) (by go_simp; rfl) ?_; simp only [Act.put, List.setIfInBounds_toArray, List.set_cons_zero, List.set_cons_succ]) | (refine WpH.loadT (by rfl) (by rfl) (by go_simp; rfl) (by rintro _ _ ⟨⟩; exact ⟨_, _, _, _, _, _, by rfl, by assumption, by assumption⟩) ?_; simp only [Act.put, List.setIfInBounds_toArray, List.set_cons_zero, List.set_cons_succ]) | (refine WpH.pure (by rfl) (fun w_ => by go_simp; (try go_bits); rfl) ?_; simp only [Act.put, List.setIfInBounds_toArray, List.set_cons_zero, List.set_cons_succ]) | (refine WpH.wild1 (by rfl) (fun _ _ => ?_)) | (refine WpH.skip (by rfl) ?_; simp only [Act.put, List.setIfInBounds_toArray, List.set_cons_zero, List.set_cons_succ])) | go_values | go_skip | go_guarded | go_step | go_upon | go_back)
  rw [Nat.zero_add, List.nil_append] at hA hB
  have hA2 := hA.step hb2
  have hbb := bvia hb1 hb2
  have HT := hid (fun x y W (h : Opn.In x) => T_any x y W h)
  unfold Opn.agg at HT
  -- the two rows lie apart
  have Hap := hid (show ∀ a b, A = some a → B = some b → a.block < w1.heap.size ∧ w1.heap.size ≤ b.block from fun a b ha hb => ⟨(hA.block a ha).2, (hB.block b hb).1⟩)
  clear hA hsm1 hat1 hsm2 hat2 Hx Hb hb2
  go_loopw [17] (fun i wr => ∃ k : Nat, i = .int .i64 k ∧ k ≤ m ∧ GOwn 58 wr w.heap.size A n c' (crossOf xs (bs.take k)).1 ∧ GOwn 58 wr w1.heap.size B m d' (rightAt xs bs k 0) ∧ Below w.heap.size w wr ∧ w1.heap.size ≤ wr.heap.size) (fun i _ => m - (intOf i).toNat)
  case atStart => exact ⟨0, rfl, Nat.zero_le _, hA2, by rw [rightAt_zero]; exact hB, hbb, hz2⟩
  case round =>
    obtain ⟨k, rfl, hk, gA, gB, hbr, hzr⟩ := hrel
    by_cases hlt : k < m
    · obtain ⟨b, hbk⟩ : ∃ b, bs[k]? = some b := ⟨bs[k], List.getElem?_eq_getElem (by omega)⟩
      repeat' (first | (with_reducible refine Keep.last ?_) | (with_reducible refine Keep.below (by assumption) ?_) | (with_reducible refine Keep.kept (by assumption) ?_) | (with_reducible refine Keep.alloc ?_) | (with_reducible refine Keep.same ?_) | ((with_reducible refine WpH.here ?_); first | (refine WpH.nil ?_; refine NoP.normal ?_) | (refine WpH.load (by rfl) (by rfl) (by go_simp; rfl) ?_; simp only [Act.put, List.setIfInBounds_toArray, List.set_cons_zero, List.set_cons_succ]) | (refine WpH.loadT (by rfl) (by rfl) (by go_simp; rfl) (by rintro _ _ ⟨⟩; exact ⟨_, _, _, _, _, _, by rfl, by assumption, by assumption⟩) ?_; simp only [Act.put, List.setIfInBounds_toArray, List.set_cons_zero, List.set_cons_succ]) | (refine WpH.pure (by rfl) (fun w_ => by go_simp; (try go_bits); rfl) ?_; simp only [Act.put, List.setIfInBounds_toArray, List.set_cons_zero, List.set_cons_succ]) | (refine WpH.wild1 (by rfl) (fun _ _ => ?_)) | (refine WpH.skip (by rfl) ?_; simp only [Act.put, List.setIfInBounds_toArray, List.set_cons_zero, List.set_cons_succ])) | go_values | go_skip | go_guarded | go_step | go_upon | go_back)
      have hL : (crossOf xs (bs.take k)).1.length = n := by rw [(crossOf_length _ _).1, hxl]
      go_loopw [22] (fun i wq => ∃ j : Nat, i = .int .i64 j ∧ j ≤ n ∧ GOwn 58 wq w.heap.size A n c' (leftAt (crossOf xs (bs.take k)).1 b j) ∧ GOwn 58 wq w1.heap.size B m d' (rightAt xs bs k j) ∧ Below w.heap.size w wq ∧ w1.heap.size ≤ wq.heap.size) (fun i _ => n - (intOf i).toNat)
      case atStart => exact ⟨0, rfl, Nat.zero_le _, by rw [leftAt_zero]; exact gA, gB, hbr, hzr⟩
      case round =>
        obtain ⟨j, rfl, hj, qA, qB, hbq, hzq⟩ := hrel
        by_cases hlj : j < n
        · obtain ⟨g, o, hAe, ho, hg1, hg2, a0, a1, a2, a3, f0, f1, f2, f3⟩ := own_op qA hlj
          obtain ⟨h, p, hBe, hp, hh1, hh2, b0, b1, b2, b3, e0, e1, e2, e3⟩ := own_op qB hlt
          rw [leftAt_get (by omega)] at ho
          rw [rightAt_get hbk] at hp
          clear hp
          subst hAe hBe
          have hgh : g < h := Nat.lt_of_lt_of_le (Hap.out _ _ rfl rfl).1 (Hap.out _ _ rfl rfl).2
          repeat' (first | (with_reducible refine stop_region 9 ?_) | (with_reducible refine Keep.last ?_) | (with_reducible refine Keep.below (by assumption) ?_) | (with_reducible refine Keep.kept (by assumption) ?_) | (with_reducible refine Keep.alloc ?_) | (with_reducible refine Keep.same ?_) | ((with_reducible refine WpH.here ?_); first | (refine WpH.nil ?_; refine NoP.normal ?_) | (refine WpH.load (by rfl) (by rfl) (by go_simp; rfl) ?_; simp only [Act.put, List.setIfInBounds_toArray, List.set_cons_zero, List.set_cons_succ]) | (refine WpH.loadT (by rfl) (by rfl) (by go_simp; rfl) (by rintro _ _ ⟨⟩; exact ⟨_, _, _, _, _, _, by rfl, by assumption, by assumption⟩) ?_; simp only [Act.put, List.setIfInBounds_toArray, List.set_cons_zero, List.set_cons_succ]) | (refine WpH.pure (by rfl) (fun w_ => by go_simp; (try go_bits); rfl) ?_; simp only [Act.put, List.setIfInBounds_toArray, List.set_cons_zero, List.set_cons_succ]) | (refine WpH.wild1 (by rfl) (fun _ _ => ?_)) | (refine WpH.skip (by rfl) ?_; simp only [Act.put, List.setIfInBounds_toArray, List.set_cons_zero, List.set_cons_succ])) | go_values | go_skip | go_guarded | go_step | go_upon | go_back)
          refine Stop.go ?_
          generalize hp' : (crossIn (List.take j (crossOf xs (List.take k bs)).1) b).2 = p at *
          obtain ⟨io, ip⟩ : o.In ∧ p.In := by
            have hc := crossOf_in (bs.take k) xs (fun x h => Ib.out x (List.mem_of_mem_take h)) Ix.out
            refine ⟨hc.1 o (List.mem_of_getElem? ho), ?_⟩
            rw [← hp']
            exact (crossIn_in _ b (Ib.out b (List.mem_of_getElem? hbk)) (fun x h => hc.1 x (List.mem_of_mem_take h))).2
          have eX : Below wr.heap.size wr (wr.alloc (.cells #[.int .i64 o.kind, .int .i64 o.at_, .int .i32 o.char, .int .i64 o.rep] 58)) := balloc (Below.refl _ _)
          have gX := Blk.new wr 58 #[.int .i64 o.kind, .int .i64 o.at_, .int .i32 o.char, .int .i64 o.rep]
          have xA := qA.step eX
          have xB := qB.step eX
          have hbX := bvia hbq eX
          have hzX := Nat.le_trans hzq eX.size
          have HTk := hid (fun W => HT.out o p W io)
          have HTl := hid (fun W => HT.out p o W ip)
          clear a0 a1 a2 a3 f0 f1 f2 f3 b0 b1 b2 b3 e0 e1 e2 e3
          generalize wr.alloc (.cells #[.int .i64 o.kind, .int .i64 o.at_, .int .i32 o.char, .int .i64 o.rep] 58) = X at *
          obtain ⟨b0, b1, b2, b3, -, -, -, -, hh1, hh2⟩ := own_op' xB hlt (rightAt_get hbk)
          rw [hp'] at b0 b1 b2 b3
          obtain ⟨x0, x1, x2, x3, -, -, -, -, xl⟩ := Blk.four gX
          repeat' (first | ((with_reducible refine region_at 9 ?_); refine wp_region_order [(0, true, false), (1, true, false), (2, true, false), (3, true, false), (4, true, false), (5, true, false), (6, true, false), (7, false, false), (8, true, false), (9, false, true)] (by kernel_rfl) (by kernel_rfl) (by kernel_rfl) rfl rfl ?_) | (go_at_call 30; go_must ((with_reducible refine Calls.mono (HTk.out _) ?_); rintro _ w3 ⟨rfl, hb3⟩; have yA := xA.drew.step hb3; have yB := xB.drew.step hb3; have yX := gX.drew.step hb3; obtain ⟨a0, a1, a2, a3, f0, f1, f2, f3, gg1, gg2⟩ := own_op' yA hlj (by rw [leftAt_get (by omega)]; exact ho); dsimp only)) | (with_reducible refine stop_region 10 ?_) | (with_reducible refine Keep.last ?_) | (with_reducible refine Keep.below (by assumption) ?_) | (with_reducible refine Keep.kept (by assumption) ?_) | (with_reducible refine Keep.alloc ?_) | (with_reducible refine Keep.same ?_) | ((with_reducible refine WpH.here ?_); first | (refine WpH.nil ?_; refine NoP.normal ?_) | (refine WpH.load (by rfl) (by rfl) (by go_simp; rfl) ?_; simp only [Act.put, List.setIfInBounds_toArray, List.set_cons_zero, List.set_cons_succ]) | (refine WpH.loadT (by rfl) (by rfl) (by go_simp; rfl) (by rintro _ _ ⟨⟩; exact ⟨_, _, _, _, _, _, by rfl, by assumption, by assumption⟩) ?_; simp only [Act.put, List.setIfInBounds_toArray, List.set_cons_zero, List.set_cons_succ]) | (refine WpH.pure (by rfl) (fun w_ => by go_simp; (try go_bits); rfl) ?_; simp only [Act.put, List.setIfInBounds_toArray, List.set_cons_zero, List.set_cons_succ]) | (refine WpH.wild1 (by rfl) (fun _ _ => ?_)) | (refine WpH.skip (by rfl) ?_; simp only [Act.put, List.setIfInBounds_toArray, List.set_cons_zero, List.set_cons_succ])) | go_values | go_skip | go_guarded | go_step | go_upon | go_back)
          refine Stop.go ?_
          have zA := yA.set4 (Tof o p) hlj
          have zB := yB.keep (set4_same (w := w3) (g := g) (a := j * 4) (b := j * 4 + 1) (c := j * 4 + 2) (d := j * 4 + 3) (x := .int .i64 (Tof o p).kind) (y := .int .i64 (Tof o p).at_) (z := .int .i32 (Tof o p).char) (u := .int .i64 (Tof o p).rep)) (fun a ha => by injection ha with ha; rw [← ha]; exact Ne.symm (Nat.ne_of_lt hgh))
          have zX := yX.keepS (set4_same (w := w3) (g := g) (a := j * 4) (b := j * 4 + 1) (c := j * 4 + 2) (d := j * 4 + 3) (x := .int .i64 (Tof o p).kind) (y := .int .i64 (Tof o p).at_) (z := .int .i32 (Tof o p).char) (u := .int .i64 (Tof o p).rep)) (Ne.symm (Nat.ne_of_lt hg2))
          have hbS : Below w.heap.size w ((((w3.setCell ⟨g, j * 4, none⟩ (.int .i64 (Tof o p).kind)).setCell ⟨g, j * 4 + 1, none⟩ (.int .i64 (Tof o p).at_)).setCell ⟨g, j * 4 + 2, none⟩ (.int .i32 (Tof o p).char)).setCell ⟨g, j * 4 + 3, none⟩ (.int .i64 (Tof o p).rep)) := by (repeat' (first | (with_reducible exact Below.refl _ _) | (with_reducible assumption) | (with_reducible refine balloc ?_) | (with_reducible refine bdrew ?_) | (with_reducible refine bset ?_ (by (try dsimp only); omega)) | (with_reducible refine bvia ?_ (by assumption))))
          have hzS : w1.heap.size ≤ ((((w3.setCell ⟨g, j * 4, none⟩ (.int .i64 (Tof o p).kind)).setCell ⟨g, j * 4 + 1, none⟩ (.int .i64 (Tof o p).at_)).setCell ⟨g, j * 4 + 2, none⟩ (.int .i32 (Tof o p).char)).setCell ⟨g, j * 4 + 3, none⟩ (.int .i64 (Tof o p).rep)).heap.size := by rw [set4_size]; exact Nat.le_trans hzX hb3.size
          rw [← hp', ← leftAt_succ ho] at zA
          rw [hp'] at zA
          clear a0 a1 a2 a3 f0 f1 f2 f3 b0 b1 b2 b3 x0 x1 x2 x3 yA yB yX xA xB gX
          generalize (((w3.setCell ⟨g, j * 4, none⟩ (.int .i64 (Tof o p).kind)).setCell ⟨g, j * 4 + 1, none⟩ (.int .i64 (Tof o p).at_)).setCell ⟨g, j * 4 + 2, none⟩ (.int .i32 (Tof o p).char)).setCell ⟨g, j * 4 + 3, none⟩ (.int .i64 (Tof o p).rep) = V at *
          obtain ⟨b0, b1, b2, b3, -, -, -, -, hv1, hv2⟩ := own_op' zB hlt (rightAt_get hbk)
          rw [hp'] at b0 b1 b2 b3
          obtain ⟨x0, x1, x2, x3, -, -, -, -, xl'⟩ := Blk.four zX
          repeat' (first | ((with_reducible refine region_at 10 ?_); refine wp_region_order [(0, true, false), (1, true, false), (2, true, false), (3, true, false), (4, true, false), (5, true, false), (6, true, false), (7, false, false), (8, true, false), (9, false, true)] (by kernel_rfl) (by kernel_rfl) (by kernel_rfl) rfl rfl ?_) | (go_at_call 30; go_must ((with_reducible refine Calls.mono (HTl.out _) ?_); rintro _ w4 ⟨rfl, hb4⟩; have uA := zA.drew.step hb4; have uB := zB.drew.step hb4; obtain ⟨a0, a1, a2, a3, f0, f1, f2, f3, gg3, gg4⟩ := own_op' uB hlt (rightAt_get hbk); dsimp only)) | (with_reducible refine Keep.last ?_) | (with_reducible refine Keep.below (by assumption) ?_) | (with_reducible refine Keep.kept (by assumption) ?_) | (with_reducible refine Keep.alloc ?_) | (with_reducible refine Keep.same ?_) | ((with_reducible refine WpH.here ?_); first | (refine WpH.nil ?_; refine NoP.normal ?_) | (refine WpH.load (by rfl) (by rfl) (by go_simp; rfl) ?_; simp only [Act.put, List.setIfInBounds_toArray, List.set_cons_zero, List.set_cons_succ]) | (refine WpH.loadT (by rfl) (by rfl) (by go_simp; rfl) (by rintro _ _ ⟨⟩; exact ⟨_, _, _, _, _, _, by rfl, by assumption, by assumption⟩) ?_; simp only [Act.put, List.setIfInBounds_toArray, List.set_cons_zero, List.set_cons_succ]) | (refine WpH.pure (by rfl) (fun w_ => by go_simp; (try go_bits); rfl) ?_; simp only [Act.put, List.setIfInBounds_toArray, List.set_cons_zero, List.set_cons_succ]) | (refine WpH.wild1 (by rfl) (fun _ _ => ?_)) | (refine WpH.skip (by rfl) ?_; simp only [Act.put, List.setIfInBounds_toArray, List.set_cons_zero, List.set_cons_succ])) | go_values | go_skip | go_guarded | go_step | go_upon | go_back)
          have vA := uA.keep (set4_same (w := w4) (g := h) (a := k * 4) (b := k * 4 + 1) (c := k * 4 + 2) (d := k * 4 + 3) (x := .int .i64 (Tof p o).kind) (y := .int .i64 (Tof p o).at_) (z := .int .i32 (Tof p o).char) (u := .int .i64 (Tof p o).rep)) (fun a ha => by injection ha with ha; rw [← ha]; exact Nat.ne_of_lt hgh)
          have vB := uB.set4 (Tof p o) hlt
          rw [← hp', ← rightAt_succ hbk ho] at vB
          rw [hp'] at vB
          refine ⟨⟨j + 1, by go_num, by omega, vA, vB, by (repeat' (first | (with_reducible exact Below.refl _ _) | (with_reducible assumption) | (with_reducible refine balloc ?_) | (with_reducible refine bdrew ?_) | (with_reducible refine bset ?_ (by (try dsimp only); omega)) | (with_reducible refine bvia ?_ (by assumption)))), ?_⟩, by simp [intOf]; omega⟩
          rw [set4_size]
          exact Nat.le_trans hzS hb4.size
        · obtain rfl : j = n := by omega
          have hle := leftAt_end (crossOf xs (bs.take k)).1 b
          rw [hL] at hle
          rw [hle, ← crossLeft_next hbk] at qA
          have hre := rightAt_next (xs := xs) hbk
          rw [hxl] at hre
          rw [hre] at qB
          repeat' (first | (with_reducible refine Keep.last ?_) | (with_reducible refine Keep.below (by assumption) ?_) | (with_reducible refine Keep.kept (by assumption) ?_) | (with_reducible refine Keep.alloc ?_) | (with_reducible refine Keep.same ?_) | ((with_reducible refine WpH.here ?_); first | (refine WpH.nil ?_; refine NoP.normal ?_) | (refine WpH.load (by rfl) (by rfl) (by go_simp; rfl) ?_; simp only [Act.put, List.setIfInBounds_toArray, List.set_cons_zero, List.set_cons_succ]) | (refine WpH.loadT (by rfl) (by rfl) (by go_simp; rfl) (by rintro _ _ ⟨⟩; exact ⟨_, _, _, _, _, _, by rfl, by assumption, by assumption⟩) ?_; simp only [Act.put, List.setIfInBounds_toArray, List.set_cons_zero, List.set_cons_succ]) | (refine WpH.pure (by rfl) (fun w_ => by go_simp; (try go_bits); rfl) ?_; simp only [Act.put, List.setIfInBounds_toArray, List.set_cons_zero, List.set_cons_succ]) | (refine WpH.wild1 (by rfl) (fun _ _ => ?_)) | (refine WpH.skip (by rfl) ?_; simp only [Act.put, List.setIfInBounds_toArray, List.set_cons_zero, List.set_cons_succ])) | go_values | go_skip | go_guarded | go_step | go_upon | go_back)
          exact ⟨⟨k + 1, by go_num, by omega, qA, qB, hbq, hzq⟩, by simp [intOf]; omega⟩
    · obtain rfl : k = m := by omega
      have ht : bs.take k = bs := List.take_of_length_le (by omega)
      have hre := rightAt_end xs bs
      rw [hbl] at hre
      rw [ht] at gA
      rw [hre] at gB
      repeat' (first | (with_reducible refine Keep.last ?_) | (with_reducible refine Keep.below (by assumption) ?_) | (with_reducible refine Keep.kept (by assumption) ?_) | (with_reducible refine Keep.alloc ?_) | (with_reducible refine Keep.same ?_) | ((with_reducible refine WpH.here ?_); first | (refine WpH.nil ?_; refine NoP.normal ?_) | (refine WpH.load (by rfl) (by rfl) (by go_simp; rfl) ?_; simp only [Act.put, List.setIfInBounds_toArray, List.set_cons_zero, List.set_cons_succ]) | (refine WpH.loadT (by rfl) (by rfl) (by go_simp; rfl) (by rintro _ _ ⟨⟩; exact ⟨_, _, _, _, _, _, by rfl, by assumption, by assumption⟩) ?_; simp only [Act.put, List.setIfInBounds_toArray, List.set_cons_zero, List.set_cons_succ]) | (refine WpH.pure (by rfl) (fun w_ => by go_simp; (try go_bits); rfl) ?_; simp only [Act.put, List.setIfInBounds_toArray, List.set_cons_zero, List.set_cons_succ]) | (refine WpH.wild1 (by rfl) (fun _ _ => ?_)) | (refine WpH.skip (by rfl) ?_; simp only [Act.put, List.setIfInBounds_toArray, List.set_cons_zero, List.set_cons_succ])) | go_values | go_skip | go_guarded | go_step | go_upon | go_back)
      go_ret2
      exact ⟨A, c', B, d', rfl, gA, gB.mono hb1.size, fun a b ha hb e => (by have := Hap.out a b ha hb; omega), hbr⟩
theorem cross_any (w : World) (A0 B0 : Option Addr) (n c m d : Nat) (xs bs : List Opn) (hx : GRow w (fun b => b < w.heap.size) A0 n c xs) (hb : GRow w (fun b => b < w.heap.size) B0 m d bs) (hn : n ≤ 1000) (hm : m ≤ 1000) (ix : ∀ o ∈ xs, o.In) (ib : ∀ o ∈ bs, o.In) :
    Calls Tryd.prog 49 #[.slice A0 n c, .slice B0 m d] w fun e w' => ∃ A c' B d', e = .returned (.tuple #[.slice A n c', .slice B m d']) ∧ GOwn 58 w' w.heap.size A n c' (crossOf xs bs).1 ∧ GOwn 58 w' w.heap.size B m d' (crossOf xs bs).2 ∧ Below w.heap.size w w' :=
  (cross_apart w A0 B0 n c m d xs bs hx hb hn hm ix ib).mono fun e w' ⟨A, c', B, d', h1, h2, h3, _, h4⟩ => ⟨A, c', B, d', h1, h2, h3, h4⟩
end Go.Proofs.YtogkbddniacgiaaDoor
