/- Rows of operations: appended to, written in; the walks of Back, Swap, Along, Cross and of the document's. Conditions: the rows lie in memory, the numbers fit their kinds. Rows of operations: the walks of Swap, Along, Cross and of the document's. Conditions: the rows lie in memory, the numbers fit their kinds. -/
import Derived.Test.YtogkbddniacgiaaDoorLaw7a
namespace Go.Proofs.YtogkbddniacgiaaDoor
set_option linter.unusedSimpArgs false
set_option linter.unusedVariables false
open Go Go.RowKit
theorem Tryd.infoOp : (Tryd.prog.info? 58).map (fun i => (i.zero, i.size, i.bytes)) = some (some (.agg #[.int .i64 0, .int .i64 0, .int .i32 0, .int .i64 0]), 4, 32) := by kernel_rfl
theorem wp_append_ops {ac : Act} {K : Act → World → Prop} {Q : Exit → Act → World → Prop} {w : World} {dst : Option Tmp} {s x : Operand} {ty : TypeId} {pos : String} {after : Array Edge} {guard : Option (Nat × Bool)}
    (base : Nat) (A B : Option Addr) (n c m d : Nat) (es fs : List Opn) (S : Nat → Prop) (hs : ac.eval s = .slice A n c) (hx : ac.eval x = .slice B m d) (hown : GOwn 58 w base A n c es) (hrow : GRow w S B m d fs) (hb : base ≤ w.heap.size) (hbd : n + m ≤ 1099511627776)
    (h : ∀ A' c' w', GOwn 58 w' base A' (n + m) c' (es ++ fs) → Below base w w' → Same (fun k => ∀ g, A = some g → g.block ≠ k) w w' → (A' = A ∨ ∃ g, A' = some ⟨g, 0, none⟩ ∧ w.heap.size ≤ g) → w.heap.size ≤ w'.heap.size → K (ac.put dst (.slice A' (n + m) c')) w') :
    Oper.wp Tryd.prog ⟨dst, .call ⟨.builtin .append, #[s, x], #[56, 56]⟩, ty, pos, after, guard⟩ ac w K Q :=
  wp_append_g (α := Opn) 56 58 _ 32 Tryd.underlying56 Tryd.infoOp rfl (by decide) (by decide) (by decide) base A B n c m d es fs S hs hx hown hrow hb hbd h
theorem app_ops_here {ac : Act} {K : Act → World → Prop} {Q : Exit → Act → World → Prop} {w : World} {dst : Option Tmp} {s x : Operand} {ty : TypeId} {pos : String} {after : Array Edge} {guard : Option (Nat × Bool)}
    (h : Oper.wp Tryd.prog ⟨dst, .call ⟨.builtin .append, #[s, x], #[56, 56]⟩, ty, pos, after, guard⟩ ac w K Q) : Oper.wp Tryd.prog ⟨dst, .call ⟨.builtin .append, #[s, x], #[56, 56]⟩, ty, pos, after, guard⟩ ac w K Q := h
theorem gcells_set4 (es : List Opn) (i : Nat) (e : Opn) (hi : i < es.length) : gcells (es.set i e) = ((((gcells es).set (i * 4) (.int .i64 e.kind)).set (i * 4 + 1) (.int .i64 e.at_)).set (i * 4 + 2) (.int .i32 e.char)).set (i * 4 + 3) (.int .i64 e.rep) := by
  induction es generalizing i with
  | nil => simp at hi
  | cons x es ih =>
    cases i with
    | zero =>
      simp only [List.set_cons_zero, gcells_cons, Enc.cells, Nat.zero_mul, Nat.zero_add, List.cons_append, List.nil_append]
      rfl
    | succ i =>
      have hi' : i < es.length := by simpa using hi
      simp only [List.set_cons_succ, gcells_cons]
      rw [ih i hi']
      simp only [Enc.cells, List.cons_append, List.nil_append]
      rw [show (i + 1) * 4 = i * 4 + 1 + 1 + 1 + 1 from by omega]
      rw [show i * 4 + 1 + 1 + 1 + 1 + 1 = (i * 4 + 1) + 1 + 1 + 1 + 1 from by omega, show i * 4 + 1 + 1 + 1 + 1 + 2 = (i * 4 + 2) + 1 + 1 + 1 + 1 from by omega, show i * 4 + 1 + 1 + 1 + 1 + 3 = (i * 4 + 3) + 1 + 1 + 1 + 1 from by omega]
      simp only [List.set_cons_succ]
theorem gown_at {α : Type} [Enc α] {t : TypeId} {w : World} {base : Nat} {A : Option Addr} {n c : Nat} {es : List α} (h : GOwn t w base A n c es) (hn : 0 < n) : ∃ g cur, A = some ⟨g, 0, none⟩ ∧ base ≤ g ∧ Blk w g t cur ∧ cur.size = c * Enc.k α ∧ n ≤ c ∧ cur.toList.take (n * Enc.k α) = gcells es := by
  rcases h.2.2 with ⟨_, h0⟩ | ⟨g, cap, cur, e, hbg, hh, h1, h2, h3, h4⟩
  · omega
  · injection e with e1 e2 e3
    subst e3
    exact ⟨g, cur, e1, hbg, hh, h3, h1, h4⟩
/-- a slice of the call's own, an operation of it written -/
theorem GOwn.set4 {w : World} {base g n c i : Nat} {es : List Opn} {t : TypeId} (h : GOwn t w base (some ⟨g, 0, none⟩) n c es) (e : Opn) (hi : i < n) :
    GOwn t ((((w.setCell ⟨g, i * 4, none⟩ (.int .i64 e.kind)).setCell ⟨g, i * 4 + 1, none⟩ (.int .i64 e.at_)).setCell ⟨g, i * 4 + 2, none⟩ (.int .i32 e.char)).setCell ⟨g, i * 4 + 3, none⟩ (.int .i64 e.rep)) base (some ⟨g, 0, none⟩) n c (es.set i e) := by
  have hc := h.cap_le
  obtain ⟨g', cur, e1, hbg, hb, hs, hnc, ht⟩ := gown_at h (by omega)
  injection e1 with e1
  injection e1 with e1
  subst e1
  have hb' := (((hb.set_ (i * 4) (.int .i64 e.kind)).set_ (i * 4 + 1) (.int .i64 e.at_)).set_ (i * 4 + 2) (.int .i32 e.char)).set_ (i * 4 + 3) (.int .i64 e.rep)
  refine ⟨by simpa using h.1, by rw [gcells_length, List.length_set, h.1], .inr ⟨g, c, _, rfl, hbg, hb', hnc, hc.2, by simpa using hs, ?_⟩⟩
  rw [gcells_set4 es i e (by rw [h.1]; exact hi), ← ht]
  simp only [Array.toList_setIfInBounds, List.take_set]
set_option maxRecDepth 20000 in
set_option maxHeartbeats 2000000 in
theorem back_any (a b : Opn) (w : World) (ha : a.In) (h0 : 0 ≤ a.at_) : Calls Tryd.prog 41 #[a.agg, b.agg] w fun e w' => e = .returned (.tuple #[(backOf a b).1.agg, .bool (backOf a b).2]) ∧ Below w.heap.size w w' := by
  obtain ⟨hA, hB, hZ, hW⟩ := three_boxes w 58 (opCells a) (opCells b) #[.int .i64 0, .int .i64 0, .int .i32 0, .int .i64 0]
  have HM := hid (fun W => moves_any a b W)
  have h1 := ha.at_.1
  have h2 := ha.at_.2
  have HT := hid (fun W => T_any { a with at_ := a.at_ - 1 } b W ⟨ha.kind, ⟨by show _ ≤ a.at_ - 1; omega, by show a.at_ - 1 ≤ _; omega⟩, ha.char, ha.rep⟩)
  have hs := hW.size
  cases hm : moves a b
  · have he : backOf a b = (a, true) := by unfold backOf; rw [if_pos hm]
    rw [he]
    rw [hm] at HM
    clear hm he
    unfold Opn.agg at HM ⊢
    unfold opCells at hA hB hW hZ
    go_enter Tryd.func41, Tryd.ntmps41
    repeat' (first | (go_at_call 84; go_must ((with_reducible refine Calls.mono (HM.out _) ?_); rintro _ W1 ⟨rfl, hb1⟩; have hA1 := hA.step hb1; have hZ1 := hZ.step hb1; obtain ⟨a0, a1, a2, a3, f0, f1, f2, f3, fl⟩ := hA1.four; obtain ⟨z0, z1, z2, z3, g0, g1, g2, g3, gl⟩ := hZ1.four; dsimp only)) | (with_reducible refine Keep.last ?_) | (with_reducible refine Keep.below (by assumption) ?_) | (with_reducible refine Keep.kept (by assumption) ?_) | (with_reducible refine Keep.alloc ?_) | (with_reducible refine Keep.same ?_) | ((with_reducible refine WpH.here ?_); first | (refine WpH.nil ?_; refine NoP.normal ?_) | (refine WpH.load (by rfl) (by rfl) (by go_simp; rfl) ?_; simp only [Act.put, List.setIfInBounds_toArray, List.set_cons_zero, List.set_cons_succ]) | (refine WpH.loadT (by rfl) (by rfl) (by go_simp; rfl) (by rintro _ _ ⟨⟩; exact ⟨_, _, _, _, _, _, by rfl, by assumption, by assumption⟩) ?_; simp only [Act.put, List.setIfInBounds_toArray, List.set_cons_zero, List.set_cons_succ]) | (refine WpH.pure (by rfl) (fun w_ => by go_simp; (try go_bits); rfl) ?_; simp only [Act.put, List.setIfInBounds_toArray, List.set_cons_zero, List.set_cons_succ]) | (refine WpH.wild1 (by rfl) (fun _ _ => ?_)) | (refine WpH.skip (by rfl) ?_; simp only [Act.put, List.setIfInBounds_toArray, List.set_cons_zero, List.set_cons_succ])) | go_values | go_skip | go_guarded | go_step | go_upon | go_back)
    have hbb := hW.trans (hb1.mono hs)
    refine bodyPost_ret (v := .tuple #[.agg #[.int .i64 a.kind, .int .i64 a.at_, .int .i32 a.char, .int .i64 a.rep], .bool true]) (by simp [results, Tryd.results41, go_sem, z0, z1, z2, z3]) rfl ⟨rfl, ?_⟩
    (repeat (refine Below.setCell ?_ (by first | exact Nat.le_refl _ | exact Nat.le_succ _ | exact Nat.le_trans (Nat.le_succ _) (Nat.le_succ _)) _)); exact hbb
  · have hgt : -9223372036854775808 < a.at_ := by omega
    have hlo : -9223372036854775808 ≤ a.at_ - 1 := by omega
    rw [hm] at HM
    cases hx : moves { a with at_ := a.at_ - 1 } b
    · have hT : Tof { a with at_ := a.at_ - 1 } b = { a with at_ := a.at_ - 1 } := (Tof_eq_iff _ _).2 hx
      have he : backOf a b = (a, false) := by
        unfold backOf
        rw [if_neg (by rw [hm]; simp), hT, if_neg]
        intro e
        have := congrArg Opn.at_ e
        simp only at this
        omega
      have hne : ¬ (a.at_ - 1 = a.at_) := by omega
      rw [he]
      rw [hT] at HT
      clear hm he hx hT
      unfold Opn.agg at HM HT ⊢
      dsimp only at HT
      unfold opCells at hA hB hW hZ
      go_enter Tryd.func41, Tryd.ntmps41
      repeat' (first | (go_at_call 84; go_must ((with_reducible refine Calls.mono (HM.out _) ?_); rintro _ W1 ⟨rfl, hb1⟩; have hA1 := hA.step hb1; have hB1 := hB.step hb1; have hZ1 := hZ.step hb1; obtain ⟨a0, a1, a2, a3, f0, f1, f2, f3, fl⟩ := hA1.four; have hB1' := hB1.four; obtain ⟨p0, p1, p2, p3, -, -, -, -, pl⟩ := hB1'; dsimp only)) | ((with_reducible refine region_at 6 ?_); refine wp_region_order [(0, true, false), (1, true, false), (3, true, false), (2, false, false), (4, true, false)] (by kernel_rfl) (by kernel_rfl) (by kernel_rfl) rfl rfl ?_) | (go_at_call 30; go_must ((with_reducible refine Calls.mono (HT.out _) ?_); rintro _ W2 ⟨rfl, hb2⟩; have hX1 := Blk.new W1 58 #[.int .i64 a.kind, .int .i64 (a.at_ - 1), .int .i32 a.char, .int .i64 a.rep]; have eX : Below W1.heap.size W1 (W1.alloc (.cells #[.int .i64 a.kind, .int .i64 (a.at_ - 1), .int .i32 a.char, .int .i64 a.rep] 58)) := (Below.refl _ _).alloc (Nat.le_refl _) _; have hX2 := hX1.drew.step hb2; have hA2 := ((hA1.step eX).drew).step hb2; have hZ2 := ((hZ1.step eX).drew).step hb2; obtain ⟨b0, b1, b2, b3, -, -, -, -, bl⟩ := hA2.four; obtain ⟨z0, z1, z2, z3, g0, g1, g2, g3, gl⟩ := hZ2.four; obtain ⟨x0, x1, x2, x3, -, -, -, -, xl⟩ := hX2.four; dsimp only)) | (with_reducible refine Keep.last ?_) | (with_reducible refine Keep.below (by assumption) ?_) | (with_reducible refine Keep.kept (by assumption) ?_) | (with_reducible refine Keep.alloc ?_) | (with_reducible refine Keep.same ?_) | ((with_reducible refine WpH.here ?_); first | (refine WpH.nil ?_; refine NoP.normal ?_) | (refine WpH.load (by rfl) (by rfl) (by go_simp; rfl) ?_; simp only [Act.put, List.setIfInBounds_toArray, List.set_cons_zero, List.set_cons_succ]) | (refine WpH.loadT (by rfl) (by rfl) (by go_simp; rfl) (by rintro _ _ ⟨⟩; exact ⟨_, _, _, _, _, _, by rfl, by assumption, by assumption⟩) ?_; simp only [Act.put, List.setIfInBounds_toArray, List.set_cons_zero, List.set_cons_succ]) | (refine WpH.pure (by rfl) (fun w_ => by go_simp; (try go_bits); rfl) ?_; simp only [Act.put, List.setIfInBounds_toArray, List.set_cons_zero, List.set_cons_succ]) | (refine WpH.wild1 (by rfl) (fun _ _ => ?_)) | (refine WpH.skip (by rfl) ?_; simp only [Act.put, List.setIfInBounds_toArray, List.set_cons_zero, List.set_cons_succ])) | go_values | go_skip | go_guarded | go_step | go_upon | go_back)
      have hbb := (hW.trans (hb1.mono hs)).trans ((eX.drew.trans (hb2.mono eX.size)).mono (Nat.le_trans hs hb1.size))
      refine bodyPost_ret (v := .tuple #[.agg #[.int .i64 a.kind, .int .i64 a.at_, .int .i32 a.char, .int .i64 a.rep], .bool false]) (by simp [results, Tryd.results41, go_sem, z0, z1, z2, z3]) rfl ⟨rfl, ?_⟩
      (repeat (refine Below.setCell ?_ (by first | exact Nat.le_refl _ | exact Nat.le_succ _ | exact Nat.le_trans (Nat.le_succ _) (Nat.le_succ _)) _)); exact hbb
    · have hT : Tof { a with at_ := a.at_ - 1 } b = a := by
        unfold Tof
        rw [if_pos hx]
        refine opn_ext rfl ?_ rfl rfl
        show a.at_ - 1 + 1 = a.at_
        omega
      have he : backOf a b = ({ a with at_ := a.at_ - 1 }, true) := by
        unfold backOf
        rw [if_neg (by rw [hm]; simp), if_pos hT]
      have hne := trivial
      rw [he]
      rw [hT] at HT
      clear hm he hx hT
      unfold Opn.agg at HM HT ⊢
      dsimp only at HT
      unfold opCells at hA hB hW hZ
      go_enter Tryd.func41, Tryd.ntmps41
      repeat' (first | (go_at_call 84; go_must ((with_reducible refine Calls.mono (HM.out _) ?_); rintro _ W1 ⟨rfl, hb1⟩; have hA1 := hA.step hb1; have hB1 := hB.step hb1; have hZ1 := hZ.step hb1; obtain ⟨a0, a1, a2, a3, f0, f1, f2, f3, fl⟩ := hA1.four; have hB1' := hB1.four; obtain ⟨p0, p1, p2, p3, -, -, -, -, pl⟩ := hB1'; dsimp only)) | ((with_reducible refine region_at 6 ?_); refine wp_region_order [(0, true, false), (1, true, false), (3, true, false), (2, false, false), (4, true, false)] (by kernel_rfl) (by kernel_rfl) (by kernel_rfl) rfl rfl ?_) | (go_at_call 30; go_must ((with_reducible refine Calls.mono (HT.out _) ?_); rintro _ W2 ⟨rfl, hb2⟩; have hX1 := Blk.new W1 58 #[.int .i64 a.kind, .int .i64 (a.at_ - 1), .int .i32 a.char, .int .i64 a.rep]; have eX : Below W1.heap.size W1 (W1.alloc (.cells #[.int .i64 a.kind, .int .i64 (a.at_ - 1), .int .i32 a.char, .int .i64 a.rep] 58)) := (Below.refl _ _).alloc (Nat.le_refl _) _; have hX2 := hX1.drew.step hb2; have hA2 := ((hA1.step eX).drew).step hb2; have hZ2 := ((hZ1.step eX).drew).step hb2; obtain ⟨b0, b1, b2, b3, -, -, -, -, bl⟩ := hA2.four; obtain ⟨z0, z1, z2, z3, g0, g1, g2, g3, gl⟩ := hZ2.four; obtain ⟨x0, x1, x2, x3, -, -, -, -, xl⟩ := hX2.four; dsimp only)) | (with_reducible refine Keep.last ?_) | (with_reducible refine Keep.below (by assumption) ?_) | (with_reducible refine Keep.kept (by assumption) ?_) | (with_reducible refine Keep.alloc ?_) | (with_reducible refine Keep.same ?_) | ((with_reducible refine WpH.here ?_); first | (refine WpH.nil ?_; refine NoP.normal ?_) | (refine WpH.load (by rfl) (by rfl) (by go_simp; rfl) ?_; simp only [Act.put, List.setIfInBounds_toArray, List.set_cons_zero, List.set_cons_succ]) | (refine WpH.loadT (by rfl) (by rfl) (by go_simp; rfl) (by rintro _ _ ⟨⟩; exact ⟨_, _, _, _, _, _, by rfl, by assumption, by assumption⟩) ?_; simp only [Act.put, List.setIfInBounds_toArray, List.set_cons_zero, List.set_cons_succ]) | (refine WpH.pure (by rfl) (fun w_ => by go_simp; (try go_bits); rfl) ?_; simp only [Act.put, List.setIfInBounds_toArray, List.set_cons_zero, List.set_cons_succ]) | (refine WpH.wild1 (by rfl) (fun _ _ => ?_)) | (refine WpH.skip (by rfl) ?_; simp only [Act.put, List.setIfInBounds_toArray, List.set_cons_zero, List.set_cons_succ])) | go_values | go_skip | go_guarded | go_step | go_upon | go_back)
      have hbb := (hW.trans (hb1.mono hs)).trans ((eX.drew.trans (hb2.mono eX.size)).mono (Nat.le_trans hs hb1.size))
      refine bodyPost_ret (v := .tuple #[.agg #[.int .i64 a.kind, .int .i64 (a.at_ - 1), .int .i32 a.char, .int .i64 a.rep], .bool true]) (by simp [results, Tryd.results41, go_sem, z0, z1, z2, z3]) rfl ⟨rfl, ?_⟩
      (repeat (refine Below.setCell ?_ (by first | exact Nat.le_refl _ | exact Nat.le_succ _ | exact Nat.le_trans (Nat.le_succ _) (Nat.le_succ _)) _)); exact hbb
/-- four boxes of operations: two that come in, two that go out -/
theorem Opn.In.dec {a : Opn} (ha : a.In) (h0 : 0 ≤ a.at_) : ({ a with at_ := a.at_ - 1 } : Opn).In := by
  have h1 := ha.at_.1
  have h2 := ha.at_.2
  exact ⟨ha.kind, ⟨by show _ ≤ a.at_ - 1; omega, by show a.at_ - 1 ≤ _; omega⟩, ha.char, ha.rep⟩
theorem backOf_in {a b : Opn} (ha : a.In) (h0 : 0 ≤ a.at_) : (backOf a b).1.In := by
  unfold backOf
  split
  · exact ha
  · split
    · exact ha.dec h0
    · exact ha
/-- an operation's cells in a later world -/
theorem op_cells {w w' : World} {S : Nat → Prop} {b off n c k : Nat} {xs : List Opn} {o : Opn} (h : GRow w S (some ⟨b, off, none⟩) n c xs) (hk : k < n) (ho : xs[k]? = some o) (hb : Below w.heap.size w w') :
    w'.cell? ⟨b, off + k * 4, none⟩ = some (.int .i64 o.kind) ∧ w'.cell? ⟨b, off + k * 4 + 1, none⟩ = some (.int .i64 o.at_) ∧ w'.cell? ⟨b, off + k * 4 + 2, none⟩ = some (.int .i32 o.char) ∧ w'.cell? ⟨b, off + k * 4 + 3, none⟩ = some (.int .i64 o.rep) ∧ b < w'.heap.size ∧ ∃ cs u z, w'.heap[b]? = some (.cells cs u z) := by
  obtain ⟨b', off', e, h1, _, hl, he, hc⟩ := (h.step hb).at_ hk
  injection h1 with h1
  injection h1 with h1 h2
  subst h1 h2
  obtain rfl : e = o := Option.some.inj (he.symm.trans ho)
  exact ⟨hc 0 _ rfl, hc 1 _ rfl, hc 2 _ rfl, hc 3 _ rfl, hl, cell_obj (hc 0 _ rfl)⟩
theorem belowKeep {w w' : World} (h : Below w.heap.size w w') (T : Nat → Prop) : KeepT T w w' := ⟨h.size, fun b hl _ => h.block b hl⟩
theorem size_setCell (w : World) (p : Addr) (u : Value) : (w.setCell p u).heap.size = w.heap.size := by simp [World.setCell]
set_option maxRecDepth 20000 in
set_option maxHeartbeats 2000000 in
theorem refBack_any (a b : Opn) (w : World) (ha : a.In) (h0 : 0 ≤ a.at_) : Calls Tryd.prog 42 #[a.agg, b.agg] w fun e w' => e = .returned (.tuple #[(refBackOf a b).1.agg, .bool (refBackOf a b).2]) ∧ Below w.heap.size w w' := by
  obtain ⟨hA, hB, hZ, hW⟩ := three_boxes w 58 (opCells a) (opCells b) #[.int .i64 0, .int .i64 0, .int .i32 0, .int .i64 0]
  have HT := hid (fun W => refT_any a b W ha)
  have HT1 := hid (fun W => refT_any { a with at_ := a.at_ - 1 } b W (ha.dec h0))
  have h1 := ha.at_.1
  have h2 := ha.at_.2
  have hlo : -9223372036854775808 ≤ a.at_ - 1 := by omega
  have hs := hW.size
  by_cases hm : Tof a b = a
  · have he : refBackOf a b = (a, true) := by unfold refBackOf; rw [if_pos ⟨h0, hm⟩]
    rw [he]
    rw [hm] at HT
    clear hm he HT1
    have HT1 := trivial
    have hne := trivial
    unfold Opn.agg at HT HT1 ⊢
    (try dsimp only at HT HT1)
    unfold opCells at hA hB hW hZ
    go_enter Tryd.func42, Tryd.ntmps42
    obtain ⟨a0, a1, a2, a3, f0, f1, f2, f3, fl⟩ := hA.four
    obtain ⟨p0, p1, p2, p3, -, -, -, -, pl⟩ := hB.four
    obtain ⟨y0, y1, y2, y3, h0, h1, h2, h3, hl⟩ := hZ.four
    repeat' (first | (with_reducible refine Keep.last ?_) | (with_reducible refine Keep.below (by assumption) ?_) | (with_reducible refine Keep.kept (by assumption) ?_) | (with_reducible refine Keep.alloc ?_) | (with_reducible refine Keep.same ?_) | ((with_reducible refine WpH.here ?_); first | (refine WpH.nil ?_; refine NoP.normal ?_) | (refine WpH.load (by rfl) (by rfl) (by go_simp; rfl) ?_; simp only [Act.put, List.setIfInBounds_toArray, List.set_cons_zero, List.set_cons_succ]) | (refine WpH.loadT (by rfl) (by rfl) (by go_simp; rfl) (by rintro _ _ ⟨⟩; exact ⟨_, _, _, _, _, _, by rfl, by assumption, by assumption⟩) ?_; simp only [Act.put, List.setIfInBounds_toArray, List.set_cons_zero, List.set_cons_succ]) | (refine WpH.pure (by rfl) (fun w_ => by go_simp; (try go_bits); rfl) ?_; simp only [Act.put, List.setIfInBounds_toArray, List.set_cons_zero, List.set_cons_succ]) | (refine WpH.wild1 (by rfl) (fun _ _ => ?_)) | (refine WpH.skip (by rfl) ?_; simp only [Act.put, List.setIfInBounds_toArray, List.set_cons_zero, List.set_cons_succ])) | go_values | go_skip | go_guarded | go_step | go_upon | go_back)
    generalize ((w.alloc (.cells #[.int .i64 a.kind, .int .i64 a.at_, .int .i32 a.char, .int .i64 a.rep] 58)).alloc (.cells #[.int .i64 b.kind, .int .i64 b.at_, .int .i32 b.char, .int .i64 b.rep] 58)).alloc (.cells #[.int .i64 0, .int .i64 0, .int .i32 0, .int .i64 0] 58) = W at *
    refine wp_loop_rounds 3 (roundsW_next ?_)
    repeat' (first | ((with_reducible refine region_at 6 ?_); refine wp_region_order [(0, true, false), (1, true, false), (2, true, false), (3, true, false), (4, true, false), (5, true, false), (7, true, false), (6, false, false), (8, true, false), (9, true, false)] (by kernel_rfl) (by kernel_rfl) (by kernel_rfl) rfl rfl ?_) | ((with_reducible refine WpH.here ?_); refine WpH.wild2 (by rfl) (fun _ _ => ?_)) | (go_at_call 31; go_must (first | ((with_reducible refine Calls.mono (HT.out _) ?_); rintro _ W2 ⟨rfl, hb2⟩; have hX2 := (Blk.new _ 58 #[.int .i64 a.kind, .int .i64 a.at_, .int .i32 a.char, .int .i64 a.rep]).drew.step hb2; have eX := balloc (o := .cells #[.int .i64 a.kind, .int .i64 a.at_, .int .i32 a.char, .int .i64 a.rep] 58) (Below.refl _ W); have hA2 := ((hA.step eX).drew).step hb2; have hB2 := ((hB.step eX).drew).step hb2; have hZ2 := ((hZ.step eX).drew).step hb2; obtain ⟨b0, b1, b2, b3, -, -, -, -, bl⟩ := hA2.four; obtain ⟨q0, q1, q2, q3, -, -, -, -, ql⟩ := hB2.four; obtain ⟨z0, z1, z2, z3, g0, g1, g2, g3, gl⟩ := hZ2.four; obtain ⟨x0, x1, x2, x3, -, -, -, -, xl⟩ := hX2.four; dsimp only) | ((with_reducible refine Calls.mono (HT1.out _) ?_); rintro _ W3 ⟨rfl, hb2⟩; have hX2 := (Blk.new _ 58 #[.int .i64 a.kind, .int .i64 (a.at_ - 1), .int .i32 a.char, .int .i64 a.rep]).drew.step hb2; have eX := balloc (o := .cells #[.int .i64 a.kind, .int .i64 (a.at_ - 1), .int .i32 a.char, .int .i64 a.rep] 58) (Below.refl _ W2); have hA2 := ((hA2.step eX).drew).step hb2; have hB2 := ((hB2.step eX).drew).step hb2; have hZ2 := ((hZ2.step eX).drew).step hb2; obtain ⟨b0, b1, b2, b3, -, -, -, -, bl⟩ := hA2.four; obtain ⟨q0, q1, q2, q3, -, -, -, -, ql⟩ := hB2.four; obtain ⟨z0, z1, z2, z3, g0, g1, g2, g3, gl⟩ := hZ2.four; obtain ⟨x0, x1, x2, x3, -, -, -, -, xl⟩ := hX2.four; dsimp only))) | (with_reducible refine roundsW_next ?_) | (with_reducible refine Keep.last ?_) | (with_reducible refine Keep.below (by assumption) ?_) | (with_reducible refine Keep.kept (by assumption) ?_) | (with_reducible refine Keep.alloc ?_) | (with_reducible refine Keep.same ?_) | ((with_reducible refine WpH.here ?_); first | (refine WpH.nil ?_; refine NoP.normal ?_) | (refine WpH.load (by rfl) (by rfl) (by go_simp; rfl) ?_; simp only [Act.put, List.setIfInBounds_toArray, List.set_cons_zero, List.set_cons_succ]) | (refine WpH.loadT (by rfl) (by rfl) (by go_simp; rfl) (by rintro _ _ ⟨⟩; exact ⟨_, _, _, _, _, _, by rfl, by assumption, by assumption⟩) ?_; simp only [Act.put, List.setIfInBounds_toArray, List.set_cons_zero, List.set_cons_succ]) | (refine WpH.pure (by rfl) (fun w_ => by go_simp; (try go_bits); rfl) ?_; simp only [Act.put, List.setIfInBounds_toArray, List.set_cons_zero, List.set_cons_succ]) | (refine WpH.wild1 (by rfl) (fun _ _ => ?_)) | (refine WpH.skip (by rfl) ?_; simp only [Act.put, List.setIfInBounds_toArray, List.set_cons_zero, List.set_cons_succ])) | go_values | go_skip | go_guarded | go_step | go_upon | go_back)
    refine bodyPost_ret (v := .tuple #[.agg #[.int .i64 a.kind, .int .i64 a.at_, .int .i32 a.char, .int .i64 a.rep], .bool true]) (by first | (simp [results, Tryd.results42, go_sem, z0, z1, z2, z3]; done) | (simp [results, Tryd.results42, go_sem, z0, z1, z2, z3, gl, size_setCell]; done)) rfl ⟨rfl, ?_⟩
    (repeat' (first | (with_reducible exact Below.refl _ _) | (with_reducible assumption) | (with_reducible refine balloc ?_) | (with_reducible refine bdrew ?_) | (with_reducible refine bset ?_ (by (try dsimp only); omega)) | (with_reducible refine bvia ?_ (by assumption))))
  · have hmv : moves a b = true := by
      cases h : moves a b
      · exact absurd ((Tof_eq_iff _ _).2 h) hm
      · rfl
    have hmx := moves_max hmv
    have hT : Tof a b = { a with at_ := a.at_ + 1 } := by unfold Tof; rw [if_pos hmv]
    rw [hT] at HT
    have hne : ¬ (a.at_ + 1 = a.at_) := by omega
    have hle : a.at_ + 1 ≤ 9223372036854775807 := by omega
    by_cases h0' : 1 ≤ a.at_
    · by_cases hx : Tof { a with at_ := a.at_ - 1 } b = a
      · have he : refBackOf a b = ({ a with at_ := a.at_ - 1 }, true) := by
          unfold refBackOf
          rw [if_neg (fun h => hm h.2), if_pos ⟨(by omega : 0 ≤ a.at_ - 1), hx⟩]
        rw [he]
        rw [hx] at HT1
        clear hm he hT hx hmv hmx
        unfold Opn.agg at HT HT1 ⊢
        (try dsimp only at HT HT1)
        unfold opCells at hA hB hW hZ
        go_enter Tryd.func42, Tryd.ntmps42
        obtain ⟨a0, a1, a2, a3, f0, f1, f2, f3, fl⟩ := hA.four
        obtain ⟨p0, p1, p2, p3, -, -, -, -, pl⟩ := hB.four
        obtain ⟨y0, y1, y2, y3, h0, h1, h2, h3, hl⟩ := hZ.four
        repeat' (first | (with_reducible refine Keep.last ?_) | (with_reducible refine Keep.below (by assumption) ?_) | (with_reducible refine Keep.kept (by assumption) ?_) | (with_reducible refine Keep.alloc ?_) | (with_reducible refine Keep.same ?_) | ((with_reducible refine WpH.here ?_); first | (refine WpH.nil ?_; refine NoP.normal ?_) | (refine WpH.load (by rfl) (by rfl) (by go_simp; rfl) ?_; simp only [Act.put, List.setIfInBounds_toArray, List.set_cons_zero, List.set_cons_succ]) | (refine WpH.loadT (by rfl) (by rfl) (by go_simp; rfl) (by rintro _ _ ⟨⟩; exact ⟨_, _, _, _, _, _, by rfl, by assumption, by assumption⟩) ?_; simp only [Act.put, List.setIfInBounds_toArray, List.set_cons_zero, List.set_cons_succ]) | (refine WpH.pure (by rfl) (fun w_ => by go_simp; (try go_bits); rfl) ?_; simp only [Act.put, List.setIfInBounds_toArray, List.set_cons_zero, List.set_cons_succ]) | (refine WpH.wild1 (by rfl) (fun _ _ => ?_)) | (refine WpH.skip (by rfl) ?_; simp only [Act.put, List.setIfInBounds_toArray, List.set_cons_zero, List.set_cons_succ])) | go_values | go_skip | go_guarded | go_step | go_upon | go_back)
        generalize ((w.alloc (.cells #[.int .i64 a.kind, .int .i64 a.at_, .int .i32 a.char, .int .i64 a.rep] 58)).alloc (.cells #[.int .i64 b.kind, .int .i64 b.at_, .int .i32 b.char, .int .i64 b.rep] 58)).alloc (.cells #[.int .i64 0, .int .i64 0, .int .i32 0, .int .i64 0] 58) = W at *
        refine wp_loop_rounds 3 (roundsW_next ?_)
        repeat' (first | ((with_reducible refine region_at 6 ?_); refine wp_region_order [(0, true, false), (1, true, false), (2, true, false), (3, true, false), (4, true, false), (5, true, false), (7, true, false), (6, false, false), (8, true, false), (9, true, false)] (by kernel_rfl) (by kernel_rfl) (by kernel_rfl) rfl rfl ?_) | ((with_reducible refine WpH.here ?_); refine WpH.wild2 (by rfl) (fun _ _ => ?_)) | (go_at_call 31; go_must (first | ((with_reducible refine Calls.mono (HT.out _) ?_); rintro _ W2 ⟨rfl, hb2⟩; have hX2 := (Blk.new _ 58 #[.int .i64 a.kind, .int .i64 a.at_, .int .i32 a.char, .int .i64 a.rep]).drew.step hb2; have eX := balloc (o := .cells #[.int .i64 a.kind, .int .i64 a.at_, .int .i32 a.char, .int .i64 a.rep] 58) (Below.refl _ W); have hA2 := ((hA.step eX).drew).step hb2; have hB2 := ((hB.step eX).drew).step hb2; have hZ2 := ((hZ.step eX).drew).step hb2; obtain ⟨b0, b1, b2, b3, -, -, -, -, bl⟩ := hA2.four; obtain ⟨q0, q1, q2, q3, -, -, -, -, ql⟩ := hB2.four; obtain ⟨z0, z1, z2, z3, g0, g1, g2, g3, gl⟩ := hZ2.four; obtain ⟨x0, x1, x2, x3, -, -, -, -, xl⟩ := hX2.four; dsimp only) | ((with_reducible refine Calls.mono (HT1.out _) ?_); rintro _ W3 ⟨rfl, hb2⟩; have hX2 := (Blk.new _ 58 #[.int .i64 a.kind, .int .i64 (a.at_ - 1), .int .i32 a.char, .int .i64 a.rep]).drew.step hb2; have eX := balloc (o := .cells #[.int .i64 a.kind, .int .i64 (a.at_ - 1), .int .i32 a.char, .int .i64 a.rep] 58) (Below.refl _ W2); have hA2 := ((hA2.step eX).drew).step hb2; have hB2 := ((hB2.step eX).drew).step hb2; have hZ2 := ((hZ2.step eX).drew).step hb2; obtain ⟨b0, b1, b2, b3, -, -, -, -, bl⟩ := hA2.four; obtain ⟨q0, q1, q2, q3, -, -, -, -, ql⟩ := hB2.four; obtain ⟨z0, z1, z2, z3, g0, g1, g2, g3, gl⟩ := hZ2.four; obtain ⟨x0, x1, x2, x3, -, -, -, -, xl⟩ := hX2.four; dsimp only))) | (with_reducible refine roundsW_next ?_) | (with_reducible refine Keep.last ?_) | (with_reducible refine Keep.below (by assumption) ?_) | (with_reducible refine Keep.kept (by assumption) ?_) | (with_reducible refine Keep.alloc ?_) | (with_reducible refine Keep.same ?_) | ((with_reducible refine WpH.here ?_); first | (refine WpH.nil ?_; refine NoP.normal ?_) | (refine WpH.load (by rfl) (by rfl) (by go_simp; rfl) ?_; simp only [Act.put, List.setIfInBounds_toArray, List.set_cons_zero, List.set_cons_succ]) | (refine WpH.loadT (by rfl) (by rfl) (by go_simp; rfl) (by rintro _ _ ⟨⟩; exact ⟨_, _, _, _, _, _, by rfl, by assumption, by assumption⟩) ?_; simp only [Act.put, List.setIfInBounds_toArray, List.set_cons_zero, List.set_cons_succ]) | (refine WpH.pure (by rfl) (fun w_ => by go_simp; (try go_bits); rfl) ?_; simp only [Act.put, List.setIfInBounds_toArray, List.set_cons_zero, List.set_cons_succ]) | (refine WpH.wild1 (by rfl) (fun _ _ => ?_)) | (refine WpH.skip (by rfl) ?_; simp only [Act.put, List.setIfInBounds_toArray, List.set_cons_zero, List.set_cons_succ])) | go_values | go_skip | go_guarded | go_step | go_upon | go_back)
        refine bodyPost_ret (v := .tuple #[.agg #[.int .i64 a.kind, .int .i64 (a.at_ - 1), .int .i32 a.char, .int .i64 a.rep], .bool true]) (by first | (simp [results, Tryd.results42, go_sem, z0, z1, z2, z3]; done) | (simp [results, Tryd.results42, go_sem, z0, z1, z2, z3, gl, size_setCell]; done)) rfl ⟨rfl, ?_⟩
        (repeat' (first | (with_reducible exact Below.refl _ _) | (with_reducible assumption) | (with_reducible refine balloc ?_) | (with_reducible refine bdrew ?_) | (with_reducible refine bset ?_ (by (try dsimp only); omega)) | (with_reducible refine bvia ?_ (by assumption))))
      · have hx' : Tof { a with at_ := a.at_ - 1 } b = { a with at_ := a.at_ - 1 } := by
          rw [Tof_eq_iff]
          cases h : moves { a with at_ := a.at_ - 1 } b
          · rfl
          · exfalso
            apply hx
            unfold Tof
            rw [if_pos h]
            refine opn_ext rfl ?_ rfl rfl
            show a.at_ - 1 + 1 = a.at_
            omega
        have he : refBackOf a b = (a, false) := by
          unfold refBackOf
          rw [if_neg (fun h => hm h.2), if_neg (fun h => hx h.2)]
        rw [he]
        rw [hx'] at HT1
        have hne2 : ¬ (a.at_ - 1 = a.at_) := by omega
        clear hm he hT hx hx' hmv hmx
        unfold Opn.agg at HT HT1 ⊢
        (try dsimp only at HT HT1)
        unfold opCells at hA hB hW hZ
        go_enter Tryd.func42, Tryd.ntmps42
        obtain ⟨a0, a1, a2, a3, f0, f1, f2, f3, fl⟩ := hA.four
        obtain ⟨p0, p1, p2, p3, -, -, -, -, pl⟩ := hB.four
        obtain ⟨y0, y1, y2, y3, h0, h1, h2, h3, hl⟩ := hZ.four
        repeat' (first | (with_reducible refine Keep.last ?_) | (with_reducible refine Keep.below (by assumption) ?_) | (with_reducible refine Keep.kept (by assumption) ?_) | (with_reducible refine Keep.alloc ?_) | (with_reducible refine Keep.same ?_) | ((with_reducible refine WpH.here ?_); first | (refine WpH.nil ?_; refine NoP.normal ?_) | (refine WpH.load (by rfl) (by rfl) (by go_simp; rfl) ?_; simp only [Act.put, List.setIfInBounds_toArray, List.set_cons_zero, List.set_cons_succ]) | (refine WpH.loadT (by rfl) (by rfl) (by go_simp; rfl) (by rintro _ _ ⟨⟩; exact ⟨_, _, _, _, _, _, by rfl, by assumption, by assumption⟩) ?_; simp only [Act.put, List.setIfInBounds_toArray, List.set_cons_zero, List.set_cons_succ]) | (refine WpH.pure (by rfl) (fun w_ => by go_simp; (try go_bits); rfl) ?_; simp only [Act.put, List.setIfInBounds_toArray, List.set_cons_zero, List.set_cons_succ]) | (refine WpH.wild1 (by rfl) (fun _ _ => ?_)) | (refine WpH.skip (by rfl) ?_; simp only [Act.put, List.setIfInBounds_toArray, List.set_cons_zero, List.set_cons_succ])) | go_values | go_skip | go_guarded | go_step | go_upon | go_back)
        generalize ((w.alloc (.cells #[.int .i64 a.kind, .int .i64 a.at_, .int .i32 a.char, .int .i64 a.rep] 58)).alloc (.cells #[.int .i64 b.kind, .int .i64 b.at_, .int .i32 b.char, .int .i64 b.rep] 58)).alloc (.cells #[.int .i64 0, .int .i64 0, .int .i32 0, .int .i64 0] 58) = W at *
        refine wp_loop_rounds 3 (roundsW_next ?_)
        repeat' (first | ((with_reducible refine region_at 6 ?_); refine wp_region_order [(0, true, false), (1, true, false), (2, true, false), (3, true, false), (4, true, false), (5, true, false), (7, true, false), (6, false, false), (8, true, false), (9, true, false)] (by kernel_rfl) (by kernel_rfl) (by kernel_rfl) rfl rfl ?_) | ((with_reducible refine WpH.here ?_); refine WpH.wild2 (by rfl) (fun _ _ => ?_)) | (go_at_call 31; go_must (first | ((with_reducible refine Calls.mono (HT.out _) ?_); rintro _ W2 ⟨rfl, hb2⟩; have hX2 := (Blk.new _ 58 #[.int .i64 a.kind, .int .i64 a.at_, .int .i32 a.char, .int .i64 a.rep]).drew.step hb2; have eX := balloc (o := .cells #[.int .i64 a.kind, .int .i64 a.at_, .int .i32 a.char, .int .i64 a.rep] 58) (Below.refl _ W); have hA2 := ((hA.step eX).drew).step hb2; have hB2 := ((hB.step eX).drew).step hb2; have hZ2 := ((hZ.step eX).drew).step hb2; obtain ⟨b0, b1, b2, b3, -, -, -, -, bl⟩ := hA2.four; obtain ⟨q0, q1, q2, q3, -, -, -, -, ql⟩ := hB2.four; obtain ⟨z0, z1, z2, z3, g0, g1, g2, g3, gl⟩ := hZ2.four; obtain ⟨x0, x1, x2, x3, -, -, -, -, xl⟩ := hX2.four; dsimp only) | ((with_reducible refine Calls.mono (HT1.out _) ?_); rintro _ W3 ⟨rfl, hb2⟩; have hX2 := (Blk.new _ 58 #[.int .i64 a.kind, .int .i64 (a.at_ - 1), .int .i32 a.char, .int .i64 a.rep]).drew.step hb2; have eX := balloc (o := .cells #[.int .i64 a.kind, .int .i64 (a.at_ - 1), .int .i32 a.char, .int .i64 a.rep] 58) (Below.refl _ W2); have hA2 := ((hA2.step eX).drew).step hb2; have hB2 := ((hB2.step eX).drew).step hb2; have hZ2 := ((hZ2.step eX).drew).step hb2; obtain ⟨b0, b1, b2, b3, -, -, -, -, bl⟩ := hA2.four; obtain ⟨q0, q1, q2, q3, -, -, -, -, ql⟩ := hB2.four; obtain ⟨z0, z1, z2, z3, g0, g1, g2, g3, gl⟩ := hZ2.four; obtain ⟨x0, x1, x2, x3, -, -, -, -, xl⟩ := hX2.four; dsimp only))) | (with_reducible refine roundsW_next ?_) | (with_reducible refine Keep.last ?_) | (with_reducible refine Keep.below (by assumption) ?_) | (with_reducible refine Keep.kept (by assumption) ?_) | (with_reducible refine Keep.alloc ?_) | (with_reducible refine Keep.same ?_) | ((with_reducible refine WpH.here ?_); first | (refine WpH.nil ?_; refine NoP.normal ?_) | (refine WpH.load (by rfl) (by rfl) (by go_simp; rfl) ?_; simp only [Act.put, List.setIfInBounds_toArray, List.set_cons_zero, List.set_cons_succ]) | (refine WpH.loadT (by rfl) (by rfl) (by go_simp; rfl) (by rintro _ _ ⟨⟩; exact ⟨_, _, _, _, _, _, by rfl, by assumption, by assumption⟩) ?_; simp only [Act.put, List.setIfInBounds_toArray, List.set_cons_zero, List.set_cons_succ]) | (refine WpH.pure (by rfl) (fun w_ => by go_simp; (try go_bits); rfl) ?_; simp only [Act.put, List.setIfInBounds_toArray, List.set_cons_zero, List.set_cons_succ]) | (refine WpH.wild1 (by rfl) (fun _ _ => ?_)) | (refine WpH.skip (by rfl) ?_; simp only [Act.put, List.setIfInBounds_toArray, List.set_cons_zero, List.set_cons_succ])) | go_values | go_skip | go_guarded | go_step | go_upon | go_back)
        refine bodyPost_ret (v := .tuple #[.agg #[.int .i64 a.kind, .int .i64 a.at_, .int .i32 a.char, .int .i64 a.rep], .bool false]) (by first | (simp [results, Tryd.results42, go_sem, z0, z1, z2, z3]; done) | (simp [results, Tryd.results42, go_sem, z0, z1, z2, z3, gl, size_setCell]; done)) rfl ⟨rfl, ?_⟩
        (repeat' (first | (with_reducible exact Below.refl _ _) | (with_reducible assumption) | (with_reducible refine balloc ?_) | (with_reducible refine bdrew ?_) | (with_reducible refine bset ?_ (by (try dsimp only); omega)) | (with_reducible refine bvia ?_ (by assumption))))
    · have he : refBackOf a b = (a, false) := by
        unfold refBackOf
        rw [if_neg (fun h => hm h.2), if_neg (fun h => h0' (by have := h.1; omega))]
      rw [he]
      clear hm he hT hmv hmx HT1
      have HT1 := trivial
      unfold Opn.agg at HT HT1 ⊢
      (try dsimp only at HT HT1)
      unfold opCells at hA hB hW hZ
      go_enter Tryd.func42, Tryd.ntmps42
      obtain ⟨a0, a1, a2, a3, f0, f1, f2, f3, fl⟩ := hA.four
      obtain ⟨p0, p1, p2, p3, -, -, -, -, pl⟩ := hB.four
      obtain ⟨y0, y1, y2, y3, h0, h1, h2, h3, hl⟩ := hZ.four
      repeat' (first | (with_reducible refine Keep.last ?_) | (with_reducible refine Keep.below (by assumption) ?_) | (with_reducible refine Keep.kept (by assumption) ?_) | (with_reducible refine Keep.alloc ?_) | (with_reducible refine Keep.same ?_) | ((with_reducible refine WpH.here ?_); first | (refine WpH.nil ?_; refine NoP.normal ?_) | (refine WpH.load (by rfl) (by rfl) (by go_simp; rfl) ?_; simp only [Act.put, List.setIfInBounds_toArray, List.set_cons_zero, List.set_cons_succ]) | (refine WpH.loadT (by rfl) (by rfl) (by go_simp; rfl) (by rintro _ _ ⟨⟩; exact ⟨_, _, _, _, _, _, by rfl, by assumption, by assumption⟩) ?_; simp only [Act.put, List.setIfInBounds_toArray, List.set_cons_zero, List.set_cons_succ]) | (refine WpH.pure (by rfl) (fun w_ => by go_simp; (try go_bits); rfl) ?_; simp only [Act.put, List.setIfInBounds_toArray, List.set_cons_zero, List.set_cons_succ]) | (refine WpH.wild1 (by rfl) (fun _ _ => ?_)) | (refine WpH.skip (by rfl) ?_; simp only [Act.put, List.setIfInBounds_toArray, List.set_cons_zero, List.set_cons_succ])) | go_values | go_skip | go_guarded | go_step | go_upon | go_back)
      generalize ((w.alloc (.cells #[.int .i64 a.kind, .int .i64 a.at_, .int .i32 a.char, .int .i64 a.rep] 58)).alloc (.cells #[.int .i64 b.kind, .int .i64 b.at_, .int .i32 b.char, .int .i64 b.rep] 58)).alloc (.cells #[.int .i64 0, .int .i64 0, .int .i32 0, .int .i64 0] 58) = W at *
      refine wp_loop_rounds 3 (roundsW_next ?_)
      repeat' (first | ((with_reducible refine region_at 6 ?_); refine wp_region_order [(0, true, false), (1, true, false), (2, true, false), (3, true, false), (4, true, false), (5, true, false), (7, true, false), (6, false, false), (8, true, false), (9, true, false)] (by kernel_rfl) (by kernel_rfl) (by kernel_rfl) rfl rfl ?_) | ((with_reducible refine WpH.here ?_); refine WpH.wild2 (by rfl) (fun _ _ => ?_)) | (go_at_call 31; go_must (first | ((with_reducible refine Calls.mono (HT.out _) ?_); rintro _ W2 ⟨rfl, hb2⟩; have hX2 := (Blk.new _ 58 #[.int .i64 a.kind, .int .i64 a.at_, .int .i32 a.char, .int .i64 a.rep]).drew.step hb2; have eX := balloc (o := .cells #[.int .i64 a.kind, .int .i64 a.at_, .int .i32 a.char, .int .i64 a.rep] 58) (Below.refl _ W); have hA2 := ((hA.step eX).drew).step hb2; have hB2 := ((hB.step eX).drew).step hb2; have hZ2 := ((hZ.step eX).drew).step hb2; obtain ⟨b0, b1, b2, b3, -, -, -, -, bl⟩ := hA2.four; obtain ⟨q0, q1, q2, q3, -, -, -, -, ql⟩ := hB2.four; obtain ⟨z0, z1, z2, z3, g0, g1, g2, g3, gl⟩ := hZ2.four; obtain ⟨x0, x1, x2, x3, -, -, -, -, xl⟩ := hX2.four; dsimp only) | ((with_reducible refine Calls.mono (HT1.out _) ?_); rintro _ W3 ⟨rfl, hb2⟩; have hX2 := (Blk.new _ 58 #[.int .i64 a.kind, .int .i64 (a.at_ - 1), .int .i32 a.char, .int .i64 a.rep]).drew.step hb2; have eX := balloc (o := .cells #[.int .i64 a.kind, .int .i64 (a.at_ - 1), .int .i32 a.char, .int .i64 a.rep] 58) (Below.refl _ W2); have hA2 := ((hA2.step eX).drew).step hb2; have hB2 := ((hB2.step eX).drew).step hb2; have hZ2 := ((hZ2.step eX).drew).step hb2; obtain ⟨b0, b1, b2, b3, -, -, -, -, bl⟩ := hA2.four; obtain ⟨q0, q1, q2, q3, -, -, -, -, ql⟩ := hB2.four; obtain ⟨z0, z1, z2, z3, g0, g1, g2, g3, gl⟩ := hZ2.four; obtain ⟨x0, x1, x2, x3, -, -, -, -, xl⟩ := hX2.four; dsimp only))) | (with_reducible refine roundsW_next ?_) | (with_reducible refine Keep.last ?_) | (with_reducible refine Keep.below (by assumption) ?_) | (with_reducible refine Keep.kept (by assumption) ?_) | (with_reducible refine Keep.alloc ?_) | (with_reducible refine Keep.same ?_) | ((with_reducible refine WpH.here ?_); first | (refine WpH.nil ?_; refine NoP.normal ?_) | (refine WpH.load (by rfl) (by rfl) (by go_simp; rfl) ?_; simp only [Act.put, List.setIfInBounds_toArray, List.set_cons_zero, List.set_cons_succ]) | (refine WpH.loadT (by rfl) (by rfl) (by go_simp; rfl) (by rintro _ _ ⟨⟩; exact ⟨_, _, _, _, _, _, by rfl, by assumption, by assumption⟩) ?_; simp only [Act.put, List.setIfInBounds_toArray, List.set_cons_zero, List.set_cons_succ]) | (refine WpH.pure (by rfl) (fun w_ => by go_simp; (try go_bits); rfl) ?_; simp only [Act.put, List.setIfInBounds_toArray, List.set_cons_zero, List.set_cons_succ]) | (refine WpH.wild1 (by rfl) (fun _ _ => ?_)) | (refine WpH.skip (by rfl) ?_; simp only [Act.put, List.setIfInBounds_toArray, List.set_cons_zero, List.set_cons_succ])) | go_values | go_skip | go_guarded | go_step | go_upon | go_back)
      refine bodyPost_ret (v := .tuple #[.agg #[.int .i64 a.kind, .int .i64 a.at_, .int .i32 a.char, .int .i64 a.rep], .bool false]) (by first | (simp [results, Tryd.results42, go_sem, z0, z1, z2, z3]; done) | (simp [results, Tryd.results42, go_sem, z0, z1, z2, z3, gl, size_setCell]; done)) rfl ⟨rfl, ?_⟩
      (repeat' (first | (with_reducible exact Below.refl _ _) | (with_reducible assumption) | (with_reducible refine balloc ?_) | (with_reducible refine bdrew ?_) | (with_reducible refine bset ?_ (by (try dsimp only); omega)) | (with_reducible refine bvia ?_ (by assumption))))
end Go.Proofs.YtogkbddniacgiaaDoor
namespace Go.Proofs.YtogkbddniacgiaaDoor
set_option linter.unusedSimpArgs false
set_option linter.unusedVariables false
open Go Go.RowKit
theorem four_boxes (w : World) (t : TypeId) (x y z u : Array Value) : let W := (((w.alloc (.cells x t)).alloc (.cells y t)).alloc (.cells z t)).alloc (.cells u t)
    Blk W w.heap.size t x ∧ Blk W (w.heap.size + 1) t y ∧ Blk W (w.heap.size + 1 + 1) t z ∧ Blk W (w.heap.size + 1 + 1 + 1) t u ∧ Below w.heap.size w W := by
  intro W
  obtain ⟨h1, h2, h3, h4⟩ := three_boxes w t x y z
  refine ⟨h1.alloc _, h2.alloc _, h3.alloc _, ?_, h4.alloc h4.size _⟩
  have s1 : (w.alloc (.cells x t)).heap.size = w.heap.size + 1 := Array.size_push _
  have s2 : ((w.alloc (.cells x t)).alloc (.cells y t)).heap.size = w.heap.size + 1 + 1 := by rw [← s1]; exact Array.size_push _
  have s3 : (((w.alloc (.cells x t)).alloc (.cells y t)).alloc (.cells z t)).heap.size = w.heap.size + 1 + 1 + 1 := by rw [← s2]; exact Array.size_push _
  have := Blk.new (((w.alloc (.cells x t)).alloc (.cells y t)).alloc (.cells z t)) t u
  rw [s3] at this
  exact this
theorem KeepT.set {T : Nat → Prop} {w w' : World} {p : Addr} {u : Value} (h : KeepT T w w') (hp : ¬ T p.block) : KeepT T w (w'.setCell p u) :=
  ⟨by rw [size_setCell]; exact h.size, fun b hb ht => (Below.heap_setCell _ _ _ _ (fun e => hp (e ▸ ht))).trans (h.block b hb ht)⟩
theorem Keep.set4 {T : Nat → Prop} {t : Bool} {w : World} {X : Prop} {b : Nat} {x y z u : Value} (hp : ¬ T b) (h : X) : Keep T t w ((((w.setCell ⟨b, 0, none⟩ x).setCell ⟨b, 1, none⟩ y).setCell ⟨b, 2, none⟩ z).setCell ⟨b, 3, none⟩ u) X :=
  Keep.kept (((((KeepT.refl T w).set hp).set hp).set hp).set hp) h
theorem Keep.set4D {T : Nat → Prop} {t : Bool} {w : World} {X : Prop} {b : Nat} {x y z u : Value} (hp : ¬ T b) (h : X) : Keep T t w.drew ((((w.setCell ⟨b, 0, none⟩ x).setCell ⟨b, 1, none⟩ y).setCell ⟨b, 2, none⟩ z).setCell ⟨b, 3, none⟩ u).drew X :=
  Keep.set4 (w := w.drew) hp h
set_option maxRecDepth 20000 in
set_option maxHeartbeats 2000000 in
theorem swap_any (a b : Opn) (w : World) (ha : a.In) (hb : b.In) (h0 : 0 ≤ b.at_) : Calls Tryd.prog 61 #[a.agg, b.agg] w fun e w' => e = .returned (.tuple (if (backOf b a).2 then #[(backOf b a).1.agg, (Tof a (backOf b a).1).agg, .bool true] else #[a.agg, b.agg, .bool false])) ∧ Below w.heap.size w w' := by
  obtain ⟨hA, hB, hZ, hY, hW⟩ := four_boxes w 58 (opCells a) (opCells b) #[.int .i64 0, .int .i64 0, .int .i32 0, .int .i64 0] #[.int .i64 0, .int .i64 0, .int .i32 0, .int .i64 0]
  have HB := hid (fun W => back_any b a W hb h0)
  generalize hf : backOf b a = f at *
  obtain ⟨x, ok⟩ := f
  have HT := hid (fun W => T_any a x W ha)
  generalize hy : Tof a x = y at *
  have hs := hW.size
  have hnT := hid (show ¬ (fun b => b ≠ w.heap.size + 1 + 1) (w.heap.size + 1 + 1) from fun h => h rfl)
  have n1 : w.heap.size ≠ w.heap.size + 1 + 1 := by omega
  have n2 : w.heap.size + 1 ≠ w.heap.size + 1 + 1 := by omega
  clear hf hy
  unfold Opn.agg at HB HT ⊢
  unfold opCells at hA hB hW hZ hY hs
  cases ok
  · simp only [Bool.false_eq_true, if_false]
    go_enter Tryd.func61, Tryd.ntmps61
    obtain ⟨a0, a1, a2, a3, f0, f1, f2, f3, fl⟩ := hA.four
    obtain ⟨p0, p1, p2, p3, -, -, -, -, pl⟩ := hB.four
    repeat' (first | (with_reducible refine stop_region 3 ?_) | (go_at_call 41; go_must ((with_reducible refine Calls.mono (HB.out _) ?_); rintro _ W2 ⟨rfl, hb2⟩; have eX := balloc (o := .cells #[.int .i64 x.kind, .int .i64 x.at_, .int .i32 x.char, .int .i64 x.rep] 58) (Below.refl _ W2); have hA2 := ((hA.step hb2).step eX).drew; have hB2 := ((hB.step hb2).step eX).drew; have hZ2 := ((hZ.step hb2).step eX).drew; have hY2 := ((hY.step hb2).step eX).drew; obtain ⟨b0, b1, b2, b3, -, -, -, -, bl⟩ := (hA.step hb2).four; obtain ⟨q0, q1, q2, q3, -, -, -, -, ql⟩ := (hB.step hb2).four; obtain ⟨z0, z1, z2, z3, g0, g1, g2, g3, gl⟩ := (hZ.step hb2).four; obtain ⟨y0, y1, y2, y3, h0, h1, h2, h3, hl⟩ := (hY.step hb2).four; have vA := hA2; unfold Blk at vA; have vB := hB2; unfold Blk at vB; dsimp only)) | (with_reducible refine Keep.last ?_) | (with_reducible refine Keep.below (by assumption) ?_) | (with_reducible refine Keep.kept (by assumption) ?_) | (with_reducible refine Keep.alloc ?_) | (with_reducible refine Keep.same ?_) | ((with_reducible refine WpH.here ?_); first | (refine WpH.nil ?_; refine NoP.normal ?_) | (refine WpH.load (by rfl) (by rfl) (by go_simp; rfl) ?_; simp only [Act.put, List.setIfInBounds_toArray, List.set_cons_zero, List.set_cons_succ]) | (refine WpH.loadT (by rfl) (by rfl) (by go_simp; rfl) (by rintro _ _ ⟨⟩; exact ⟨_, _, _, _, _, _, by rfl, by assumption, by assumption⟩) ?_; simp only [Act.put, List.setIfInBounds_toArray, List.set_cons_zero, List.set_cons_succ]) | (refine WpH.pure (by rfl) (fun w_ => by go_simp; (try go_bits); rfl) ?_; simp only [Act.put, List.setIfInBounds_toArray, List.set_cons_zero, List.set_cons_succ]) | (refine WpH.wild1 (by rfl) (fun _ _ => ?_)) | (refine WpH.skip (by rfl) ?_; simp only [Act.put, List.setIfInBounds_toArray, List.set_cons_zero, List.set_cons_succ])) | go_values | go_skip | go_guarded | go_step | go_upon | go_back)
    refine Stop.go ?_
    have hX := bvia hW hb2
    have hX := balloc (o := .cells #[.int .i64 x.kind, .int .i64 x.at_, .int .i32 x.char, .int .i64 x.rep] 58) hX
    generalize W2.alloc (.cells #[.int .i64 x.kind, .int .i64 x.at_, .int .i32 x.char, .int .i64 x.rep] 58) = X at *
    obtain ⟨b0, b1, b2, b3, -, -, -, -, bl⟩ := Blk.four (w := X) hA2
    obtain ⟨q0, q1, q2, q3, -, -, -, -, ql⟩ := Blk.four (w := X) hB2
    obtain ⟨z0, z1, z2, z3, g0, g1, g2, g3, gl⟩ := Blk.four (w := X) hZ2
    obtain ⟨y0, y1, y2, y3, h0, h1, h2, h3, hl⟩ := Blk.four (w := X) hY2
    repeat' (first | ((with_reducible refine region_at 3 ?_); refine wp_region_orderT (fun b => b ≠ w.heap.size + 1 + 1) [(0, true, false), (1, true, false), (2, false, false), (3, false, true), (4, true, false)] (by kernel_rfl) (by kernel_rfl) (by kernel_rfl) rfl rfl ?_) | (with_reducible refine Keep.last ?_) | (with_reducible refine Keep.set4 (T := fun b => b ≠ w.heap.size + 1 + 1) hnT.out ?_) | (with_reducible refine Keep.set4D (T := fun b => b ≠ w.heap.size + 1 + 1) hnT.out ?_) | (with_reducible refine Keep.last ?_) | (with_reducible refine Keep.below (by assumption) ?_) | (with_reducible refine Keep.kept (by assumption) ?_) | (with_reducible refine Keep.alloc ?_) | (with_reducible refine Keep.same ?_) | ((with_reducible refine WpH.here ?_); first | (refine WpH.nil ?_; refine NoP.normal ?_) | (refine WpH.load (by rfl) (by rfl) (by go_simp; rfl) ?_; simp only [Act.put, List.setIfInBounds_toArray, List.set_cons_zero, List.set_cons_succ]) | (refine WpH.loadT (by rfl) (by rfl) (by go_simp; rfl) (by rintro _ _ ⟨⟩; exact ⟨_, _, _, _, _, _, by rfl, by assumption, by assumption⟩) ?_; simp only [Act.put, List.setIfInBounds_toArray, List.set_cons_zero, List.set_cons_succ]) | (refine WpH.pure (by rfl) (fun w_ => by go_simp; (try go_bits); rfl) ?_; simp only [Act.put, List.setIfInBounds_toArray, List.set_cons_zero, List.set_cons_succ]) | (refine WpH.wild1 (by rfl) (fun _ _ => ?_)) | (refine WpH.skip (by rfl) ?_; simp only [Act.put, List.setIfInBounds_toArray, List.set_cons_zero, List.set_cons_succ])) | go_values | go_skip | go_guarded | go_step | go_upon | go_back)
    skip
    refine bodyPost_ret (v := .tuple #[.agg #[.int .i64 a.kind, .int .i64 a.at_, .int .i32 a.char, .int .i64 a.rep], .agg #[.int .i64 b.kind, .int .i64 b.at_, .int .i32 b.char, .int .i64 b.rep], .bool false]) (by simp [results, Tryd.results61, go_sem, z0, z1, z2, z3, y0, y1, y2, y3, gl, hl, size_setCell]) rfl ⟨rfl, ?_⟩
    (repeat' (first | (with_reducible exact Below.refl _ _) | (with_reducible assumption) | (with_reducible refine balloc ?_) | (with_reducible refine bdrew ?_) | (with_reducible refine bset ?_ (by (try dsimp only); omega)) | (with_reducible refine bvia ?_ (by assumption))))
  · simp only [if_true]
    go_enter Tryd.func61, Tryd.ntmps61
    obtain ⟨a0, a1, a2, a3, f0, f1, f2, f3, fl⟩ := hA.four
    obtain ⟨p0, p1, p2, p3, -, -, -, -, pl⟩ := hB.four
    repeat' (first | ((with_reducible refine region_at 4 ?_); refine wp_region_orderT (fun b => b ≠ w.heap.size + 1 + 1) [(0, true, false), (1, true, false), (2, true, false), (3, false, false), (4, false, false), (5, false, true), (6, true, false)] (by kernel_rfl) (by kernel_rfl) (by kernel_rfl) rfl rfl ?_) | (with_reducible refine Keep.last ?_) | (with_reducible refine Keep.set4 (T := fun b => b ≠ w.heap.size + 1 + 1) hnT.out ?_) | (with_reducible refine Keep.set4D (T := fun b => b ≠ w.heap.size + 1 + 1) hnT.out ?_) | (go_at_call 41; go_must ((with_reducible refine Calls.mono (HB.out _) ?_); rintro _ W2 ⟨rfl, hb2⟩; have eX := balloc (o := .cells #[.int .i64 x.kind, .int .i64 x.at_, .int .i32 x.char, .int .i64 x.rep] 58) (Below.refl _ W2); have hA2 := ((hA.step hb2).step eX).drew; have hX2 := (Blk.new W2 58 #[.int .i64 x.kind, .int .i64 x.at_, .int .i32 x.char, .int .i64 x.rep]).drew; have hZ2 := ((hZ.step hb2).step eX).drew; have hY2 := ((hY.step hb2).step eX).drew; obtain ⟨b0, b1, b2, b3, -, -, -, -, bl⟩ := (hA.step hb2).four; have vA := hA2; unfold Blk at vA; have vX := hX2; unfold Blk at vX; have hyl := (hY.step hb2).lt; have nX : W2.heap.size ≠ w.heap.size + 1 + 1 := (by omega); dsimp only)) | (go_at_call 30; go_must ((with_reducible refine Calls.mono (HT.out _) ?_); rintro _ W3 ⟨rfl, hb3⟩; obtain ⟨c0, c1, c2, c3, -, -, -, -, cl⟩ := (hA2.step hb3).four; obtain ⟨x0, x1, x2, x3, -, -, -, -, xl⟩ := (hX2.step hb3).four; obtain ⟨z0, z1, z2, z3, g0, g1, g2, g3, gl⟩ := (hZ2.step hb3).four; obtain ⟨y0, y1, y2, y3, h0, h1, h2, h3, hl⟩ := (hY2.step hb3).four; dsimp only)) | (with_reducible refine Keep.last ?_) | (with_reducible refine Keep.below (by assumption) ?_) | (with_reducible refine Keep.kept (by assumption) ?_) | (with_reducible refine Keep.alloc ?_) | (with_reducible refine Keep.same ?_) | ((with_reducible refine WpH.here ?_); first | (refine WpH.nil ?_; refine NoP.normal ?_) | (refine WpH.load (by rfl) (by rfl) (by go_simp; rfl) ?_; simp only [Act.put, List.setIfInBounds_toArray, List.set_cons_zero, List.set_cons_succ]) | (refine WpH.loadT (by rfl) (by rfl) (by go_simp; rfl) (by rintro _ _ ⟨⟩; exact ⟨_, _, _, _, _, _, by rfl, by assumption, by assumption⟩) ?_; simp only [Act.put, List.setIfInBounds_toArray, List.set_cons_zero, List.set_cons_succ]) | (refine WpH.pure (by rfl) (fun w_ => by go_simp; (try go_bits); rfl) ?_; simp only [Act.put, List.setIfInBounds_toArray, List.set_cons_zero, List.set_cons_succ]) | (refine WpH.wild1 (by rfl) (fun _ _ => ?_)) | (refine WpH.skip (by rfl) ?_; simp only [Act.put, List.setIfInBounds_toArray, List.set_cons_zero, List.set_cons_succ])) | go_values | go_skip | go_guarded | go_step | go_upon | go_back)
    skip
    refine bodyPost_ret (v := .tuple #[.agg #[.int .i64 x.kind, .int .i64 x.at_, .int .i32 x.char, .int .i64 x.rep], .agg #[.int .i64 y.kind, .int .i64 y.at_, .int .i32 y.char, .int .i64 y.rep], .bool true]) (by simp [results, Tryd.results61, go_sem, z0, z1, z2, z3, y0, y1, y2, y3, gl, hl, size_setCell]) rfl ⟨rfl, ?_⟩
    (repeat' (first | (with_reducible exact Below.refl _ _) | (with_reducible assumption) | (with_reducible refine balloc ?_) | (with_reducible refine bdrew ?_) | (with_reducible refine bset ?_ (by (try dsimp only); omega)) | (with_reducible refine bvia ?_ (by assumption))))
set_option maxRecDepth 20000 in
set_option maxHeartbeats 2000000 in
theorem refSwap_any (a b : Opn) (w : World) (ha : a.In) (hb : b.In) (h0 : 0 ≤ b.at_) : Calls Tryd.prog 62 #[a.agg, b.agg] w fun e w' => e = .returned (.tuple (if (refBackOf b a).2 then #[(refBackOf b a).1.agg, (Tof a (refBackOf b a).1).agg, .bool true] else #[a.agg, b.agg, .bool false])) ∧ Below w.heap.size w w' := by
  obtain ⟨hA, hB, hZ, hY, hW⟩ := four_boxes w 58 (opCells a) (opCells b) #[.int .i64 0, .int .i64 0, .int .i32 0, .int .i64 0] #[.int .i64 0, .int .i64 0, .int .i32 0, .int .i64 0]
  have HB := hid (fun W => refBack_any b a W hb h0)
  generalize hf : refBackOf b a = f at *
  obtain ⟨x, ok⟩ := f
  have HT := hid (fun W => refT_any a x W ha)
  generalize hy : Tof a x = y at *
  have hs := hW.size
  have hnT := hid (show ¬ (fun b => b ≠ w.heap.size + 1 + 1) (w.heap.size + 1 + 1) from fun h => h rfl)
  have n1 : w.heap.size ≠ w.heap.size + 1 + 1 := by omega
  have n2 : w.heap.size + 1 ≠ w.heap.size + 1 + 1 := by omega
  clear hf hy
  unfold Opn.agg at HB HT ⊢
  unfold opCells at hA hB hW hZ hY hs
  cases ok
  · simp only [Bool.false_eq_true, if_false]
    go_enter Tryd.func62, Tryd.ntmps62
    obtain ⟨a0, a1, a2, a3, f0, f1, f2, f3, fl⟩ := hA.four
    obtain ⟨p0, p1, p2, p3, -, -, -, -, pl⟩ := hB.four
    repeat' (first | (with_reducible refine stop_region 3 ?_) | (go_at_call 42; go_must ((with_reducible refine Calls.mono (HB.out _) ?_); rintro _ W2 ⟨rfl, hb2⟩; have eX := balloc (o := .cells #[.int .i64 x.kind, .int .i64 x.at_, .int .i32 x.char, .int .i64 x.rep] 58) (Below.refl _ W2); have hA2 := ((hA.step hb2).step eX).drew; have hB2 := ((hB.step hb2).step eX).drew; have hZ2 := ((hZ.step hb2).step eX).drew; have hY2 := ((hY.step hb2).step eX).drew; obtain ⟨b0, b1, b2, b3, -, -, -, -, bl⟩ := (hA.step hb2).four; obtain ⟨q0, q1, q2, q3, -, -, -, -, ql⟩ := (hB.step hb2).four; obtain ⟨z0, z1, z2, z3, g0, g1, g2, g3, gl⟩ := (hZ.step hb2).four; obtain ⟨y0, y1, y2, y3, h0, h1, h2, h3, hl⟩ := (hY.step hb2).four; have vA := hA2; unfold Blk at vA; have vB := hB2; unfold Blk at vB; dsimp only)) | (with_reducible refine Keep.last ?_) | (with_reducible refine Keep.below (by assumption) ?_) | (with_reducible refine Keep.kept (by assumption) ?_) | (with_reducible refine Keep.alloc ?_) | (with_reducible refine Keep.same ?_) | ((with_reducible refine WpH.here ?_); first | (refine WpH.nil ?_; refine NoP.normal ?_) | (refine WpH.load (by rfl) (by rfl) (by go_simp; rfl) ?_; simp only [Act.put, List.setIfInBounds_toArray, List.set_cons_zero, List.set_cons_succ]) | (refine WpH.loadT (by rfl) (by rfl) (by go_simp; rfl) (by rintro _ _ ⟨⟩; exact ⟨_, _, _, _, _, _, by rfl, by assumption, by assumption⟩) ?_; simp only [Act.put, List.setIfInBounds_toArray, List.set_cons_zero, List.set_cons_succ]) | (refine WpH.pure (by rfl) (fun w_ => by go_simp; (try go_bits); rfl) ?_; simp only [Act.put, List.setIfInBounds_toArray, List.set_cons_zero, List.set_cons_succ]) | (refine WpH.wild1 (by rfl) (fun _ _ => ?_)) | (refine WpH.skip (by rfl) ?_; simp only [Act.put, List.setIfInBounds_toArray, List.set_cons_zero, List.set_cons_succ])) | go_values | go_skip | go_guarded | go_step | go_upon | go_back)
    refine Stop.go ?_
    have hX := bvia hW hb2
    have hX := balloc (o := .cells #[.int .i64 x.kind, .int .i64 x.at_, .int .i32 x.char, .int .i64 x.rep] 58) hX
    generalize W2.alloc (.cells #[.int .i64 x.kind, .int .i64 x.at_, .int .i32 x.char, .int .i64 x.rep] 58) = X at *
    obtain ⟨b0, b1, b2, b3, -, -, -, -, bl⟩ := Blk.four (w := X) hA2
    obtain ⟨q0, q1, q2, q3, -, -, -, -, ql⟩ := Blk.four (w := X) hB2
    obtain ⟨z0, z1, z2, z3, g0, g1, g2, g3, gl⟩ := Blk.four (w := X) hZ2
    obtain ⟨y0, y1, y2, y3, h0, h1, h2, h3, hl⟩ := Blk.four (w := X) hY2
    repeat' (first | ((with_reducible refine region_at 3 ?_); refine wp_region_orderT (fun b => b ≠ w.heap.size + 1 + 1) [(0, true, false), (1, true, false), (2, false, false), (3, false, true), (4, true, false)] (by kernel_rfl) (by kernel_rfl) (by kernel_rfl) rfl rfl ?_) | (with_reducible refine Keep.last ?_) | (with_reducible refine Keep.set4 (T := fun b => b ≠ w.heap.size + 1 + 1) hnT.out ?_) | (with_reducible refine Keep.set4D (T := fun b => b ≠ w.heap.size + 1 + 1) hnT.out ?_) | (with_reducible refine Keep.last ?_) | (with_reducible refine Keep.below (by assumption) ?_) | (with_reducible refine Keep.kept (by assumption) ?_) | (with_reducible refine Keep.alloc ?_) | (with_reducible refine Keep.same ?_) | ((with_reducible refine WpH.here ?_); first | (refine WpH.nil ?_; refine NoP.normal ?_) | (refine WpH.load (by rfl) (by rfl) (by go_simp; rfl) ?_; simp only [Act.put, List.setIfInBounds_toArray, List.set_cons_zero, List.set_cons_succ]) | (refine WpH.loadT (by rfl) (by rfl) (by go_simp; rfl) (by rintro _ _ ⟨⟩; exact ⟨_, _, _, _, _, _, by rfl, by assumption, by assumption⟩) ?_; simp only [Act.put, List.setIfInBounds_toArray, List.set_cons_zero, List.set_cons_succ]) | (refine WpH.pure (by rfl) (fun w_ => by go_simp; (try go_bits); rfl) ?_; simp only [Act.put, List.setIfInBounds_toArray, List.set_cons_zero, List.set_cons_succ]) | (refine WpH.wild1 (by rfl) (fun _ _ => ?_)) | (refine WpH.skip (by rfl) ?_; simp only [Act.put, List.setIfInBounds_toArray, List.set_cons_zero, List.set_cons_succ])) | go_values | go_skip | go_guarded | go_step | go_upon | go_back)
    skip
    refine bodyPost_ret (v := .tuple #[.agg #[.int .i64 a.kind, .int .i64 a.at_, .int .i32 a.char, .int .i64 a.rep], .agg #[.int .i64 b.kind, .int .i64 b.at_, .int .i32 b.char, .int .i64 b.rep], .bool false]) (by simp [results, Tryd.results62, go_sem, z0, z1, z2, z3, y0, y1, y2, y3, gl, hl, size_setCell]) rfl ⟨rfl, ?_⟩
    (repeat' (first | (with_reducible exact Below.refl _ _) | (with_reducible assumption) | (with_reducible refine balloc ?_) | (with_reducible refine bdrew ?_) | (with_reducible refine bset ?_ (by (try dsimp only); omega)) | (with_reducible refine bvia ?_ (by assumption))))
  · simp only [if_true]
    go_enter Tryd.func62, Tryd.ntmps62
    obtain ⟨a0, a1, a2, a3, f0, f1, f2, f3, fl⟩ := hA.four
    obtain ⟨p0, p1, p2, p3, -, -, -, -, pl⟩ := hB.four
    repeat' (first | ((with_reducible refine region_at 4 ?_); refine wp_region_orderT (fun b => b ≠ w.heap.size + 1 + 1) [(0, true, false), (1, true, false), (2, true, false), (3, false, false), (4, false, false), (5, false, true), (6, true, false)] (by kernel_rfl) (by kernel_rfl) (by kernel_rfl) rfl rfl ?_) | (with_reducible refine Keep.last ?_) | (with_reducible refine Keep.set4 (T := fun b => b ≠ w.heap.size + 1 + 1) hnT.out ?_) | (with_reducible refine Keep.set4D (T := fun b => b ≠ w.heap.size + 1 + 1) hnT.out ?_) | (go_at_call 42; go_must ((with_reducible refine Calls.mono (HB.out _) ?_); rintro _ W2 ⟨rfl, hb2⟩; have eX := balloc (o := .cells #[.int .i64 x.kind, .int .i64 x.at_, .int .i32 x.char, .int .i64 x.rep] 58) (Below.refl _ W2); have hA2 := ((hA.step hb2).step eX).drew; have hX2 := (Blk.new W2 58 #[.int .i64 x.kind, .int .i64 x.at_, .int .i32 x.char, .int .i64 x.rep]).drew; have hZ2 := ((hZ.step hb2).step eX).drew; have hY2 := ((hY.step hb2).step eX).drew; obtain ⟨b0, b1, b2, b3, -, -, -, -, bl⟩ := (hA.step hb2).four; have vA := hA2; unfold Blk at vA; have vX := hX2; unfold Blk at vX; have hyl := (hY.step hb2).lt; have nX : W2.heap.size ≠ w.heap.size + 1 + 1 := (by omega); dsimp only)) | (go_at_call 31; go_must ((with_reducible refine Calls.mono (HT.out _) ?_); rintro _ W3 ⟨rfl, hb3⟩; obtain ⟨c0, c1, c2, c3, -, -, -, -, cl⟩ := (hA2.step hb3).four; obtain ⟨x0, x1, x2, x3, -, -, -, -, xl⟩ := (hX2.step hb3).four; obtain ⟨z0, z1, z2, z3, g0, g1, g2, g3, gl⟩ := (hZ2.step hb3).four; obtain ⟨y0, y1, y2, y3, h0, h1, h2, h3, hl⟩ := (hY2.step hb3).four; dsimp only)) | (with_reducible refine Keep.last ?_) | (with_reducible refine Keep.below (by assumption) ?_) | (with_reducible refine Keep.kept (by assumption) ?_) | (with_reducible refine Keep.alloc ?_) | (with_reducible refine Keep.same ?_) | ((with_reducible refine WpH.here ?_); first | (refine WpH.nil ?_; refine NoP.normal ?_) | (refine WpH.load (by rfl) (by rfl) (by go_simp; rfl) ?_; simp only [Act.put, List.setIfInBounds_toArray, List.set_cons_zero, List.set_cons_succ]) | (refine WpH.loadT (by rfl) (by rfl) (by go_simp; rfl) (by rintro _ _ ⟨⟩; exact ⟨_, _, _, _, _, _, by rfl, by assumption, by assumption⟩) ?_; simp only [Act.put, List.setIfInBounds_toArray, List.set_cons_zero, List.set_cons_succ]) | (refine WpH.pure (by rfl) (fun w_ => by go_simp; (try go_bits); rfl) ?_; simp only [Act.put, List.setIfInBounds_toArray, List.set_cons_zero, List.set_cons_succ]) | (refine WpH.wild1 (by rfl) (fun _ _ => ?_)) | (refine WpH.skip (by rfl) ?_; simp only [Act.put, List.setIfInBounds_toArray, List.set_cons_zero, List.set_cons_succ])) | go_values | go_skip | go_guarded | go_step | go_upon | go_back)
    skip
    refine bodyPost_ret (v := .tuple #[.agg #[.int .i64 x.kind, .int .i64 x.at_, .int .i32 x.char, .int .i64 x.rep], .agg #[.int .i64 y.kind, .int .i64 y.at_, .int .i32 y.char, .int .i64 y.rep], .bool true]) (by simp [results, Tryd.results62, go_sem, z0, z1, z2, z3, y0, y1, y2, y3, gl, hl, size_setCell]) rfl ⟨rfl, ?_⟩
    (repeat' (first | (with_reducible exact Below.refl _ _) | (with_reducible assumption) | (with_reducible refine balloc ?_) | (with_reducible refine bdrew ?_) | (with_reducible refine bset ?_ (by (try dsimp only); omega)) | (with_reducible refine bvia ?_ (by assumption))))
end Go.Proofs.YtogkbddniacgiaaDoor
