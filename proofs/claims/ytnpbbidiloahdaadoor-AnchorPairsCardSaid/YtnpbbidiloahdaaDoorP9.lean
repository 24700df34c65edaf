/- The document's refusal: said, wrapped; a refusal held against it. Conditions: all lies in memory. The document's refusal said; two ways, two lists of numbers alike; a refusal held against the document's. Conditions: all lies in memory. A tree made; its length, its weight; elements laid in and taken out. Conditions: the tree lies in memory apart from its header; for a refusal: the reasons lie in memory. Elements laid in and taken out: the walks of Insert and Remove. Conditions: the tree lies in memory apart from its header, all together fewer than 2^30; for a refusal: the reasons lie in memory. -/
import Derived.Test.YtnpbbidiloahdaaDoorSErr3
import Derived.Laws.StructEq
namespace Go.Proofs.YtnpbbidiloahdaaDoor
set_option linter.unusedSimpArgs false
set_option linter.unusedVariables false
open Go Go.RowKit
variable {S : Nat → Prop} {a : Nat → Addr}

def atOf (n : Int) : Int := if n < 0 then -1 else n
theorem atOf_new (n : Int) : (if n < -1 then -1 else n) = atOf n := by unfold atOf; split <;> split <;> omega
def noNone : Value := .agg #[.int .i64 0, .slice none 0 0, .slice none 0 0]
/-- the document's refusal lies in w -/
def IsNo (w : World) (S : Nat → Prop) (ch : List Lk) (code : Nat) (v : Value) : Prop :=
  1 ≤ code ∧ ∃ A n c B d, v = .agg #[.int .i64 code, .slice A n c, .slice B 1 d] ∧ GRow w S A n c ch ∧ GRow w S B 1 d [(code : Int)]
theorem GRow.fr {α : Type} [Enc α] {w w' : World} {S : Nat → Prop} {A : Option Addr} {n c : Nat} {es : List α} (h : GRow w' S A n c es) : GRow w' (Fr w S) A n c es := h.more fun _ _ h => .inl h
theorem Blk.keepS {w w' : World} {g : Nat} {t : TypeId} {cs : Array Value} {T : Nat → Prop} (h : Blk w g t cs) (hk : Same T w w') (hg : T g) : Blk w' g t cs := (hk g hg h.lt).trans h
/-- a row's block, said anew -/
theorem GRow.re {α : Type} [Enc α] {w : World} {S S' : Nat → Prop} {A : Option Addr} {n c : Nat} {es : List α} (h : GRow w S A n c es) (hS : ∀ x, A = some x → S' x.block) : GRow w S' A n c es := by
  refine ⟨h.1, h.2.1, h.2.2.1, fun hn => ?_⟩
  obtain ⟨b, off, e, _, hb, hc⟩ := h.2.2.2 hn
  exact ⟨b, off, e, hS _ e, hb, hc⟩
/-- the three blocks of a wrapped refusal -/
theorem wrap_cells (w : World) (x y z u : Value) (l c : ByteArray) (n : Int) :
    let W := (((w.alloc (.cells #[x, y, z] 44)).alloc (.cells #[u, .slice none 0 0, .slice none 0 0] 44)).alloc (.cells #[.string l, .string c, .int .i64 n] 123)).drew
    Blk W w.heap.size 44 #[x, y, z] ∧ Blk W (w.heap.size + 1) 44 #[u, .slice none 0 0, .slice none 0 0] ∧ GOwn 123 W w.heap.size (some ⟨w.heap.size + 1 + 1, 0, none⟩) 1 1 [(⟨l, c, n⟩ : Lk)] ∧ Below w.heap.size w W := by
  intro W
  have h1 : Below w.heap.size w (w.alloc (.cells #[x, y, z] 44)) := (Below.refl _ _).alloc (Nat.le_refl _) _
  have e1 : (w.alloc (.cells #[x, y, z] 44)).heap.size = w.heap.size + 1 := Array.size_push _
  have h2 := h1.alloc (by omega) (.cells #[u, .slice none 0 0, .slice none 0 0] 44)
  have e2 : ((w.alloc (.cells #[x, y, z] 44)).alloc (.cells #[u, .slice none 0 0, .slice none 0 0] 44)).heap.size = w.heap.size + 1 + 1 := by rw [← e1]; exact Array.size_push _
  refine ⟨(((Blk.new w _ _).alloc _).alloc _).drew, ?_, ?_, (h2.alloc (by omega) _).drew⟩
  · have := ((Blk.new (w.alloc (.cells #[x, y, z] 44)) 44 #[u, .slice none 0 0, .slice none 0 0]).alloc (.cells #[.string l, .string c, .int .i64 n] 123)).drew
    rw [e1] at this
    exact this
  · have := GOwn.lit (t := 123) ((w.alloc (.cells #[x, y, z] 44)).alloc (.cells #[u, .slice none 0 0, .slice none 0 0] 44)) #[.string l, .string c, .int .i64 n] [(⟨l, c, n⟩ : Lk)] w.heap.size (by omega) (by show 1 ≤ maxLen; decide) rfl
    rw [e2] at this
    exact this.keep (S := fun _ => True) (Same.drew _ _) fun _ _ => trivial

set_option maxRecDepth 20000 in
set_option maxHeartbeats 1000000 in
theorem wrap_any (l c : ByteArray) (n : Int) (code : Nat) (h1 : 1 ≤ code) (h2 : code ≤ 13) (A : Option Addr) (m d : Nat) (B : Option Addr) (e : Nat) (ch : List Lk) (w : World) (hch : GRow w S A m d ch) (hco : GRow w S B 1 e [(code : Int)]) (hm : m ≤ 1073741824) :
    Calls Tryd.prog 45 #[.string l, .string c, .int .i64 n, .agg #[.int .i64 code, .slice A m d, .slice B 1 e]] w fun e w' => ∃ v, e = .returned v ∧ IsNo w' (Fr w S) (⟨l, c, atOf n⟩ :: ch) code v ∧ Below w.heap.size w w' := by
  by_cases hn : n < 0
  · go_enter Tryd.func45, Tryd.ntmps45
    repeat' (first | (with_reducible refine stop_region 6 ?_) | go_values | go_skip | go_guarded | go_step | go_upon | go_back)
    refine Stop.go ?_
    obtain ⟨hbA, hbB, hoL, hbW⟩ := wrap_cells w (.int .i64 code) (.slice A m d) (.slice B 1 e) (.int .i64 0) l c (-1)
    have hH := hbA
    unfold Blk at hH
    have hrowW := hch.step hbW
    have hzW := hbW.size
    have hT : (fun b => b ≠ w.heap.size + 1 + 1) w.heap.size := by show w.heap.size ≠ _; omega
    dsimp only at hT
    repeat' (first | ((with_reducible refine region_at 6 ?_); refine wp_region_orderT (fun b => b ≠ w.heap.size + 1 + 1) [(0, true, false), (1, true, false), (2, true, false), (3, true, false), (4, true, false), (6, true, false), (7, true, false), (5, false, false), (8, true, false), (9, false, true)] (by kernel_rfl) (by kernel_rfl) (by kernel_rfl) rfl rfl ?_) | ((with_reducible refine app_links_here ?_); refine wp_append_links w.heap.size (some ⟨w.heap.size + 1 + 1, 0, none⟩) A 1 1 m d _ ch _ (by rfl) (by rfl) hoL hrowW hzW (by omega) ?_; intro A' c' w4 hown4 hb4 hsm4 hat4 hz4; have hk4 : KeepT (fun b => b ≠ w.heap.size + 1 + 1) _ w4 := ⟨hz4, fun b hl hb => hsm4 b (by intro g hg; injection hg with hg; subst hg; exact fun e => hb e.symm) hl⟩; have hbB4 : Blk w4 (w.heap.size + 1) 44 #[.int .i64 0, .slice none 0 0, .slice none 0 0] := hbB.keepS hsm4 (by intro g hg; injection hg with hg; subst hg; show w.heap.size + 1 + 1 ≠ w.heap.size + 1; omega); have c40 := hbB4.cell 0; have c41 := hbB4.cell 1; have c42 := hbB4.cell 2; have f40 := hbB4.frozen 0; have f41 := hbB4.frozen 1; have f42 := hbB4.frozen 2; have hl4 := hbB4.lt) | (with_reducible refine Keep.last ?_) | (with_reducible refine Keep.below (by assumption) ?_) | (with_reducible refine Keep.kept (by assumption) ?_) | (with_reducible refine Keep.alloc ?_) | (with_reducible refine Keep.same ?_) | ((with_reducible refine WpH.here ?_); first | (refine WpH.nil ?_; refine NoP.normal ?_) | (refine WpH.load (by rfl) (by rfl) (by go_simp; rfl) ?_; simp only [Act.put, List.setIfInBounds_toArray, List.set_cons_zero, List.set_cons_succ]) | (refine WpH.loadT (by rfl) (by rfl) (by go_simp; rfl) (by rintro _ _ ⟨⟩; exact ⟨_, _, _, _, _, _, by rfl, by assumption, by assumption⟩) ?_; simp only [Act.put, List.setIfInBounds_toArray, List.set_cons_zero, List.set_cons_succ]) | (refine WpH.pure (by rfl) (fun w_ => by go_simp; (try go_bits); rfl) ?_; simp only [Act.put, List.setIfInBounds_toArray, List.set_cons_zero, List.set_cons_succ]) | (refine WpH.wild1 (by rfl) (fun _ _ => ?_)) | (refine WpH.skip (by rfl) ?_; simp only [Act.put, List.setIfInBounds_toArray, List.set_cons_zero, List.set_cons_succ])) | go_values | go_skip | go_guarded | go_step | go_upon | go_back)
    have hB4 := hbW.trans hb4
    have hat1 : (-1) = atOf n := by unfold atOf; split <;> omega
    refine bodyPost_ret (v := .agg #[.int .i64 code, .slice A' (1 + m) c', .slice B 1 e]) (by simp [results, Tryd.results45, go_sem, c40, c41, c42]) rfl ⟨_, rfl, ⟨h1, A', 1 + m, c', B, e, rfl, ?_, ?_⟩, ?_⟩
    · rw [hat1] at hown4
      have hrow4 : GRow w4 (fun b => Fr w S b ∧ b ≠ w.heap.size + 1) A' (1 + m) c' ((⟨l, c, atOf n⟩ : Lk) :: ch) := (hown4.row (S := fun _ => True) fun _ _ _ => trivial).re fun x hx => by
        have hge := (hown4.block x hx).1
        refine ⟨.inr hge, fun e => ?_⟩
        rcases hat4 with h | ⟨g, h, hg⟩
        · rw [h] at hx; injection hx with hx; subst hx; revert e; show ¬ (w.heap.size + 1 + 1 = w.heap.size + 1); omega
        · rw [h] at hx; injection hx with hx; subst hx; have := hbB.lt; revert e; show ¬ (g = w.heap.size + 1); omega
      exact (hrow4.keep (by simp [World.setCell]) (((Same.setCell w4 (fun h => h.2 rfl) _).trans (by simp [World.setCell]) (Same.setCell _ (fun h => h.2 rfl) _)).trans (by simp [World.setCell]) (Same.setCell _ (fun h => h.2 rfl) _))).more fun b _ h => h.1
    · have hlt' : ∀ x, B = some x → True := fun _ _ => trivial
      have hco4 := ((hco.more (S' := fun b => S b ∧ b < w.heap.size) fun b hl h => ⟨h, hl⟩).step hB4)
      have ns : ¬ (S (w.heap.size + 1) ∧ w.heap.size + 1 < w.heap.size) := by omega
      exact (hco4.keep (by simp [World.setCell]) (((Same.setCell w4 ns _).trans (by simp [World.setCell]) (Same.setCell _ ns _)).trans (by simp [World.setCell]) (Same.setCell _ ns _))).more fun b _ h => .inl h.1
    · exact ((hB4.setCell (by show w.heap.size ≤ w.heap.size + 1; omega) _).setCell (by show w.heap.size ≤ w.heap.size + 1; omega) _).setCell (by show w.heap.size ≤ w.heap.size + 1; omega) _
  · go_enter Tryd.func45, Tryd.ntmps45
    repeat' (first | (with_reducible refine stop_region 6 ?_) | (with_reducible refine Keep.last ?_) | (with_reducible refine Keep.below (by assumption) ?_) | (with_reducible refine Keep.kept (by assumption) ?_) | (with_reducible refine Keep.alloc ?_) | (with_reducible refine Keep.same ?_) | ((with_reducible refine WpH.here ?_); first | (refine WpH.nil ?_; refine NoP.normal ?_) | (refine WpH.load (by rfl) (by rfl) (by go_simp; rfl) ?_; simp only [Act.put, List.setIfInBounds_toArray, List.set_cons_zero, List.set_cons_succ]) | (refine WpH.loadT (by rfl) (by rfl) (by go_simp; rfl) (by rintro _ _ ⟨⟩; exact ⟨_, _, _, _, _, _, by rfl, by assumption, by assumption⟩) ?_; simp only [Act.put, List.setIfInBounds_toArray, List.set_cons_zero, List.set_cons_succ]) | (refine WpH.pure (by rfl) (fun w_ => by go_simp; (try go_bits); rfl) ?_; simp only [Act.put, List.setIfInBounds_toArray, List.set_cons_zero, List.set_cons_succ]) | (refine WpH.wild1 (by rfl) (fun _ _ => ?_)) | (refine WpH.skip (by rfl) ?_; simp only [Act.put, List.setIfInBounds_toArray, List.set_cons_zero, List.set_cons_succ])) | go_values | go_skip | go_guarded | go_step | go_upon | go_back)
    refine Stop.go ?_
    obtain ⟨hbA, hbB, hoL, hbW⟩ := wrap_cells w (.int .i64 code) (.slice A m d) (.slice B 1 e) (.int .i64 0) l c n
    have hH := hbA
    unfold Blk at hH
    have hrowW := hch.step hbW
    have hzW := hbW.size
    have hT : (fun b => b ≠ w.heap.size + 1 + 1) w.heap.size := by show w.heap.size ≠ _; omega
    dsimp only at hT
    repeat' (first | ((with_reducible refine region_at 6 ?_); refine wp_region_orderT (fun b => b ≠ w.heap.size + 1 + 1) [(0, true, false), (1, true, false), (2, true, false), (3, true, false), (4, true, false), (6, true, false), (7, true, false), (5, false, false), (8, true, false), (9, false, true)] (by kernel_rfl) (by kernel_rfl) (by kernel_rfl) rfl rfl ?_) | ((with_reducible refine app_links_here ?_); refine wp_append_links w.heap.size (some ⟨w.heap.size + 1 + 1, 0, none⟩) A 1 1 m d _ ch _ (by rfl) (by rfl) hoL hrowW hzW (by omega) ?_; intro A' c' w4 hown4 hb4 hsm4 hat4 hz4; have hk4 : KeepT (fun b => b ≠ w.heap.size + 1 + 1) _ w4 := ⟨hz4, fun b hl hb => hsm4 b (by intro g hg; injection hg with hg; subst hg; exact fun e => hb e.symm) hl⟩; have hbB4 : Blk w4 (w.heap.size + 1) 44 #[.int .i64 0, .slice none 0 0, .slice none 0 0] := hbB.keepS hsm4 (by intro g hg; injection hg with hg; subst hg; show w.heap.size + 1 + 1 ≠ w.heap.size + 1; omega); have c40 := hbB4.cell 0; have c41 := hbB4.cell 1; have c42 := hbB4.cell 2; have f40 := hbB4.frozen 0; have f41 := hbB4.frozen 1; have f42 := hbB4.frozen 2; have hl4 := hbB4.lt) | (with_reducible refine Keep.last ?_) | (with_reducible refine Keep.below (by assumption) ?_) | (with_reducible refine Keep.kept (by assumption) ?_) | (with_reducible refine Keep.alloc ?_) | (with_reducible refine Keep.same ?_) | ((with_reducible refine WpH.here ?_); first | (refine WpH.nil ?_; refine NoP.normal ?_) | (refine WpH.load (by rfl) (by rfl) (by go_simp; rfl) ?_; simp only [Act.put, List.setIfInBounds_toArray, List.set_cons_zero, List.set_cons_succ]) | (refine WpH.loadT (by rfl) (by rfl) (by go_simp; rfl) (by rintro _ _ ⟨⟩; exact ⟨_, _, _, _, _, _, by rfl, by assumption, by assumption⟩) ?_; simp only [Act.put, List.setIfInBounds_toArray, List.set_cons_zero, List.set_cons_succ]) | (refine WpH.pure (by rfl) (fun w_ => by go_simp; (try go_bits); rfl) ?_; simp only [Act.put, List.setIfInBounds_toArray, List.set_cons_zero, List.set_cons_succ]) | (refine WpH.wild1 (by rfl) (fun _ _ => ?_)) | (refine WpH.skip (by rfl) ?_; simp only [Act.put, List.setIfInBounds_toArray, List.set_cons_zero, List.set_cons_succ])) | go_values | go_skip | go_guarded | go_step | go_upon | go_back)
    have hB4 := hbW.trans hb4
    have hat1 : n = atOf n := by unfold atOf; split <;> omega
    refine bodyPost_ret (v := .agg #[.int .i64 code, .slice A' (1 + m) c', .slice B 1 e]) (by simp [results, Tryd.results45, go_sem, c40, c41, c42]) rfl ⟨_, rfl, ⟨h1, A', 1 + m, c', B, e, rfl, ?_, ?_⟩, ?_⟩
    · rw [hat1] at hown4
      have hrow4 : GRow w4 (fun b => Fr w S b ∧ b ≠ w.heap.size + 1) A' (1 + m) c' ((⟨l, c, atOf n⟩ : Lk) :: ch) := (hown4.row (S := fun _ => True) fun _ _ _ => trivial).re fun x hx => by
        have hge := (hown4.block x hx).1
        refine ⟨.inr hge, fun e => ?_⟩
        rcases hat4 with h | ⟨g, h, hg⟩
        · rw [h] at hx; injection hx with hx; subst hx; revert e; show ¬ (w.heap.size + 1 + 1 = w.heap.size + 1); omega
        · rw [h] at hx; injection hx with hx; subst hx; have := hbB.lt; revert e; show ¬ (g = w.heap.size + 1); omega
      exact (hrow4.keep (by simp [World.setCell]) (((Same.setCell w4 (fun h => h.2 rfl) _).trans (by simp [World.setCell]) (Same.setCell _ (fun h => h.2 rfl) _)).trans (by simp [World.setCell]) (Same.setCell _ (fun h => h.2 rfl) _))).more fun b _ h => h.1
    · have hlt' : ∀ x, B = some x → True := fun _ _ => trivial
      have hco4 := ((hco.more (S' := fun b => S b ∧ b < w.heap.size) fun b hl h => ⟨h, hl⟩).step hB4)
      have ns : ¬ (S (w.heap.size + 1) ∧ w.heap.size + 1 < w.heap.size) := by omega
      exact (hco4.keep (by simp [World.setCell]) (((Same.setCell w4 ns _).trans (by simp [World.setCell]) (Same.setCell _ ns _)).trans (by simp [World.setCell]) (Same.setCell _ ns _))).more fun b _ h => .inl h.1
    · exact ((hB4.setCell (by show w.heap.size ≤ w.heap.size + 1; omega) _).setCell (by show w.heap.size ≤ w.heap.size + 1; omega) _).setCell (by show w.heap.size ≤ w.heap.size + 1; omega) _
end Go.Proofs.YtnpbbidiloahdaaDoor
namespace Go.Proofs.YtnpbbidiloahdaaDoor
set_option linter.unusedSimpArgs false
set_option linter.unusedVariables false
open Go Go.RowKit
variable {S : Nat → Prop} {a : Nat → Addr}

set_option maxRecDepth 20000 in
theorem say_any (l c : ByteArray) (n : Int) (code : Nat) (h1 : 1 ≤ code) (h2 : code ≤ 13) (S : Nat → Prop) (w : World) :
    Calls Tryd.prog 23 #[.string l, .string c, .int .i64 n, .int .i64 code] w fun e w' => ∃ v, e = .returned v ∧ IsNo w' (Fr w S) [⟨l, c, atOf n⟩] code v ∧ Below w.heap.size w w' := by
  have b1 : Below w.heap.size w (w.alloc (.cells #[.int .i64 0, .slice none 0 0, .slice none 0 0] 44)) := (Below.refl _ _).alloc (Nat.le_refl _) _
  have e1 : (w.alloc (.cells #[.int .i64 0, .slice none 0 0, .slice none 0 0] 44)).heap.size = w.heap.size + 1 := Array.size_push _
  have b2 := b1.alloc (by omega) (.cells #[.int .i64 code] 3)
  have hB := ((Blk.new w 44 #[.int .i64 0, .slice none 0 0, .slice none 0 0]).alloc (.cells #[.int .i64 code] 3))
  have hco : GRow ((w.alloc (.cells #[.int .i64 0, .slice none 0 0, .slice none 0 0] 44)).alloc (.cells #[.int .i64 code] 3)) (fun b => Fr w S b ∧ b ≠ w.heap.size) (some ⟨w.heap.size + 1, 0, none⟩) 1 1 [(code : Int)] := by
    have := (GOwn.lit (t := 3) (w.alloc (.cells #[.int .i64 0, .slice none 0 0, .slice none 0 0] 44)) #[.int .i64 code] [(code : Int)] w.heap.size (by omega) (by show 1 ≤ maxLen; decide) rfl).row (S := fun _ => True) (fun _ _ _ => trivial) |>.re (S' := fun b => Fr w S b ∧ b ≠ w.heap.size) fun x hx => by injection hx with hx; subst hx; exact ⟨.inr (Nat.le_trans (Nat.le_succ _) (Nat.le_of_eq e1.symm)), by show Array.size _ ≠ _; rw [e1]; omega⟩
    rw [e1] at this
    exact this
  have hch : GRow ((w.alloc (.cells #[.int .i64 0, .slice none 0 0, .slice none 0 0] 44)).alloc (.cells #[.int .i64 code] 3)) (fun b => Fr w S b ∧ b ≠ w.heap.size) none 0 0 ([] : List Lk) := GRow.nil _ _ _ _ (Nat.zero_le _)
  have hz2 := b2.size
  go_enter Tryd.func23, Tryd.ntmps23
  repeat' (first | (go_at_call 45; go_must ((with_reducible refine (wrap_any l c n code h1 h2 none 0 0 (some ⟨w.heap.size + 1, 0, none⟩) 1 [] _ hch hco (by omega)).mono ?_); rintro _ w3 ⟨v3, rfl, ⟨_, A, m, d, B, k, rfl, hr1, hr2⟩, hb3⟩; have hB3 := hB.step hb3; have c0 := hB3.cell 0; have c1 := hB3.cell 1; have c2 := hB3.cell 2; have f0 := hB3.frozen 0; have f1 := hB3.frozen 1; have f2 := hB3.frozen 2; dsimp only)) | go_values | go_skip | go_guarded | go_step | go_upon | go_back)
  have hbb := b2.trans (hb3.mono hz2)
  have hlt := hB.lt
  have hns : ¬ (Fr w S w.heap.size ∧ w.heap.size ≠ w.heap.size) := fun h => h.2 rfl
  have hre : ∀ b, Fr ((w.alloc (.cells #[.int .i64 0, .slice none 0 0, .slice none 0 0] 44)).alloc (.cells #[.int .i64 code] 3)) (fun b => Fr w S b ∧ b ≠ w.heap.size) b → Fr w S b ∧ b ≠ w.heap.size := by
    intro b h
    rcases h with h | h
    · exact h
    · exact ⟨.inr (Nat.le_trans hz2 h), by omega⟩
  have sm : ∀ x y z : Value, Same (fun b => Fr w S b ∧ b ≠ w.heap.size) w3 (((w3.setCell ⟨w.heap.size, 0, none⟩ x).setCell ⟨w.heap.size, 1, none⟩ y).setCell ⟨w.heap.size, 2, none⟩ z) := fun x y z =>
    ((Same.setCell w3 hns _).trans (by simp [World.setCell]) (Same.setCell _ hns _)).trans (by simp [World.setCell]) (Same.setCell _ hns _)
  refine bodyPost_ret (v := .agg #[.int .i64 code, .slice A m d, .slice B 1 k]) (by simp [results, Tryd.results23, go_sem, c0, c1, c2]) rfl ⟨_, rfl, ⟨h1, A, m, d, B, k, rfl, ?_, ?_⟩, ?_⟩
  · exact ((hr1.more fun b _ h => hre b h).keep (by simp [World.setCell]) (sm _ _ _)).more fun b _ h => h.1
  · exact ((hr2.more fun b _ h => hre b h).keep (by simp [World.setCell]) (sm _ _ _)).more fun b _ h => h.1
  · exact ((hbb.setCell (Nat.le_refl _) _).setCell (Nat.le_refl _) _).setCell (Nat.le_refl _) _
theorem links_eq (A : Option Addr) (n c : Nat) (B : Option Addr) (d : Nat) (ch : List Lk) (S S' : Nat → Prop) (w : World) (h1 : GRow w S A n c ch) (h2 : GRow w S' B n d ch) :
    Calls Tryd.prog 41 #[.slice A n c, .slice B n d] w fun e w' => e = .returned (.bool true) ∧ Below w.heap.size w w' := by
  have hn := h1.len_le
  have hm : maxLen = 9223372036854775807 := rfl
  have hnc := h1.2.1
  have hnd := h2.2.1
  go_enter Tryd.func41, Tryd.ntmps41
  go_wp2
  go_loopw [5] (fun i wr => ∃ k : Nat, i = .int .i64 k ∧ k ≤ n ∧ Below w.heap.size w wr) (fun i _ => n - (intOf i).toNat)
  case atStart => exact ⟨0, rfl, Nat.zero_le _, Below.refl _ _⟩
  case round =>
    obtain ⟨k, rfl, hk, hb⟩ := hrel
    by_cases e : k < n
    · obtain ⟨b1, o1, l1, rfl, _, hlt1, he1, c1⟩ := (h1.step hb).at_ e
      obtain ⟨b2, o2, l2, rfl, _, hlt2, he2, c2⟩ := (h2.step hb).at_ e
      obtain rfl : l1 = l2 := Option.some.inj (he1.symm.trans he2)
      have p0 : wr.drew.cell? ⟨b1, o1 + k * 3, none⟩ = some (.string l1.layer) := c1 0 _ rfl
      have p1 : wr.drew.cell? ⟨b1, o1 + k * 3 + 1, none⟩ = some (.string l1.call) := c1 1 _ rfl
      have p2 : wr.drew.cell? ⟨b1, o1 + k * 3 + 2, none⟩ = some (.int .i64 l1.at_) := c1 2 _ rfl
      have q0 : wr.drew.cell? ⟨b2, o2 + k * 3, none⟩ = some (.string l1.layer) := c2 0 _ rfl
      have q1 : wr.drew.cell? ⟨b2, o2 + k * 3 + 1, none⟩ = some (.string l1.call) := c2 1 _ rfl
      have q2 : wr.drew.cell? ⟨b2, o2 + k * 3 + 2, none⟩ = some (.int .i64 l1.at_) := c2 2 _ rfl
      clear c1 c2
      repeat' (first | ((with_reducible refine region_at 6 ?_); refine wp_region_order [(0, true, false), (1, true, false), (2, true, false), (3, true, false), (4, true, false), (5, true, false), (6, true, false), (7, true, false), (8, true, false)] (by kernel_rfl) (by kernel_rfl) (by kernel_rfl) rfl rfl ?_) | (with_reducible refine Keep.last ?_) | (with_reducible refine Keep.below (by assumption) ?_) | (with_reducible refine Keep.kept (by assumption) ?_) | (with_reducible refine Keep.alloc ?_) | (with_reducible refine Keep.same ?_) | ((with_reducible refine WpH.here ?_); first | (refine WpH.nil ?_; refine NoP.normal ?_) | (refine WpH.load (by rfl) (by rfl) (by go_simp; rfl) ?_; simp only [Act.put, List.setIfInBounds_toArray, List.set_cons_zero, List.set_cons_succ]) | (refine WpH.loadT (by rfl) (by rfl) (by go_simp; rfl) (by rintro _ _ ⟨⟩; exact ⟨_, _, _, _, _, _, by rfl, by assumption, by assumption⟩) ?_; simp only [Act.put, List.setIfInBounds_toArray, List.set_cons_zero, List.set_cons_succ]) | (refine WpH.pure (by rfl) (fun w_ => by go_simp; (try go_bits); rfl) ?_; simp only [Act.put, List.setIfInBounds_toArray, List.set_cons_zero, List.set_cons_succ]) | (refine WpH.wild1 (by rfl) (fun _ _ => ?_)) | (refine WpH.skip (by rfl) ?_; simp only [Act.put, List.setIfInBounds_toArray, List.set_cons_zero, List.set_cons_succ])) | go_values | go_skip | go_guarded | go_step | go_upon | go_back)
      go_roundw
      case rel => exact ⟨k + 1, by go_num, by omega, hb.drew⟩
      case measure => simp [intOf]; omega
    · obtain rfl : k = n := by omega
      go_wp2
      go_ret
      exact ⟨rfl, hb⟩
theorem ints_eq (A : Option Addr) (n c : Nat) (B : Option Addr) (d : Nat) (ch : List Int) (S S' : Nat → Prop) (w : World) (h1 : GRow w S A n c ch) (h2 : GRow w S' B n d ch) :
    Calls Tryd.prog 43 #[.slice A n c, .slice B n d] w fun e w' => e = .returned (.bool true) ∧ Below w.heap.size w w' := by
  have hn := h1.len_le
  have hm : maxLen = 9223372036854775807 := rfl
  have hnc := h1.2.1
  have hnd := h2.2.1
  go_enter Tryd.func43, Tryd.ntmps43
  go_wp2
  go_loopw [5] (fun i wr => ∃ k : Nat, i = .int .i64 k ∧ k ≤ n ∧ Below w.heap.size w wr) (fun i _ => n - (intOf i).toNat)
  case atStart => exact ⟨0, rfl, Nat.zero_le _, Below.refl _ _⟩
  case round =>
    obtain ⟨k, rfl, hk, hb⟩ := hrel
    by_cases e : k < n
    · obtain ⟨b1, o1, l1, rfl, _, hlt1, he1, c1⟩ := (h1.step hb).at_ e
      obtain ⟨b2, o2, l2, rfl, _, hlt2, he2, c2⟩ := (h2.step hb).at_ e
      obtain rfl : l1 = l2 := Option.some.inj (he1.symm.trans he2)
      have p0 : wr.drew.cell? ⟨b1, o1 + k * 1, none⟩ = some (.int .i64 l1) := c1 0 _ rfl
      have q0 : wr.drew.cell? ⟨b2, o2 + k * 1, none⟩ = some (.int .i64 l1) := c2 0 _ rfl
      rw [Nat.mul_one] at p0 q0
      clear c1 c2
      repeat' (first | ((with_reducible refine region_at 6 ?_); refine wp_region_order [(0, true, false), (1, true, false), (2, true, false), (3, true, false), (4, true, false), (5, true, false), (6, true, false), (7, true, false), (8, true, false)] (by kernel_rfl) (by kernel_rfl) (by kernel_rfl) rfl rfl ?_) | (with_reducible refine Keep.last ?_) | (with_reducible refine Keep.below (by assumption) ?_) | (with_reducible refine Keep.kept (by assumption) ?_) | (with_reducible refine Keep.alloc ?_) | (with_reducible refine Keep.same ?_) | ((with_reducible refine WpH.here ?_); first | (refine WpH.nil ?_; refine NoP.normal ?_) | (refine WpH.load (by rfl) (by rfl) (by go_simp; rfl) ?_; simp only [Act.put, List.setIfInBounds_toArray, List.set_cons_zero, List.set_cons_succ]) | (refine WpH.loadT (by rfl) (by rfl) (by go_simp; rfl) (by rintro _ _ ⟨⟩; exact ⟨_, _, _, _, _, _, by rfl, by assumption, by assumption⟩) ?_; simp only [Act.put, List.setIfInBounds_toArray, List.set_cons_zero, List.set_cons_succ]) | (refine WpH.pure (by rfl) (fun w_ => by go_simp; (try go_bits); rfl) ?_; simp only [Act.put, List.setIfInBounds_toArray, List.set_cons_zero, List.set_cons_succ]) | (refine WpH.wild1 (by rfl) (fun _ _ => ?_)) | (refine WpH.skip (by rfl) ?_; simp only [Act.put, List.setIfInBounds_toArray, List.set_cons_zero, List.set_cons_succ])) | go_values | go_skip | go_guarded | go_step | go_upon | go_back)
      go_roundw
      case rel => exact ⟨k + 1, by go_num, by omega, hb.drew⟩
      case measure => simp [intOf]; omega
    · obtain rfl : k = n := by omega
      go_wp2
      go_ret
      exact ⟨rfl, hb⟩
theorem WpH.wild2 {P : Program} {T : Nat → Prop} {ops : Array Oper} {Q : Exit → Act → World → Prop} {o : Oper} {t : Bool} {rest : List (Oper × Bool × Bool)} {a : Act} {w : World} (hw : Region.wanted o (yielded ops a.tmps) = true)
    (h : ∀ K : Act → World → Prop, (∀ a' w', Keep T t w w' (WpH T P ops Q rest a' w') → K a' w') → o.wp P a w K Q) : WpH T P ops Q ((o, false, t) :: rest) a w :=
  WpH.wild hw (h _ fun _ _ h => h)
set_option maxRecDepth 20000 in
set_option maxHeartbeats 1000000 in
theorem refused_any (ch : List Lk) (code : Nat) (e v : Value) (S S' : Nat → Prop) (w : World) (he : IsErr w S a ch code e) (hno : IsNo w S' ch code v) (hs : Sents w S a) (hn : ch.length ≤ 1073741824) :
    Calls Tryd.prog 22 #[e, v] w fun e w' => e = .returned (.bool true) ∧ Below w.heap.size w w' := by
  obtain ⟨h1, A, n, c, B, d, rfl, hch, hco⟩ := hno
  obtain ⟨t, x, hx⟩ := he.notNil
  have hz : ((code : Int) == 0) = false := by simp; omega
  have b0 : Below w.heap.size w (w.alloc (.cells #[.int .i64 code, .slice A n c, .slice B 1 d] 44)) := (Below.refl _ _).alloc (Nat.le_refl _) _
  have hB := Blk.new w 44 #[.int .i64 code, .slice A n c, .slice B 1 d]
  obtain rfl := hch.1
  have he0 := (he.step b0).keep (Same.drew S _)
  have hs0 := (hs.step b0).drew
  have hch0 := (hch.step b0).drew
  have hco0 := (hco.step b0).drew
  have HE := hid (he.notNil)
  subst hx
  go_enter Tryd.func22, Tryd.ntmps22
  repeat' (first | ((with_reducible refine region_at 3 ?_); refine wp_region_order [(0, true, false), (1, true, false), (2, true, false), (3, true, false), (5, true, false), (6, true, false), (4, false, false), (7, true, false), (8, true, false)] (by kernel_rfl) (by kernel_rfl) (by kernel_rfl) rfl rfl ?_) | ((with_reducible refine region_at 5 ?_); refine wp_region_order [(0, true, false), (2, true, false), (3, true, false), (1, false, false), (4, false, false), (5, true, false), (6, true, false), (8, true, false), (9, true, false), (7, false, false), (10, false, false), (11, true, false), (12, true, false)] (by kernel_rfl) (by kernel_rfl) (by kernel_rfl) rfl rfl ?_) | ((with_reducible refine WpH.here ?_); refine WpH.wild2 (by rfl) (fun _ _ => ?_)) | (go_at_call 40; go_must ((with_reducible refine (code_any ch code _ _ he0 hs0).mono ?_); rintro _ w1 ⟨rfl, hb1⟩; have hB1 := hB.drew.step hb1; have c10 := hB1.cell 0; have c11 := hB1.cell 1; have c12 := hB1.cell 2; have he1 := (he0.step hb1).keep (Same.drew S _); have hs1 := (hs0.step hb1).drew; have hch1 := (hch0.step hb1).drew; have hco1 := (hco0.step hb1).drew; have hbb1 := b0.trans ((undrew hb1).mono b0.size); dsimp only)) | (go_at_call 42; go_must ((with_reducible refine (chain_any ch code _ _ he1 hn).mono ?_); rintro _ w2 ⟨A2, c2, rfl, ho2, hb2⟩; have hB2 := hB1.drew.step hb2; have c20 := hB2.cell 0; have c21 := hB2.cell 1; have c22 := hB2.cell 2; have he2 := he1.step hb2; have hs2 := hs1.step hb2; have hch2 := hch1.step hb2; have hco2 := hco1.step hb2; have hr2 := ho2.row (S := fun _ => True) (fun _ _ _ => trivial); dsimp only)) | (go_at_call 41; go_must ((with_reducible refine (links_eq A2 ch.length c2 A c ch (fun _ => True) S' w2 hr2 hch2).mono ?_); rintro _ w3 ⟨rfl, hb3⟩; have hB3 := hB2.step hb3; have c30 := hB3.cell 0; have c31 := hB3.cell 1; have c32 := hB3.cell 2; have he3 := he2.step hb3; have hs3 := hs2.step hb3; have hco3 := hco2.step hb3; dsimp only)) | (go_at_call 44; go_must ((with_reducible refine (codes_any ch code _ _ he3 hs3).mono ?_); rintro _ w4 ⟨A4, c4, rfl, ho4, hb4⟩; have hB4 := hB3.step hb4; have c40 := hB4.cell 0; have c41 := hB4.cell 1; have c42 := hB4.cell 2; have hco4 := hco3.step hb4; have hr4 := ho4.row (S := fun _ => True) (fun _ _ _ => trivial); dsimp only)) | (go_at_call 43; go_must ((with_reducible refine (ints_eq A4 1 c4 B d [(code : Int)] (fun _ => True) S' w4 hr4 hco4).mono ?_); rintro _ w5 ⟨rfl, hb5⟩; dsimp only)) | (with_reducible refine Keep.last ?_) | (with_reducible refine Keep.below (by assumption) ?_) | (with_reducible refine Keep.kept (by assumption) ?_) | (with_reducible refine Keep.alloc ?_) | (with_reducible refine Keep.same ?_) | ((with_reducible refine WpH.here ?_); first | (refine WpH.nil ?_; refine NoP.normal ?_) | (refine WpH.load (by rfl) (by rfl) (by go_simp; rfl) ?_; simp only [Act.put, List.setIfInBounds_toArray, List.set_cons_zero, List.set_cons_succ]) | (refine WpH.loadT (by rfl) (by rfl) (by go_simp; rfl) (by rintro _ _ ⟨⟩; exact ⟨_, _, _, _, _, _, by rfl, by assumption, by assumption⟩) ?_; simp only [Act.put, List.setIfInBounds_toArray, List.set_cons_zero, List.set_cons_succ]) | (refine WpH.pure (by rfl) (fun w_ => by go_simp; (try go_bits); rfl) ?_; simp only [Act.put, List.setIfInBounds_toArray, List.set_cons_zero, List.set_cons_succ]) | (refine WpH.wild1 (by rfl) (fun _ _ => ?_)) | (refine WpH.skip (by rfl) ?_; simp only [Act.put, List.setIfInBounds_toArray, List.set_cons_zero, List.set_cons_succ])) | go_values | go_skip | go_guarded | go_step | go_upon | go_back)
  go_ret
  have B2 := hbb1.trans ((undrew hb2).mono hbb1.size)
  have B3 := B2.trans (hb3.mono B2.size)
  have B4 := B3.trans (hb4.mono B3.size)
  exact ⟨rfl, B4.trans (hb5.mono B4.size)⟩
end Go.Proofs.YtnpbbidiloahdaaDoor
namespace Go.Proofs.YtnpbbidiloahdaaDoor
set_option linter.unusedSimpArgs false
set_option linter.unusedVariables false
open Go Go.RowKit
variable {S : Nat → Prop} {a : Nat → Addr}
theorem IsErr.one {w w' : World} {Sg S : Nat → Prop} {code g : Nat} {l c : ByteArray} {n : Int} (h1 : 1 ≤ code) (h2 : code ≤ 13) (hg : w.heap.size ≤ g) (hb : Blk w' g 105 #[.string l, .string c, .int .i64 n, reason (a code)]) :
    IsErr w' (Fr w S) a [⟨l, c, n⟩] code (.iface 103 (.pointer (some ⟨g, 0, none⟩))) := ⟨g, _, rfl, .inr hg, hb, h1, h2, rfl⟩
theorem tnew_ok (chunk : Nat) (w : World) (h1 : 2 ≤ chunk) (h2 : chunk ≤ 64) :
    Calls Tryd.prog 49 #[.int .i64 chunk] w fun e w' => ∃ g, e = .returned (.tuple #[.pointer (some ⟨g, 0, none⟩), .nilIface]) ∧ w.heap.size ≤ g ∧ Blk w' g 127 #[.int .i64 chunk, .pointer none] ∧ Below w.heap.size w w' := by
  have i1 : ¬ (chunk : Int) < 2 := by omega
  have i2 : ¬ (chunk : Int) > 64 := by omega
  go_enter Tryd.func49, Tryd.ntmps49
  go_wp2
  go_ret2
  exact ⟨w.heap.size, rfl, Nat.le_refl _, Blk.new _ _ _, (Below.refl _ _).alloc (Nat.le_refl _) _⟩
theorem tlen_any (T : Tr) (p : Option Addr) (bt : Nat) (chunk : Nat) (w : World) (hb : Blk w bt 127 #[.int .i64 chunk, .pointer p]) (hT : IsTree w S T p) :
    Calls Tryd.prog 52 #[.pointer (some ⟨bt, 0, none⟩)] w fun e w' => e = .returned (.int .i64 T.all.length) ∧ w = w' := by
  have c1 := hb.cell 1
  simp at c1
  go_enter Tryd.func52, Tryd.ntmps52
  repeat' (first | (go_at_call 69; go_must ((with_reducible refine (size_any T p S w hT).mono ?_); rintro _ _ ⟨rfl, rfl⟩; dsimp only)) | go_values | go_skip | go_guarded | go_step | go_upon | go_back)
  go_ret
  exact ⟨rfl, rfl⟩
theorem tweight_any (T : Tr) (p : Option Addr) (bt : Nat) (chunk : Nat) (w : World) (hb : Blk w bt 127 #[.int .i64 chunk, .pointer p]) (hT : IsTree w S T p) :
    Calls Tryd.prog 61 #[.pointer (some ⟨bt, 0, none⟩)] w fun e w' => e = .returned (.agg #[.int .i64 (liveOf T.all), .int .i64 (linesOf T.all)]) ∧ Below w.heap.size w w' := by
  have b0 : Below w.heap.size w (w.alloc (.cells #[.int .i64 0, .int .i64 0] 55)) := (Below.refl _ _).alloc (Nat.le_refl _) _
  have hB := Blk.new w 55 #[.int .i64 0, .int .i64 0]
  have hb0 := hb.step b0
  have c1 := hb0.cell 1
  simp at c1
  have hT0 := hT.step b0
  have hz0 := b0.size
  go_enter Tryd.func61, Tryd.ntmps61
  repeat' (first | (go_at_call 79; go_must ((with_reducible refine (weighs_any T p S _ hT0).mono ?_); rintro _ w1 ⟨rfl, hb1⟩; have hB1 := hB.step hb1; have d0 := hB1.cell 0; have d1 := hB1.cell 1; have f0 := hB1.frozen 0; have f1 := hB1.frozen 1; have hl1 := hB1.lt; dsimp only)) | go_values | go_skip | go_guarded | go_step | go_upon | go_back)
  have hbb := b0.trans (hb1.mono hz0)
  exact bodyPost_ret (v := .agg #[.int .i64 (liveOf T.all), .int .i64 (linesOf T.all)]) (by simp [results, Tryd.results61, go_sem, d0, d1]) rfl ⟨rfl, (hbb.setCell (Nat.le_refl _) _).setCell (Nat.le_refl _) _⟩
end Go.Proofs.YtnpbbidiloahdaaDoor
namespace Go.Proofs.YtnpbbidiloahdaaDoor
set_option linter.unusedSimpArgs false
set_option linter.unusedVariables false
open Go Go.RowKit
variable {S : Nat → Prop} {a : Nat → Addr}
theorem Changed.all {chunk : Nat} {T T' : Tr} {i n : Nat} {ls : List El} (h : Changed chunk T i n ls T') (hc : 2 ≤ chunk) : T'.all = T.all.take i ++ ls ++ T.all.drop (i + n) := by
  obtain ⟨X, Y, M, fs, _, h2, _, _, h5⟩ := h
  rw [Tr.all_eq, h2, ← h5]
  simp only [List.flatten_append]
  rw [cutRows_flat _ _ hc]
/-- what an edit makes of a tree -/
def Edit (chunk : Nat) (T : Tr) (i n : Nat) (ls : List El) (T' : Tr) : Prop := T'.all = T.all.take i ++ ls ++ T.all.drop (i + n) ∧ (ls = [] ∧ n = 0 ∧ T' = T ∨ Changed chunk T i n ls T')
/-- a call hands v back and leaves a tree for which R holds -/
def SetRet (w : World) (S : Nat → Prop) (bt chunk : Nat) (R : Tr → Prop) (v : Value) (e : Ending) (w' : World) : Prop :=
  ∃ p' T', e = .returned v ∧ IsTree w' (Fr w S) T' p' ∧ Blk w' bt 127 #[.int .i64 chunk, .pointer p'] ∧ R T' ∧ But bt w w'
theorem But.refl (bt : Nat) (w : World) : But bt w w := ⟨rfl, rfl, rfl, Nat.le_refl _, fun _ _ _ => rfl⟩
theorem insert_ok (T : Tr) (p : Option Addr) (bt chunk i : Nat) (B : Option Addr) (m d : Nat) (ls : List El) (S SB : Nat → Prop) (w : World) (hblk : Blk w bt 127 #[.int .i64 chunk, .pointer p]) (hT : IsTree w S T p) (hbt : ¬ S bt)
    (hls : Row w SB B m d ls) (hbd : T.all.length + m ≤ 1073741824) (hi : i ≤ T.all.length) (hc2 : 2 ≤ chunk) (hc64 : chunk ≤ 64) :
    Calls Tryd.prog 29 #[.pointer (some ⟨bt, 0, none⟩), .int .i64 i, .slice B m d] w (SetRet w S bt chunk (Edit chunk T i 0 ls) .nilIface) := by
  have i1 : ¬ (i : Int) > T.all.length := by omega
  have hl := hls.1
  rcases Nat.eq_zero_or_pos m with h0 | h0
  · subst h0
    go_enter Tryd.func29, Tryd.ntmps29
    repeat' (first | (go_at_call 52; go_must ((with_reducible refine (tlen_any T p bt chunk w hblk hT).mono ?_); rintro _ _ ⟨rfl, rfl⟩; dsimp only)) | go_values | go_skip | go_guarded | go_step | go_upon | go_back)
    go_ret
    obtain rfl := List.eq_nil_of_length_eq_zero hl
    exact ⟨p, T, rfl, hT.fr, hblk, ⟨by simp, .inl ⟨rfl, rfl, rfl⟩⟩, But.refl _ _⟩
  · have i2 : (m : Int) > 0 := by omega
    have HC := hid (change_any T p bt chunk i 0 B m d ls S SB w hblk hT hbt hls hbd (by omega) hc2 hc64)
    rw [show ((0 : Nat) : Int) = 0 from rfl] at HC
    go_enter Tryd.func29, Tryd.ntmps29
    repeat' (first | (go_at_call 52; go_must ((with_reducible refine (tlen_any T p bt chunk w hblk hT).mono ?_); rintro _ _ ⟨rfl, rfl⟩; dsimp only)) | (go_at_call 53; go_must ((with_reducible refine Calls.mono HC.out ?_); rintro _ w2 ⟨p2, T2, rfl, ht2, hb2, hq2, hB2⟩; dsimp only)) | go_values | go_skip | go_guarded | go_step | go_upon | go_back)
    go_ret
    exact ⟨p2, T2, rfl, ht2, hb2, ⟨hq2.all hc2, .inr hq2⟩, hB2⟩
end Go.Proofs.YtnpbbidiloahdaaDoor
