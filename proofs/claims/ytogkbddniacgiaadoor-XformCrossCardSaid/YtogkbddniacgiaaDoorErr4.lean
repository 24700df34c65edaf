/- The document's refusal: said, wrapped; a refusal held against it. Conditions: all lies in memory. -/
import Derived.Test.YtogkbddniacgiaaDoorErr3
namespace Go.Proofs.YtogkbddniacgiaaDoor
set_option linter.unusedSimpArgs false
set_option linter.unusedVariables false
open Go Go.RowKit
variable {S : Nat → Prop} {a : Nat → Addr}

def atOf (n : Int) : Int := if n < 0 then -1 else n
theorem atOf_new (n : Int) : (if n < -1 then -1 else n) = atOf n := by unfold atOf; split <;> split <;> omega
def noNone : Value := .agg #[.int .i64 0, .slice none 0 0, .slice none 0 0]
/-- the document's refusal lies in w -/
def IsNo (w : World) (S : Nat → Prop) (ch : List Lk) (code : Nat) (v : Value) : Prop :=
  1 ≤ code ∧ ∃ A n c B d, v = .agg #[.int .i64 code, .slice A n c, .slice B 1 d] ∧ GRow w S A n c ch ∧ GRow w S B 1 d [(code : Int)]
theorem GRow.fr {α : Type} [Enc α] {w w' : World} {S : Nat → Prop} {A : Option Addr} {n c : Nat} {es : List α} (h : GRow w' S A n c es) : GRow w' (Fr w S) A n c es := h.more fun _ _ h => .inl h
theorem Below.keepT {b : Nat} {w w' : World} (h : Below b w w') : KeepT (fun k => k < b) w w' := ⟨h.size, fun k _ hk => h.block k hk⟩

theorem Blk.keepS {w w' : World} {g : Nat} {t : TypeId} {cs : Array Value} {T : Nat → Prop} (h : Blk w g t cs) (hk : Same T w w') (hg : T g) : Blk w' g t cs := (hk g hg h.lt).trans h
/-- a row's block, said anew -/
theorem GRow.re {α : Type} [Enc α] {w : World} {S S' : Nat → Prop} {A : Option Addr} {n c : Nat} {es : List α} (h : GRow w S A n c es) (hS : ∀ x, A = some x → S' x.block) : GRow w S' A n c es := by
  refine ⟨h.1, h.2.1, h.2.2.1, fun hn => ?_⟩
  obtain ⟨b, off, e, _, hb, hc⟩ := h.2.2.2 hn
  exact ⟨b, off, e, hS _ e, hb, hc⟩
/-- the three blocks of a wrapped refusal -/
theorem wrap_cells (w : World) (x y z u : Value) (l c : ByteArray) (n : Int) :
    let W := (((w.alloc (.cells #[x, y, z] 50)).alloc (.cells #[u, .slice none 0 0, .slice none 0 0] 50)).alloc (.cells #[.string l, .string c, .int .i64 n] 171)).drew
    Blk W w.heap.size 50 #[x, y, z] ∧ Blk W (w.heap.size + 1) 50 #[u, .slice none 0 0, .slice none 0 0] ∧ GOwn 171 W w.heap.size (some ⟨w.heap.size + 1 + 1, 0, none⟩) 1 1 [(⟨l, c, n⟩ : Lk)] ∧ Below w.heap.size w W := by
  intro W
  have h1 : Below w.heap.size w (w.alloc (.cells #[x, y, z] 50)) := (Below.refl _ _).alloc (Nat.le_refl _) _
  have e1 : (w.alloc (.cells #[x, y, z] 50)).heap.size = w.heap.size + 1 := Array.size_push _
  have h2 := h1.alloc (by omega) (.cells #[u, .slice none 0 0, .slice none 0 0] 50)
  have e2 : ((w.alloc (.cells #[x, y, z] 50)).alloc (.cells #[u, .slice none 0 0, .slice none 0 0] 50)).heap.size = w.heap.size + 1 + 1 := by rw [← e1]; exact Array.size_push _
  refine ⟨(((Blk.new w _ _).alloc _).alloc _).drew, ?_, ?_, (h2.alloc (by omega) _).drew⟩
  · have := ((Blk.new (w.alloc (.cells #[x, y, z] 50)) 50 #[u, .slice none 0 0, .slice none 0 0]).alloc (.cells #[.string l, .string c, .int .i64 n] 171)).drew
    rw [e1] at this
    exact this
  · have := GOwn.lit (t := 171) ((w.alloc (.cells #[x, y, z] 50)).alloc (.cells #[u, .slice none 0 0, .slice none 0 0] 50)) #[.string l, .string c, .int .i64 n] [(⟨l, c, n⟩ : Lk)] w.heap.size (by omega) (by show 1 ≤ maxLen; decide) rfl
    rw [e2] at this
    exact this.keep (S := fun _ => True) (Same.drew _ _) fun _ _ => trivial

set_option maxRecDepth 20000 in
set_option maxHeartbeats 1000000 in
theorem wrap_any (l c : ByteArray) (n : Int) (code : Nat) (h1 : 1 ≤ code) (h2 : code ≤ 13) (A : Option Addr) (m d : Nat) (B : Option Addr) (e : Nat) (ch : List Lk) (w : World) (hch : GRow w S A m d ch) (hco : GRow w S B 1 e [(code : Int)]) (hm : m ≤ 1073741824) :
    Calls Tryd.prog 78 #[.string l, .string c, .int .i64 n, .agg #[.int .i64 code, .slice A m d, .slice B 1 e]] w fun e w' => ∃ v, e = .returned v ∧ IsNo w' (Fr w S) (⟨l, c, atOf n⟩ :: ch) code v ∧ Below w.heap.size w w' := by
  by_cases hn : n < 0
  · go_enter Tryd.func78, Tryd.ntmps78
    repeat' (first | (with_reducible refine stop_region 6 ?_) | (with_reducible refine Keep.last ?_) | (with_reducible refine Keep.below (by assumption) ?_) | (with_reducible refine Keep.kept (by assumption) ?_) | (with_reducible refine Keep.alloc ?_) | (with_reducible refine Keep.same ?_) | ((with_reducible refine WpH.here ?_); first | (refine WpH.nil ?_; refine NoP.normal ?_) | (refine WpH.load (by rfl) (by rfl) (by go_simp; rfl) ?_; simp only [Act.put, List.setIfInBounds_toArray, List.set_cons_zero, List.set_cons_succ]) | (refine WpH.loadT (by rfl) (by rfl) (by go_simp; rfl) (by rintro _ _ ⟨⟩; exact ⟨_, _, _, _, _, _, by rfl, by assumption, by assumption⟩) ?_; simp only [Act.put, List.setIfInBounds_toArray, List.set_cons_zero, List.set_cons_succ]) | (refine WpH.pure (by rfl) (fun w_ => by go_simp; (try go_bits); rfl) ?_; simp only [Act.put, List.setIfInBounds_toArray, List.set_cons_zero, List.set_cons_succ]) | (refine WpH.wild1 (by rfl) (fun _ _ => ?_)) | (refine WpH.skip (by rfl) ?_; simp only [Act.put, List.setIfInBounds_toArray, List.set_cons_zero, List.set_cons_succ])) | go_values | go_skip | go_guarded | go_step | go_upon | go_back)
    refine Stop.go ?_
    obtain ⟨hbA, hbB, hoL, hbW⟩ := wrap_cells w (.int .i64 code) (.slice A m d) (.slice B 1 e) (.int .i64 0) l c (-1)
    have hH := hbA
    unfold Blk at hH
    have hrowW := hch.step hbW
    have hzW := hbW.size
    have hT : (fun b => b ≠ w.heap.size + 1 + 1) w.heap.size := by show w.heap.size ≠ _; omega
    dsimp only at hT
    repeat' (first | ((with_reducible refine region_at 6 ?_); refine wp_region_orderT (fun b => b ≠ w.heap.size + 1 + 1) [(0, true, false), (1, true, false), (2, true, false), (3, true, false), (4, true, false), (6, true, false), (7, true, false), (5, false, false), (8, true, false), (9, false, true)] (by kernel_rfl) (by kernel_rfl) (by kernel_rfl) rfl rfl ?_) | ((with_reducible refine app_links_here ?_); refine wp_append_links w.heap.size (some ⟨w.heap.size + 1 + 1, 0, none⟩) A 1 1 m d _ ch _ (by rfl) (by rfl) hoL hrowW hzW (by omega) ?_; intro A' c' w4 hown4 hb4 hsm4 hat4 hz4; have hk4 : KeepT (fun b => b ≠ w.heap.size + 1 + 1) _ w4 := ⟨hz4, fun b hl hb => hsm4 b (by intro g hg; injection hg with hg; subst hg; exact fun e => hb e.symm) hl⟩; have hbB4 : Blk w4 (w.heap.size + 1) 50 #[.int .i64 0, .slice none 0 0, .slice none 0 0] := hbB.keepS hsm4 (by intro g hg; injection hg with hg; subst hg; show w.heap.size + 1 + 1 ≠ w.heap.size + 1; omega); have c40 := hbB4.cell 0; have c41 := hbB4.cell 1; have c42 := hbB4.cell 2; have f40 := hbB4.frozen 0; have f41 := hbB4.frozen 1; have f42 := hbB4.frozen 2; have hl4 := hbB4.lt) | (with_reducible refine Keep.last ?_) | (with_reducible refine Keep.below (by assumption) ?_) | (with_reducible refine Keep.kept (by assumption) ?_) | (with_reducible refine Keep.alloc ?_) | (with_reducible refine Keep.same ?_) | ((with_reducible refine WpH.here ?_); first | (refine WpH.nil ?_; refine NoP.normal ?_) | (refine WpH.load (by rfl) (by rfl) (by go_simp; rfl) ?_; simp only [Act.put, List.setIfInBounds_toArray, List.set_cons_zero, List.set_cons_succ]) | (refine WpH.loadT (by rfl) (by rfl) (by go_simp; rfl) (by rintro _ _ ⟨⟩; exact ⟨_, _, _, _, _, _, by rfl, by assumption, by assumption⟩) ?_; simp only [Act.put, List.setIfInBounds_toArray, List.set_cons_zero, List.set_cons_succ]) | (refine WpH.pure (by rfl) (fun w_ => by go_simp; (try go_bits); rfl) ?_; simp only [Act.put, List.setIfInBounds_toArray, List.set_cons_zero, List.set_cons_succ]) | (refine WpH.wild1 (by rfl) (fun _ _ => ?_)) | (refine WpH.skip (by rfl) ?_; simp only [Act.put, List.setIfInBounds_toArray, List.set_cons_zero, List.set_cons_succ])) | go_values | go_skip | go_guarded | go_step | go_upon | go_back)
    have hB4 := hbW.trans hb4
    have hat1 : (-1) = atOf n := by unfold atOf; split <;> omega
    refine bodyPost_ret (v := .agg #[.int .i64 code, .slice A' (1 + m) c', .slice B 1 e]) (by simp [results, Tryd.results78, go_sem, c40, c41, c42]) rfl ⟨_, rfl, ⟨h1, A', 1 + m, c', B, e, rfl, ?_, ?_⟩, ?_⟩
    · rw [hat1] at hown4
      have hrow4 : GRow w4 (fun b => Fr w S b ∧ b ≠ w.heap.size + 1) A' (1 + m) c' ((⟨l, c, atOf n⟩ : Lk) :: ch) := (hown4.row (S := fun _ => True) fun _ _ _ => trivial).re fun x hx => by
        have hge := (hown4.block x hx).1
        refine ⟨.inr hge, fun e => ?_⟩
        rcases hat4 with h | ⟨g, h, hg⟩
        · rw [h] at hx; injection hx with hx; subst hx; revert e; show ¬ (w.heap.size + 1 + 1 = w.heap.size + 1); omega
        · rw [h] at hx; injection hx with hx; subst hx; have := hbB.lt; revert e; show ¬ (g = w.heap.size + 1); omega
      exact (hrow4.keep (by simp [World.setCell]) (((Same.setCell w4 (fun h => h.2 rfl) _).trans (by simp [World.setCell]) (Same.setCell _ (fun h => h.2 rfl) _)).trans (by simp [World.setCell]) (Same.setCell _ (fun h => h.2 rfl) _))).more fun b _ h => h.1
    · have hlt' : ∀ x, B = some x → True := fun _ _ => trivial
      have hco4 := ((hco.more (S' := fun b => S b ∧ b < w.heap.size) fun b hl h => ⟨h, hl⟩).step hB4)
      have ns : ¬ (S (w.heap.size + 1) ∧ w.heap.size + 1 < w.heap.size) := by omega
      exact (hco4.keep (by simp [World.setCell]) (((Same.setCell w4 ns _).trans (by simp [World.setCell]) (Same.setCell _ ns _)).trans (by simp [World.setCell]) (Same.setCell _ ns _))).more fun b _ h => .inl h.1
    · exact ((hB4.setCell (by show w.heap.size ≤ w.heap.size + 1; omega) _).setCell (by show w.heap.size ≤ w.heap.size + 1; omega) _).setCell (by show w.heap.size ≤ w.heap.size + 1; omega) _
  · go_enter Tryd.func78, Tryd.ntmps78
    repeat' (first | (with_reducible refine stop_region 6 ?_) | (with_reducible refine Keep.last ?_) | (with_reducible refine Keep.below (by assumption) ?_) | (with_reducible refine Keep.kept (by assumption) ?_) | (with_reducible refine Keep.alloc ?_) | (with_reducible refine Keep.same ?_) | ((with_reducible refine WpH.here ?_); first | (refine WpH.nil ?_; refine NoP.normal ?_) | (refine WpH.load (by rfl) (by rfl) (by go_simp; rfl) ?_; simp only [Act.put, List.setIfInBounds_toArray, List.set_cons_zero, List.set_cons_succ]) | (refine WpH.loadT (by rfl) (by rfl) (by go_simp; rfl) (by rintro _ _ ⟨⟩; exact ⟨_, _, _, _, _, _, by rfl, by assumption, by assumption⟩) ?_; simp only [Act.put, List.setIfInBounds_toArray, List.set_cons_zero, List.set_cons_succ]) | (refine WpH.pure (by rfl) (fun w_ => by go_simp; (try go_bits); rfl) ?_; simp only [Act.put, List.setIfInBounds_toArray, List.set_cons_zero, List.set_cons_succ]) | (refine WpH.wild1 (by rfl) (fun _ _ => ?_)) | (refine WpH.skip (by rfl) ?_; simp only [Act.put, List.setIfInBounds_toArray, List.set_cons_zero, List.set_cons_succ])) | go_values | go_skip | go_guarded | go_step | go_upon | go_back)
    refine Stop.go ?_
    obtain ⟨hbA, hbB, hoL, hbW⟩ := wrap_cells w (.int .i64 code) (.slice A m d) (.slice B 1 e) (.int .i64 0) l c n
    have hH := hbA
    unfold Blk at hH
    have hrowW := hch.step hbW
    have hzW := hbW.size
    have hT : (fun b => b ≠ w.heap.size + 1 + 1) w.heap.size := by show w.heap.size ≠ _; omega
    dsimp only at hT
    repeat' (first | ((with_reducible refine region_at 6 ?_); refine wp_region_orderT (fun b => b ≠ w.heap.size + 1 + 1) [(0, true, false), (1, true, false), (2, true, false), (3, true, false), (4, true, false), (6, true, false), (7, true, false), (5, false, false), (8, true, false), (9, false, true)] (by kernel_rfl) (by kernel_rfl) (by kernel_rfl) rfl rfl ?_) | ((with_reducible refine app_links_here ?_); refine wp_append_links w.heap.size (some ⟨w.heap.size + 1 + 1, 0, none⟩) A 1 1 m d _ ch _ (by rfl) (by rfl) hoL hrowW hzW (by omega) ?_; intro A' c' w4 hown4 hb4 hsm4 hat4 hz4; have hk4 : KeepT (fun b => b ≠ w.heap.size + 1 + 1) _ w4 := ⟨hz4, fun b hl hb => hsm4 b (by intro g hg; injection hg with hg; subst hg; exact fun e => hb e.symm) hl⟩; have hbB4 : Blk w4 (w.heap.size + 1) 50 #[.int .i64 0, .slice none 0 0, .slice none 0 0] := hbB.keepS hsm4 (by intro g hg; injection hg with hg; subst hg; show w.heap.size + 1 + 1 ≠ w.heap.size + 1; omega); have c40 := hbB4.cell 0; have c41 := hbB4.cell 1; have c42 := hbB4.cell 2; have f40 := hbB4.frozen 0; have f41 := hbB4.frozen 1; have f42 := hbB4.frozen 2; have hl4 := hbB4.lt) | (with_reducible refine Keep.last ?_) | (with_reducible refine Keep.below (by assumption) ?_) | (with_reducible refine Keep.kept (by assumption) ?_) | (with_reducible refine Keep.alloc ?_) | (with_reducible refine Keep.same ?_) | ((with_reducible refine WpH.here ?_); first | (refine WpH.nil ?_; refine NoP.normal ?_) | (refine WpH.load (by rfl) (by rfl) (by go_simp; rfl) ?_; simp only [Act.put, List.setIfInBounds_toArray, List.set_cons_zero, List.set_cons_succ]) | (refine WpH.loadT (by rfl) (by rfl) (by go_simp; rfl) (by rintro _ _ ⟨⟩; exact ⟨_, _, _, _, _, _, by rfl, by assumption, by assumption⟩) ?_; simp only [Act.put, List.setIfInBounds_toArray, List.set_cons_zero, List.set_cons_succ]) | (refine WpH.pure (by rfl) (fun w_ => by go_simp; (try go_bits); rfl) ?_; simp only [Act.put, List.setIfInBounds_toArray, List.set_cons_zero, List.set_cons_succ]) | (refine WpH.wild1 (by rfl) (fun _ _ => ?_)) | (refine WpH.skip (by rfl) ?_; simp only [Act.put, List.setIfInBounds_toArray, List.set_cons_zero, List.set_cons_succ])) | go_values | go_skip | go_guarded | go_step | go_upon | go_back)
    have hB4 := hbW.trans hb4
    have hat1 : n = atOf n := by unfold atOf; split <;> omega
    refine bodyPost_ret (v := .agg #[.int .i64 code, .slice A' (1 + m) c', .slice B 1 e]) (by simp [results, Tryd.results78, go_sem, c40, c41, c42]) rfl ⟨_, rfl, ⟨h1, A', 1 + m, c', B, e, rfl, ?_, ?_⟩, ?_⟩
    · rw [hat1] at hown4
      have hrow4 : GRow w4 (fun b => Fr w S b ∧ b ≠ w.heap.size + 1) A' (1 + m) c' ((⟨l, c, atOf n⟩ : Lk) :: ch) := (hown4.row (S := fun _ => True) fun _ _ _ => trivial).re fun x hx => by
        have hge := (hown4.block x hx).1
        refine ⟨.inr hge, fun e => ?_⟩
        rcases hat4 with h | ⟨g, h, hg⟩
        · rw [h] at hx; injection hx with hx; subst hx; revert e; show ¬ (w.heap.size + 1 + 1 = w.heap.size + 1); omega
        · rw [h] at hx; injection hx with hx; subst hx; have := hbB.lt; revert e; show ¬ (g = w.heap.size + 1); omega
      exact (hrow4.keep (by simp [World.setCell]) (((Same.setCell w4 (fun h => h.2 rfl) _).trans (by simp [World.setCell]) (Same.setCell _ (fun h => h.2 rfl) _)).trans (by simp [World.setCell]) (Same.setCell _ (fun h => h.2 rfl) _))).more fun b _ h => h.1
    · have hlt' : ∀ x, B = some x → True := fun _ _ => trivial
      have hco4 := ((hco.more (S' := fun b => S b ∧ b < w.heap.size) fun b hl h => ⟨h, hl⟩).step hB4)
      have ns : ¬ (S (w.heap.size + 1) ∧ w.heap.size + 1 < w.heap.size) := by omega
      exact (hco4.keep (by simp [World.setCell]) (((Same.setCell w4 ns _).trans (by simp [World.setCell]) (Same.setCell _ ns _)).trans (by simp [World.setCell]) (Same.setCell _ ns _))).more fun b _ h => .inl h.1
    · exact ((hB4.setCell (by show w.heap.size ≤ w.heap.size + 1; omega) _).setCell (by show w.heap.size ≤ w.heap.size + 1; omega) _).setCell (by show w.heap.size ≤ w.heap.size + 1; omega) _
end Go.Proofs.YtogkbddniacgiaaDoor
