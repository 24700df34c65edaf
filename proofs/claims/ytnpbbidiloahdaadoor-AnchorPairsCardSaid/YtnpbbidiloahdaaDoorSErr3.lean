/- A refusal's numbers and its way, as lists. Conditions: the refusal and the reasons lie in memory. -/
import Derived.Test.YtnpbbidiloahdaaDoorP3
import Derived.Test.YtnpbbidiloahdaaDoorP7
namespace Go.Proofs.YtnpbbidiloahdaaDoor
set_option linter.unusedSimpArgs false
set_option linter.unusedVariables false
open Go Go.RowKit
variable {S : Nat → Prop} {a : Nat → Addr}

theorem Tryd.infoInt : (Tryd.prog.info? 3).map (fun i => (i.zero, i.size, i.bytes)) = some (some (.int .i64 0), 1, 8) := by kernel_rfl
theorem Tryd.infoLk : (Tryd.prog.info? 123).map (fun i => (i.zero, i.size, i.bytes)) = some (some (.agg #[.string ⟨#[]⟩, .string ⟨#[]⟩, .int .i64 0]), 3, 40) := by kernel_rfl

/-- append at its operation, of whatever kind. Behind it: the new slice is the call's own; all blocks but the old slice's own stand -/
theorem wp_append_g {α : Type} [Enc α] (ts t : TypeId) (z : Value) (by_ : Nat) (hu : Tryd.prog.underlying ts = some (.slice t)) (hinfo : (Tryd.prog.info? t).map (fun i => (i.zero, i.size, i.bytes)) = some (some z, Enc.k α, by_)) (hzc : z.cells.size = Enc.k α) (hk0 : 0 < Enc.k α) (hb0 : 0 < by_) (hbb : by_ ≤ 100)
    {ac : Act} {K : Act → World → Prop} {Q : Exit → Act → World → Prop} {w : World} {dst : Option Tmp} {s x : Operand} {ty : TypeId} {pos : String} {after : Array Edge} {guard : Option (Nat × Bool)}
    (base : Nat) (A B : Option Addr) (n c m d : Nat) (es fs : List α) (S : Nat → Prop) (hs : ac.eval s = .slice A n c) (hx : ac.eval x = .slice B m d) (hown : GOwn t w base A n c es) (hrow : GRow w S B m d fs) (hb : base ≤ w.heap.size) (hbd : n + m ≤ 1099511627776)
    (h : ∀ A' c' w', GOwn t w' base A' (n + m) c' (es ++ fs) → Below base w w' → Same (fun k => ∀ g, A = some g → g.block ≠ k) w w' → (A' = A ∨ ∃ g, A' = some ⟨g, 0, none⟩ ∧ w.heap.size ≤ g) → w.heap.size ≤ w'.heap.size → K (ac.put dst (.slice A' (n + m) c')) w') :
    Oper.wp Tryd.prog ⟨dst, .call ⟨.builtin .append, #[s, x], #[ts, ts]⟩, ty, pos, after, guard⟩ ac w K Q := by
  obtain ⟨i0, hi0, hz0, hz1, hz2⟩ := info_parts hinfo
  obtain ⟨A', c', w', hrun, h2, h3, h4⟩ := run_append_g Tryd.prog ts t "" i0 z by_ hu hi0 hz0 hz1 hz2 hzc hk0 hb0 hbb w ty base A B n c m d es fs S hown hrow hb hbd
  unfold Oper.wp execOp
  simp only [resolve, invoke, builtin, Sem.run_bind, Sem.run_pure, Result.andThen_ok, List.map_toArray, List.map_cons, List.map_nil, hs, hx, hrun]
  refine h A' c' w' h2 ?_ ?_ h4 h3.size
  · refine (Below.refl _ _).grown h3 hb fun k hk => ?_
    cases A with
    | none => cases hk
    | some a =>
      have := hown.block a rfl
      have : a.block = k := by simpa using hk
      omega
  · intro k hk hl
    refine h3.block k hl fun e => ?_
    cases A with
    | none => cases e
    | some a => exact hk a rfl (by simpa using e.symm)
theorem wp_append_ints {ac : Act} {K : Act → World → Prop} {Q : Exit → Act → World → Prop} {w : World} {dst : Option Tmp} {s x : Operand} {ty : TypeId} {pos : String} {after : Array Edge} {guard : Option (Nat × Bool)}
    (base : Nat) (A B : Option Addr) (n c m d : Nat) (es fs : List Int) (S : Nat → Prop) (hs : ac.eval s = .slice A n c) (hx : ac.eval x = .slice B m d) (hown : GOwn 3 w base A n c es) (hrow : GRow w S B m d fs) (hb : base ≤ w.heap.size) (hbd : n + m ≤ 1099511627776)
    (h : ∀ A' c' w', GOwn 3 w' base A' (n + m) c' (es ++ fs) → Below base w w' → Same (fun k => ∀ g, A = some g → g.block ≠ k) w w' → (A' = A ∨ ∃ g, A' = some ⟨g, 0, none⟩ ∧ w.heap.size ≤ g) → w.heap.size ≤ w'.heap.size → K (ac.put dst (.slice A' (n + m) c')) w') :
    Oper.wp Tryd.prog ⟨dst, .call ⟨.builtin .append, #[s, x], #[42, 42]⟩, ty, pos, after, guard⟩ ac w K Q :=
  wp_append_g (α := Int) 42 3 _ 8 Tryd.underlying42 Tryd.infoInt rfl (by decide) (by decide) (by decide) base A B n c m d es fs S hs hx hown hrow hb hbd h
theorem wp_append_links {ac : Act} {K : Act → World → Prop} {Q : Exit → Act → World → Prop} {w : World} {dst : Option Tmp} {s x : Operand} {ty : TypeId} {pos : String} {after : Array Edge} {guard : Option (Nat × Bool)}
    (base : Nat) (A B : Option Addr) (n c m d : Nat) (es fs : List Lk) (S : Nat → Prop) (hs : ac.eval s = .slice A n c) (hx : ac.eval x = .slice B m d) (hown : GOwn 123 w base A n c es) (hrow : GRow w S B m d fs) (hb : base ≤ w.heap.size) (hbd : n + m ≤ 1099511627776)
    (h : ∀ A' c' w', GOwn 123 w' base A' (n + m) c' (es ++ fs) → Below base w w' → Same (fun k => ∀ g, A = some g → g.block ≠ k) w w' → (A' = A ∨ ∃ g, A' = some ⟨g, 0, none⟩ ∧ w.heap.size ≤ g) → w.heap.size ≤ w'.heap.size → K (ac.put dst (.slice A' (n + m) c')) w') :
    Oper.wp Tryd.prog ⟨dst, .call ⟨.builtin .append, #[s, x], #[41, 41]⟩, ty, pos, after, guard⟩ ac w K Q :=
  wp_append_g (α := Lk) 41 123 _ 40 Tryd.underlying41 Tryd.infoLk rfl (by decide) (by decide) (by decide) base A B n c m d es fs S hs hx hown hrow hb hbd h

theorem app_ints_here {ac : Act} {K : Act → World → Prop} {Q : Exit → Act → World → Prop} {w : World} {dst : Option Tmp} {s x : Operand} {ty : TypeId} {pos : String} {after : Array Edge} {guard : Option (Nat × Bool)}
    (h : Oper.wp Tryd.prog ⟨dst, .call ⟨.builtin .append, #[s, x], #[42, 42]⟩, ty, pos, after, guard⟩ ac w K Q) : Oper.wp Tryd.prog ⟨dst, .call ⟨.builtin .append, #[s, x], #[42, 42]⟩, ty, pos, after, guard⟩ ac w K Q := h
theorem app_links_here {ac : Act} {K : Act → World → Prop} {Q : Exit → Act → World → Prop} {w : World} {dst : Option Tmp} {s x : Operand} {ty : TypeId} {pos : String} {after : Array Edge} {guard : Option (Nat × Bool)}
    (h : Oper.wp Tryd.prog ⟨dst, .call ⟨.builtin .append, #[s, x], #[41, 41]⟩, ty, pos, after, guard⟩ ac w K Q) : Oper.wp Tryd.prog ⟨dst, .call ⟨.builtin .append, #[s, x], #[41, 41]⟩, ty, pos, after, guard⟩ ac w K Q := h

set_option maxRecDepth 20000 in
theorem codes1_reason (j : Nat) (h1 : 1 ≤ j) (h2 : j ≤ 13) (cb : Nat) (w : World) (hs : Sents w S a) (hc : Blk w cb 42 #[.slice none 0 0]) :
    Calls Tryd.prog 68 #[reason (a j), .pointer (some ⟨cb, 0, none⟩)] w fun e w' => e = .returned (.bool true) ∧ ∃ A c, Blk w' cb 42 #[.slice A 1 c] ∧ GOwn 3 w' w.heap.size A 1 c [(j : Int)] ∧ But cb w w' := by
  have c0 : w.cell? ⟨cb, 0, none⟩ = some (.slice none 0 0) := hc.cell 0
  have f0 := hc.frozen 0
  have hlt := hc.lt
  have hz : ((j : Int) != 0) = true := by simp; omega
  have hb1 : Below w.heap.size w (w.alloc (.cells #[.int .i64 j] 3)) := (Below.refl _ _).alloc (Nat.le_refl _) _
  have hrow : GRow (w.alloc (.cells #[.int .i64 j] 3)) (fun _ => True) (some ⟨w.heap.size, 0, none⟩) 1 1 [(j : Int)] := (GOwn.lit (t := 3) w #[.int .i64 j] [(j : Int)] 0 (Nat.zero_le _) (by show 1 ≤ maxLen; decide) rfl).row fun _ _ _ => trivial
  have hsz1 := hb1.size
  go_enter Tryd.func68, Tryd.ntmps68
  repeat' (first | (go_at_call 66; (with_reducible refine (number_reason j h1 h2 S a w hs).mono ?_); rintro _ _ ⟨rfl, rfl⟩; dsimp only) | ((with_reducible refine app_ints_here ?_); refine wp_append_ints w.heap.size none _ 0 0 1 1 [] _ _ (by rfl) (by rfl) (GOwn.nil _ _ _) hrow hsz1 (by omega) ?_; intro A' c' w2 hown2 hb2 hsm2 hat2 hz2; have hbb := hb1.trans hb2; obtain ⟨hc2, hf2⟩ := bcell hbb) | go_values | go_skip | go_guarded | go_step | go_upon | go_back)
  go_ret
  have hblk2 : Blk w2 cb 42 #[.slice none 0 0] := hc.step hbb
  refine ⟨rfl, A', c', hblk2.set_ 0 _, ?_, (But.of_below hbb).setCell _ _⟩
  refine hown2.keep (Same.setCell (S := (· ≠ cb)) _ (by simp) _) fun g hg => ?_
  have := (hown2.block g hg).1
  show g.block ≠ cb
  omega
set_option maxRecDepth 20000 in
theorem through_codes (cb : Nat) (code : Nat) : ∀ (ch : List Lk) (v : Value) (w : World), IsErr w S a ch code v → Sents w S a → Blk w cb 42 #[.slice none 0 0] →
    Calls Tryd.prog 64 #[v, .func (.func 68) #[] #[.pointer (some ⟨cb, 0, none⟩)]] w fun e w' => e = .returned (.bool true) ∧ ∃ A c, Blk w' cb 42 #[.slice A 1 c] ∧ GOwn 3 w' w.heap.size A 1 c [(code : Int)] ∧ But cb w w' := by
  intro ch
  induction ch with
  | nil =>
    rintro v w ⟨h1, h2, rfl⟩ hs hc
    simp only [reason]
    go_enter Tryd.func64, Tryd.ntmps64
    repeat' (first | (go_at_call 68; (with_reducible refine (codes1_reason code h1 h2 cb w hs hc).mono ?_); rintro _ w2 ⟨rfl, A2, c2, hb2, ho2, hk2⟩; dsimp only) | go_values | go_skip | go_guarded | go_step | go_upon | go_back)
    go_ret
    exact ⟨rfl, A2, c2, hb2, ho2, hk2⟩
  | cons l r ih =>
    rintro v w ⟨g, v, rfl, hg, hb, he⟩ hs hc
    have Hih := hid (ih v w he hs hc)
    clear ih
    go_enter Tryd.func64, Tryd.ntmps64
    repeat' (first | (go_at_call 68; (with_reducible refine (codes1_fault _ _ w hs).mono ?_); rintro _ _ ⟨rfl, rfl⟩; dsimp only) | (go_at_call 83; (with_reducible refine (unwrap_any l g v w hb).mono ?_); rintro _ _ ⟨rfl, rfl⟩; dsimp only) | (go_at_call 64; (with_reducible refine (Calls.mono Hih.out ?_)); rintro _ w2 ⟨rfl, A2, c2, hb2, ho2, hk2⟩; dsimp only) | go_values | go_skip | go_guarded | go_step | go_upon | go_back)
    go_ret
    exact ⟨rfl, A2, c2, hb2, ho2, hk2⟩
theorem But.below_new {w w1 w' : World} {cb : Nat} (h : But cb w1 w') (hb : Below w.heap.size w w1) (hc : w.heap.size ≤ cb) : Below w.heap.size w w' :=
  ⟨h.os.trans hb.os, h.tape.trans hb.tape, h.output.trans hb.output, Nat.le_trans hb.size h.size, fun k hk => (h.block k (Nat.lt_of_lt_of_le hk hb.size) (by omega)).trans (hb.block k hk)⟩
theorem codes_any (ch : List Lk) (code : Nat) (v : Value) (w : World) (h : IsErr w S a ch code v) (hs : Sents w S a) :
    Calls Tryd.prog 44 #[v] w fun e w' => ∃ A c, e = .returned (.slice A 1 c) ∧ GOwn 3 w' w.heap.size A 1 c [(code : Int)] ∧ Below w.heap.size w w' := by
  have hb0 : Below w.heap.size w (w.alloc (.cells #[.slice none 0 0] 42)) := (Below.refl _ _).alloc (Nat.le_refl _) _
  have hnb := Blk.new w 42 #[.slice none 0 0]
  have HT := hid (through_codes w.heap.size code ch v _ (h.step hb0) (hs.step hb0) hnb)
  clear hnb
  have hz0 := hb0.size
  go_enter Tryd.func44, Tryd.ntmps44
  repeat' (first | (go_at_call 64; (with_reducible refine (Calls.mono HT.out ?_)); rintro _ w2 ⟨rfl, A2, c2, hb2, ho2, hk2⟩; have hc3 := hb2.cell 0; dsimp only) | go_values | go_skip | go_guarded | go_step | go_upon | go_back)
  go_ret
  exact ⟨A2, c2, rfl, ho2.mono hz0, hk2.below_new hb0 (Nat.le_refl _)⟩
theorem link_any (l : Lk) (g : Nat) (v : Value) (w : World) (hb : Blk w g 105 #[.string l.layer, .string l.call, .int .i64 l.at_, v]) :
    Calls Tryd.prog 86 #[.pointer (some ⟨g, 0, none⟩)] w fun e w' => e = .returned (.agg #[.string l.layer, .string l.call, .int .i64 l.at_]) ∧ Below w.heap.size w w' := by
  have h0 : w.cell? ⟨g, 0, none⟩ = some (.string l.layer) := hb.cell 0
  have h1 : w.cell? ⟨g, 1, none⟩ = some (.string l.call) := hb.cell 1
  have h2 : w.cell? ⟨g, 2, none⟩ = some (.int .i64 l.at_) := hb.cell 2
  have hlt := hb.lt
  go_enter Tryd.func86, Tryd.ntmps86
  repeat' (first | ((with_reducible refine region_at 1 ?_); refine wp_region_order [(0, true, false), (1, true, false), (2, true, false), (3, true, false), (4, true, false), (5, true, false), (6, true, false), (7, true, false), (8, true, false), (9, true, false), (10, true, false), (11, true, false), (12, true, false), (13, false, true)] (by kernel_rfl) (by kernel_rfl) (by kernel_rfl) rfl rfl ?_) | (with_reducible refine Keep.last ?_) | (with_reducible refine Keep.below (by assumption) ?_) | (with_reducible refine Keep.kept (by assumption) ?_) | (with_reducible refine Keep.alloc ?_) | (with_reducible refine Keep.same ?_) | ((with_reducible refine WpH.here ?_); first | (refine WpH.nil ?_; refine NoP.normal ?_) | (refine WpH.load (by rfl) (by rfl) (by go_simp; rfl) ?_; simp only [Act.put, List.setIfInBounds_toArray, List.set_cons_zero, List.set_cons_succ]) | (refine WpH.loadT (by rfl) (by rfl) (by go_simp; rfl) (by rintro _ _ ⟨⟩; exact ⟨_, _, _, _, _, _, by rfl, by assumption, by assumption⟩) ?_; simp only [Act.put, List.setIfInBounds_toArray, List.set_cons_zero, List.set_cons_succ]) | (refine WpH.pure (by rfl) (fun w_ => by go_simp; (try go_bits); rfl) ?_; simp only [Act.put, List.setIfInBounds_toArray, List.set_cons_zero, List.set_cons_succ]) | (refine WpH.wild1 (by rfl) (fun _ _ => ?_)) | (refine WpH.skip (by rfl) ?_; simp only [Act.put, List.setIfInBounds_toArray, List.set_cons_zero, List.set_cons_succ])) | go_values | go_skip | go_guarded | go_step | go_upon | go_back)
  exact bodyPost_ret (v := .agg #[.string l.layer, .string l.call, .int .i64 l.at_]) (by simp [results, Tryd.results86, go_sem]) rfl ⟨rfl, ((Below.refl _ _).alloc (Nat.le_refl _) _).drew⟩
set_option maxRecDepth 20000 in
theorem chain_rec (code : Nat) (base : Nat) : ∀ (ch : List Lk) (v : Value) (w : World) (A : Option Addr) (n c : Nat) (es : List Lk), (∀ b, S b → b < base) → IsErr w S a ch code v → GOwn 123 w base A n c es → base ≤ w.heap.size → n + ch.length ≤ 1073741824 →
    Calls Tryd.prog 67 #[v, .slice A n c] w fun e w' => ∃ A' c', e = .returned (.slice A' (n + ch.length) c') ∧ GOwn 123 w' base A' (n + ch.length) c' (es ++ ch) ∧ Below base w w' := by
  intro ch
  induction ch with
  | nil =>
    rintro v w A n c es hSb ⟨h1, h2, rfl⟩ ho hz hn
    simp only [reason]
    go_enter Tryd.func67, Tryd.ntmps67
    repeat' (first | go_values | go_skip | go_guarded | go_step | go_upon | go_back)
    go_ret
    exact ⟨A, c, rfl, by simpa using ho, Below.refl _ _⟩
  | cons l r ih =>
    rintro v w A n c es hSb ⟨g, v, rfl, hg, hb, he⟩ ho hz hn
    have h3 : w.cell? ⟨g, 3, none⟩ = some v := hb.cell 3
    have hlt := hb.lt
    have hgb := hSb g hg
    have HI := hid ih
    clear ih
    have hH : w.drew.heap[g]? = some (.cells #[.string l.layer, .string l.call, .int .i64 l.at_, v] 105 (0, 0)) := hb
    simp only [List.length_cons] at hn
    go_enter Tryd.func67, Tryd.ntmps67
    repeat' (first | ((with_reducible refine region_at 5 ?_); refine wp_region_orderT (fun b => b < base) [(0, true, false), (1, true, false), (2, true, false), (3, true, false), (4, true, false), (5, true, false), (6, false, false), (7, false, false), (8, false, false), (9, false, false), (10, true, false)] (by kernel_rfl) (by kernel_rfl) (by kernel_rfl) rfl rfl ?_) | (go_at_call 86; (with_reducible refine (link_any l g v w.drew hb.drew).mono ?_); rintro _ w1 ⟨rfl, hb1⟩; have hbb := undrew hb1; obtain ⟨hc1, hf1⟩ := bcell hbb; have hb2 : Below w.heap.size w (w1.alloc (.cells #[.string l.layer, .string l.call, .int .i64 l.at_] 123)) := hbb.alloc hbb.size _; have hrow2 : GRow (w1.alloc (.cells #[.string l.layer, .string l.call, .int .i64 l.at_] 123)) (fun _ => True) (some ⟨w1.heap.size, 0, none⟩) 1 1 [l] := (GOwn.lit (t := 123) w1 #[.string l.layer, .string l.call, .int .i64 l.at_] [l] 0 (Nat.zero_le _) (by show 1 ≤ maxLen; decide) rfl).row fun _ _ _ => trivial; have ho2 := ho.step hb2; have hz2 := Nat.le_trans hz hb2.size; dsimp only) | ((with_reducible refine app_links_here ?_); refine wp_append_links base A _ n c 1 1 es _ _ (by rfl) (by rfl) ho2 hrow2 hz2 (by omega) ?_; intro A' c' w3 hown3 hb3 hsm3 hat3 hz3; have hB3 := (hb2.mono hz).trans hb3; have hk3 : KeepT (fun b => b < base) (w1.alloc (.cells #[.string l.layer, .string l.call, .int .i64 l.at_] 123)) w3 := ⟨hz3, fun b _ h => hb3.block b h⟩; have he3 : IsErr w3 S a r code v := he.keep (fun b hs hl => hB3.block b (hSb b hs)); have hz4 := Nat.le_trans hz2 hz3) | (go_at_call 67; (with_reducible refine (HI.out v w3 A' (n + 1) c' (es ++ [l]) hSb he3 hown3 hz4 (by omega)).mono ?_); rintro _ w4 ⟨A4, c4, rfl, ho4, hb4⟩; have hk4 : KeepT (fun b => b < base) w3 w4 := ⟨hb4.size, fun b _ h => hb4.block b h⟩; dsimp only) | (with_reducible refine Keep.last ?_) | (with_reducible refine Keep.below (by assumption) ?_) | (with_reducible refine Keep.kept (by assumption) ?_) | (with_reducible refine Keep.alloc ?_) | (with_reducible refine Keep.same ?_) | ((with_reducible refine WpH.here ?_); first | (refine WpH.nil ?_; refine NoP.normal ?_) | (refine WpH.load (by rfl) (by rfl) (by go_simp; rfl) ?_; simp only [Act.put, List.setIfInBounds_toArray, List.set_cons_zero, List.set_cons_succ]) | (refine WpH.loadT (by rfl) (by rfl) (by go_simp; rfl) (by rintro _ _ ⟨⟩; exact ⟨_, _, _, _, _, _, by rfl, by assumption, by assumption⟩) ?_; simp only [Act.put, List.setIfInBounds_toArray, List.set_cons_zero, List.set_cons_succ]) | (refine WpH.pure (by rfl) (fun w_ => by go_simp; (try go_bits); rfl) ?_; simp only [Act.put, List.setIfInBounds_toArray, List.set_cons_zero, List.set_cons_succ]) | (refine WpH.wild1 (by rfl) (fun _ _ => ?_)) | (refine WpH.skip (by rfl) ?_; simp only [Act.put, List.setIfInBounds_toArray, List.set_cons_zero, List.set_cons_succ])) | go_values | go_skip | go_guarded | go_step | go_upon | go_back)
    go_ret
    refine ⟨A4, c4, ?_, ?_, hB3.trans hb4⟩
    · show Ending.returned (.slice A4 (n + 1 + r.length) c4) = .returned (.slice A4 (n + (r.length + 1)) c4)
      rw [show n + (r.length + 1) = n + 1 + r.length from by omega]
    · rw [show n + (r.length + 1) = n + 1 + r.length from by omega, show es ++ l :: r = es ++ [l] ++ r from by simp]; exact ho4
theorem chain_any (ch : List Lk) (code : Nat) (v : Value) (w : World) (h : IsErr w S a ch code v) (hn : ch.length ≤ 1073741824) :
    Calls Tryd.prog 42 #[v] w fun e w' => ∃ A c, e = .returned (.slice A ch.length c) ∧ GOwn 123 w' w.heap.size A ch.length c ch ∧ Below w.heap.size w w' := by
  have H := hid (chain_rec (S := fun b => S b ∧ b < w.heap.size) code w.heap.size ch v w none 0 0 [] (fun b h => h.2) (h.more fun b hl hs => ⟨hs, hl⟩) (GOwn.nil _ _ _) (Nat.le_refl _) (by omega))
  go_enter Tryd.func42, Tryd.ntmps42
  repeat' (first | (go_at_call 67; (with_reducible refine (Calls.mono H.out ?_)); rintro _ w2 ⟨A2, c2, rfl, ho2, hb2⟩; simp only [Nat.zero_add] at *) | go_values | go_skip | go_guarded | go_step | go_upon | go_back)
  go_ret
  exact ⟨A2, c2, rfl, by simpa using ho2, hb2⟩
end Go.Proofs.YtnpbbidiloahdaaDoor
