/- Part of a proof: what functions of the program compute. Conditions: as each theorem says. -/
import Derived.Maps.RangeWalk
import Derived.Test.YteggpddlkkjmjaaGreatDoorQ50
set_option linter.unusedSimpArgs false
set_option linter.unusedVariables false
set_option maxHeartbeats 4000000
set_option maxRecDepth 100000
namespace Go.Proofs.YteggpddlkkjmjaaGreatDoor
open Go Go.RowKit
variable {a : Nat → Addr}
theorem apply_yes_i (w : World) (S : Nat → Prop) (mb : Nat) (l : List El) (K : Nat) (o : Opn) (id : Nm) (h : Mdl w S mb l K) (hl : l.length ≤ 536870912) (hK : K ≤ 1099511627776) (hi : id.In) (hk : o.kind = 1) (hw : whyOf l o id = 0) :
 Calls Tryz.prog 102 #[.pointer (some ⟨mb, 0, none⟩), o.agg, id.val] w fun e w' => e = .returned .nilIface ∧ Mdl w' (Fr w S) mb (appOf l o id) (K + 1) ∧ Out S w w' := by
 have hc : CanDo l o id := by
  rcases why_cases l o id with ⟨h1, _⟩ | ⟨h1, _⟩ | ⟨h1, _⟩ | ⟨_, h2, h3⟩
  · omega
  · omega
  · omega
  · exact ⟨h2, fun hk => ⟨hi, h3 hk⟩, fun hn => absurd hk hn⟩
 refine (apply_ok w S mb l K o id h hl hK hc).mono ?_
 rintro e w' ⟨rfl, hM, hO⟩
 rw [appOf_done hw]
 exact ⟨rfl, hM, hO⟩
structure Lg.FitsI (s : Lg) (K : Nat) : Prop where
 l : s.l.length ≤ 1048576
 acts : s.acts.length ≤ 1048576
 forms : s.forms.length ≤ 1048576
 k : K ≤ 1099511627775
theorem deliver_no_i (w : World) (gb bm mb c d K : Nat) (A B : Option Addr) (SM S' : Nat → Prop) (s : Lg) (x : Actn) (f : Opn) (h : LgIn w gb bm mb A c B d SM s K) (hz : s.FitsI K) (hn : (s.name x).In) (hs : Sents w S' a) (hw : whyOf s.l f (s.name x) ≠ 0) :
 Calls Tryz.prog 65 #[.pointer (some ⟨gb, 0, none⟩), x.agg, f.agg] w fun e w' => ∃ v, e = .returned v ∧ IsErr w' (Fr w S') a (chOf f (whyOf s.l f (s.name x))) (whyOf s.l f (s.name x)) v ∧ Below w.heap.size w w' := by
 have hsw := hs.step (balloc (o := .cells (opCells f) 37) (balloc (o := .cells x.vals 46) (Below.refl _ w)))
 have Hs := hid hsw
 have HA := hid (fun W (hb : Below (((w.alloc (.cells x.vals 46)).alloc (.cells (opCells f) 37))).heap.size (((w.alloc (.cells x.vals 46)).alloc (.cells (opCells f) 37))) W) => apply_nay (a := a) W SM S' mb s.l K f (s.name x) ((h.step (balloc (balloc (Below.refl _ w)))).m.step hb) (by have := hz.l; omega) hn (hsw.step hb) hw)
 clear hs hsw hz
 obtain ⟨hX, hY, e0⟩ := twoBoxes w 46 37 x.vals (opCells f)
 have h0 := h.step e0
 have hnm := hn
 have HN := hid (fun W (hb : Below (((w.alloc (.cells x.vals 46)).alloc (.cells (opCells f) 37))).heap.size (((w.alloc (.cells x.vals 46)).alloc (.cells (opCells f) 37))) W) => named_log W gb bm mb c d K A B SM s x (h0.step hb))
 have Hx := hid hX
 have Hy := hid hY
 have Hh := hid h0
 have xl := hX.lt
 have yl := hY.lt
 have gl := h0.g.lt
 have ne1 : gb ≠ w.heap.size := fun e => by have := h.g.lt; omega
 have ne2 : gb ≠ w.heap.size + 1 := fun e => by have := h.g.lt; omega
 have hw2 : w.heap.size + 1 < (((w.alloc (.cells x.vals 46)).alloc (.cells (opCells f) 37))).heap.size := hY.lt
 clear hX hY h0
 simp only [Actn.agg, Opn.agg] at *
 unfold Actn.vals opCells at *
 go_enter Tryz.func65, Tryz.ntmps65
 repeat' (first | (with_reducible refine stop_region 1 ?_) | go_step)
 refine Stop.go ?_
 generalize (w.alloc (.cells #[.int .i64 x.op.kind, .int .i64 x.op.at_, .int .i32 x.op.char, .int .i64 x.op.rep, .int .i64 x.num, .int .i64 x.clk.c0, .int .i64 x.clk.c1, .int .i64 x.clk.c2, .int .i64 x.clk.c3, .int .i64 x.clk.c4, .int .i64 x.clk.c5, .int .i64 x.clk.c6, .int .i64 x.clk.c7] 46)).alloc (.cells #[.int .i64 f.kind, .int .i64 f.at_, .int .i32 f.char, .int .i64 f.rep] 37) = X at *
 have q2 : X.drew.cell? ⟨gb, 2, none⟩ = some (.pointer (some ⟨mb, 0, none⟩)) := Hh.out.g.drew.cell 2
 obtain ⟨x0, x1, x2, x3, x4, x5, x6, x7, x8, x9, x10, x11, x12⟩ := cl13 (w := X.drew) (g := w.heap.size) Hx.out.drew
 obtain ⟨y0, y1, y2, y3⟩ := cl4 (w := X.drew) (g := w.heap.size + 1) Hy.out.drew
 repeat' (first | ((with_reducible refine region_at 1 ?_); refine wp_region_order (rgl [0,4,8,12,16,20,24,29,33,36]) (by kernel_rfl) (by kernel_rfl) (by kernel_rfl) rfl rfl ?_) | (go_at_call 103; go_must ((with_reducible refine Calls.mono (HN.out _ (by (repeat' (first | (with_reducible exact Below.refl _ _) | (with_reducible refine bdrew ?_))))) ?_); rintro _ w1 ⟨rfl, hb1⟩; have D1 := bvia (show Below X.heap.size X _ by (repeat' (first | (with_reducible exact Below.refl _ _) | (with_reducible refine bdrew ?_)))) hb1; dsimp only)) | (go_at_call 102; go_must ((with_reducible refine Calls.mono (HA.out _ D1) ?_); rintro _ w2 ⟨v, rfl, hE, hb2⟩; obtain ⟨tv, xv, rfl⟩ := hE.notNil; have D2 := bvia D1 hb2; dsimp only)) | (with_reducible refine Keep.below (by assumption) ?_) | ((with_reducible refine WpH.here ?_); first | (refine WpH.nil ?_; refine NoP.normal ?_) | ((first | refine WpH.load (by rfl) (by rfl) (by go_simp; rfl) ?_ | refine WpH.pure (by rfl) (fun w_ => by go_simp; (try go_bits); rfl) ?_); go_frame) | (refine WpH.wild1 (by rfl) (fun _ _ => ?_))) | go_step)
 go_ret
 exact ⟨_, rfl, hE.more fun b _ hh => hh.imp id fun h' => by have := e0.size; have := D1.size; have h2 : w1.heap.size ≤ b := h'; show w.heap.size ≤ b; omega, bvia e0 D2⟩
theorem deliver_ok_i (w : World) (gb bm mb c d K : Nat) (A B : Option Addr) (SM S : Nat → Prop) (s : Lg) (x : Actn) (f : Opn) (h : LgIn w gb bm mb A c B d SM s K) (hS : ∀ b, LgBlk gb bm A B SM b → S b) (hz : s.FitsI K) (hk1 : f.kind = 1) (hn : (s.name x).In) (hr : x.op.rep = f.rep) (hw : whyOf s.l f (s.name x) = 0) :
 Calls Tryz.prog 65 #[.pointer (some ⟨gb, 0, none⟩), x.agg, f.agg] w fun e w' => e = .returned .nilIface ∧ LogAt w' (Fr w S) gb (s.deliver x f) (K + 1) ∧ Out S w w' := by
 have HA := hid (fun W (hb : Below (((w.alloc (.cells x.vals 46)).alloc (.cells (opCells f) 37))).heap.size (((w.alloc (.cells x.vals 46)).alloc (.cells (opCells f) 37))) W) => apply_yes_i W SM mb s.l K f (s.name x) ((h.step (balloc (balloc (Below.refl _ w)))).m.step hb) (by have := hz.l; omega) (by have := hz.k; omega) hn hk1 hw)
 have Hz := hid hz
 have HS := hid hS
 have hAl : ∀ y, A = some y → y.block < w.heap.size := fun y hy => (h.a.block y hy).2
 have hBl : ∀ y, B = some y → y.block < w.heap.size := fun y hy => (h.b.block y hy).2
 have hsm0 : ∀ b, SM b → b < w.heap.size ∧ b ≠ gb := fun b hb => ⟨(h.sm b hb).1, (h.sm b hb).2.1⟩
 have Hw := hid hw
 have Hr := hid hr
 have hgw := h.g.lt
 clear hz hS hw hr hk1
 obtain ⟨hX, hY, e0⟩ := twoBoxes w 46 37 x.vals (opCells f)
 have h0 := h.step e0
 have hnm := hn
 have HN := hid (fun W (hb : Below (((w.alloc (.cells x.vals 46)).alloc (.cells (opCells f) 37))).heap.size (((w.alloc (.cells x.vals 46)).alloc (.cells (opCells f) 37))) W) => named_log W gb bm mb c d K A B SM s x (h0.step hb))
 have Hx := hid hX
 have Hy := hid hY
 have Hh := hid h0
 have xl := hX.lt
 have yl := hY.lt
 have gl := h0.g.lt
 have ne1 : gb ≠ w.heap.size := fun e => by have := h.g.lt; omega
 have ne2 : gb ≠ w.heap.size + 1 := fun e => by have := h.g.lt; omega
 have hw2 : w.heap.size + 1 < (((w.alloc (.cells x.vals 46)).alloc (.cells (opCells f) 37))).heap.size := hY.lt
 clear hX hY h0
 simp only [Actn.agg, Opn.agg] at *
 unfold Actn.vals opCells at *
 go_enter Tryz.func65, Tryz.ntmps65
 repeat' (first | (with_reducible refine stop_region 1 ?_) | go_step)
 refine Stop.go ?_
 generalize (w.alloc (.cells #[.int .i64 x.op.kind, .int .i64 x.op.at_, .int .i32 x.op.char, .int .i64 x.op.rep, .int .i64 x.num, .int .i64 x.clk.c0, .int .i64 x.clk.c1, .int .i64 x.clk.c2, .int .i64 x.clk.c3, .int .i64 x.clk.c4, .int .i64 x.clk.c5, .int .i64 x.clk.c6, .int .i64 x.clk.c7] 46)).alloc (.cells #[.int .i64 f.kind, .int .i64 f.at_, .int .i32 f.char, .int .i64 f.rep] 37) = X at *
 have q2 : X.drew.cell? ⟨gb, 2, none⟩ = some (.pointer (some ⟨mb, 0, none⟩)) := Hh.out.g.drew.cell 2
 obtain ⟨x0, x1, x2, x3, x4, x5, x6, x7, x8, x9, x10, x11, x12⟩ := cl13 (w := X.drew) (g := w.heap.size) Hx.out.drew
 obtain ⟨y0, y1, y2, y3⟩ := cl4 (w := X.drew) (g := w.heap.size + 1) Hy.out.drew
 have qg : X.drew.heap[gb]? = some (.cells (lgVals s.ep bm mb A s.acts.length c B s.forms.length d s.clk) 100 (0, 0)) := Hh.out.g
 have qx : X.drew.heap[w.heap.size]? = some (.cells _ 46 (0, 0)) := Hx.out
 have qy : X.drew.heap[w.heap.size + 1]? = some (.cells _ 37 (0, 0)) := Hy.out
 have n1 : ¬ SM gb := fun hh => (hsm0 gb hh).2 rfl
 have n2 : ¬ SM w.heap.size := fun hh => by have := (hsm0 _ hh).1; omega
 have n3 : ¬ SM (w.heap.size + 1) := fun hh => by have := (hsm0 _ hh).1; omega
 repeat' (first | ((with_reducible refine region_at 1 ?_); refine wp_region_orderT (fun b => ¬ SM b) (rgl [0,4,8,12,16,20,24,29,33,36]) (by kernel_rfl) (by kernel_rfl) (by kernel_rfl) rfl rfl ?_) | (go_at_call 103; go_must ((with_reducible refine Calls.mono (HN.out _ (by (repeat' (first | (with_reducible exact Below.refl _ _) | (with_reducible refine bdrew ?_))))) ?_); rintro _ w1 ⟨rfl, hb1⟩; have D1 := bvia (show Below X.heap.size X _ by (repeat' (first | (with_reducible exact Below.refl _ _) | (with_reducible refine bdrew ?_)))) hb1; have hk1 : KeepT (fun b => ¬ SM b) X.drew w1 := ⟨hb1.size, fun b hl _ => hb1.block b hl⟩; dsimp only)) | (go_at_call 102; go_must ((with_reducible refine Calls.mono (HA.out _ D1) ?_); rintro _ w2 ⟨rfl, hM2, hO2⟩; have hk2 : KeepT (fun b => ¬ SM b) w1 w2 := ⟨hO2.size, fun b hl hb => hO2.block b hl hb⟩; dsimp only)) | (with_reducible refine stop_region 4 ?_) | (with_reducible first | refine Keep.below (by assumption) ?_ | refine Keep.kept (by assumption) ?_) | ((with_reducible refine WpH.here ?_); first | (refine WpH.nil ?_; refine NoP.normal ?_) | ((first | refine WpH.loadT (by rfl) (by rfl) (by go_simp; rfl) (by rintro _ _ ⟨⟩; exact ⟨_, _, _, _, _, _, by rfl, by assumption, by assumption⟩) ?_ | refine WpH.pure (by rfl) (fun w_ => by go_simp; (try go_bits); rfl) ?_); go_frame) | (refine WpH.wild1 (by rfl) (fun _ _ => ?_))) | go_step)
 refine Stop.go ?_
 have L2 := (Hh.out.step D1).model hM2 hO2 (Nat.le_succ K)
 have hx2 := hO2.blk (Hx.out.step D1) n2
 have hy2 := hO2.blk (Hy.out.step D1) n3
 have O2 : Out S w w2 := (Out.of_below (S := S) (bvia e0 D1)).trans hO2 fun b _ hs => HS.out b (.inl hs)
 have hw12 : w.heap.size ≤ w1.heap.size := (bvia e0 D1).size
 have hSM2 : ∀ b, (Fr w1 SM b ∧ b < w2.heap.size) → Fr w S b := fun b hb => hb.1.imp (fun h => HS.out b (.inl h)) fun h => by have h' : w1.heap.size ≤ b := h; show w.heap.size ≤ b; omega
 obtain ⟨SM2, hSMq⟩ : ∃ Q : Nat → Prop, Q = fun b => Fr w1 SM b ∧ b < w2.heap.size := ⟨_, rfl⟩
 rw [← hSMq] at L2
 have hSM2 : ∀ b, SM2 b → Fr w S b := by rw [hSMq]; exact hSM2
 clear hSMq
 clear hM2 hO2 hk1 hk2 hb1 D1 q2 x0 x1 x2 x3 x4 x5 x6 x7 x8 x9 x10 x11 x12 y0 y1 y2 y3 qg qx qy n1 n2 n3 HA HN Hh Hx Hy xl yl gl hw2
 have hw2 : w.heap.size + 1 < w2.heap.size := hy2.lt
 have HL2 := hid L2
 have q3 : w2.drew.cell? ⟨gb, 3, none⟩ = some (.slice A s.acts.length c) := L2.g.drew.cell 3
 obtain ⟨x0, x1, x2, x3, x4, x5, x6, x7, x8, x9, x10, x11, x12⟩ := cl13 (w := w2.drew) (g := w.heap.size) hx2.drew
 have gl := L2.g.lt
 have xl := hx2.lt
 have qg : w2.drew.heap[gb]? = some (.cells (lgVals s.ep bm mb A s.acts.length c B s.forms.length d s.clk) 100 (0, 0)) := L2.g
 have qx : w2.drew.heap[w.heap.size]? = some (.cells _ 46 (0, 0)) := hx2
 have t1 : ∀ g, A = some g → g.block ≠ gb := L2.a.ne_blk (by decide) L2.g
 have t2 : ∀ g, A = some g → g.block ≠ w.heap.size := fun g hg => by have := hAl g hg; omega
 have eX : Below w2.heap.size w2 (w2.alloc (.cells #[.int .i64 x.op.kind, .int .i64 x.op.at_, .int .i32 x.op.char, .int .i64 x.op.rep, .int .i64 x.num, .int .i64 x.clk.c0, .int .i64 x.clk.c1, .int .i64 x.clk.c2, .int .i64 x.clk.c3, .int .i64 x.clk.c4, .int .i64 x.clk.c5, .int .i64 x.clk.c6, .int .i64 x.clk.c7] 46)) := balloc (Below.refl _ _)
 have hA3 := (L2.a.step eX).step (drew_below _)
 have hrow3 := (grow_act w2 x).step (drew_below _)
 unfold Actn.vals at hrow3
 have Hz1 := Hz.out.acts
 have HX2 := hid hx2
 have HY2 := hid hy2
 clear L2 hx2 hy2
 repeat' (first | ((with_reducible refine region_at 4 ?_); refine wp_region_orderT (fun b => ∀ g, A = some g → g.block ≠ b) (rgl [0,4,8,12,16,20,25,29,32,36,43]) (by kernel_rfl) (by kernel_rfl) (by kernel_rfl) rfl rfl ?_) | (with_reducible refine Keep.allocD ?_) | ((with_reducible refine app_acts_here ?_); refine wp_append_acts 0 A _ s.acts.length c 1 1 s.acts [x] (fun _ => True) (by rfl) (by rfl) hA3 hrow3 (Nat.zero_le _) (by omega) ?_; intro A' c' w5 hA5 hb5 hsm5 hat5 hz5; have hk5 : KeepT (fun b => ∀ g, A = some g → g.block ≠ b) _ w5 := ⟨hz5, fun b hb ht => hsm5 b ht hb⟩; have g5 : Blk w5 gb _ _ := (hsm5 gb t1 (HL2.out.step (bvia eX (drew_below _))).g.lt).trans (HL2.out.step (bvia eX (drew_below _))).g; have f5 := g5.frozen 3; have gl5 := g5.lt; have g35 : w5.cell? ⟨gb, 3, none⟩ = some (.slice A s.acts.length c) := g5.cell 3) | (with_reducible refine stop_region 5 ?_) | (with_reducible first | refine Keep.last ?_ | refine Keep.kept (by assumption) ?_) | ((with_reducible refine WpH.here ?_); first | (refine WpH.nil ?_; refine NoP.normal ?_) | ((first | refine WpH.loadT (by rfl) (by rfl) (by go_simp; rfl) (by rintro _ _ ⟨⟩; exact ⟨_, _, _, _, _, _, by rfl, by assumption, by assumption⟩) ?_ | refine WpH.pure (by rfl) (fun w_ => by go_simp; (try go_bits); rfl) ?_); go_frame) | (refine WpH.wild1 (by rfl) (fun _ _ => ?_))) | go_step)
 refine Stop.go ?_
 have e3 := bvia eX (drew_below _)
 have L5 := (HL2.out.step e3).act hA5 hsm5 hz5 hat5
 have same6 : ∀ b, b < w2.heap.size → (∀ g, A = some g → g.block ≠ b) → b ≠ gb → (w5.setCell ⟨gb, 3, none⟩ (.slice A' (s.acts.length + 1) c')).heap[b]? = w2.heap[b]? := fun b hb h1 h2 => (Below.heap_setCell _ _ _ _ h2).trans ((hsm5 b h1 (Nat.lt_of_lt_of_le hb e3.size)).trans (e3.block b hb))
 have hx6 := (same6 _ HX2.out.lt t2 ne1.symm).trans HX2.out
 have hy6 := (same6 _ HY2.out.lt (fun g hg => by have := hAl g hg; omega) ne2.symm).trans HY2.out
 have O6 : Out S w (w5.setCell ⟨gb, 3, none⟩ (.slice A' (s.acts.length + 1) c')) := by
  refine (O2.trans (Out.of_below (S := S) e3) fun _ _ h => h).trans ?_ fun _ _ h => h
  refine Out.trans (S' := S) (⟨hb5.os, hb5.tape, hb5.output, hz5, fun b hb hn => hsm5 b (fun g hg e => hn (HS.out b (.inr (.inr (.inr (.inl ⟨g, hg, e.symm⟩)))))) hb⟩ : Out S _ w5) (Out.setCell (S := S) (p := ⟨gb, 3, none⟩) (HS.out gb (.inr (.inl rfl))) _) fun _ _ h => h
 have hA' : ∀ y, A' = some y → Fr w S y.block := fun y hy => by
  rcases hat5 with rfl | ⟨g, rfl, hg⟩
  · exact .inl (HS.out _ (.inr (.inr (.inr (.inl ⟨y, hy, rfl⟩)))))
  · injection hy with hy
    subst hy
    refine .inr ?_
    show w.heap.size ≤ g
    have := O2.size
    have := e3.size
    omega
 clear hA5 hsm5 hat5 hk5 g5 f5 gl5 g35 q3 x0 x1 x2 x3 x4 x5 x6 x7 x8 x9 x10 x11 x12 qg qx t1 t2 eX e3 hA3 hrow3 HX2 HY2 HL2 gl xl same6 Hz1 hw2 O2 hb5 hz5
 generalize w5.setCell ⟨gb, 3, none⟩ (.slice A' (s.acts.length + 1) c') = w6 at *
 have q3 : w6.drew.cell? ⟨gb, 4, none⟩ = some (.slice B s.forms.length d) := L5.g.drew.cell 4
 have y0 : w6.drew.cell? ⟨w.heap.size + 1, 0, none⟩ = some (.int .i64 f.kind) := Blk.cell (Blk.drew hy6) 0
 have y1 : w6.drew.cell? ⟨w.heap.size + 1, 1, none⟩ = some (.int .i64 f.at_) := Blk.cell (Blk.drew hy6) 1
 have y2 : w6.drew.cell? ⟨w.heap.size + 1, 2, none⟩ = some (.int .i32 f.char) := Blk.cell (Blk.drew hy6) 2
 have y3 : w6.drew.cell? ⟨w.heap.size + 1, 3, none⟩ = some (.int .i64 f.rep) := Blk.cell (Blk.drew hy6) 3
 have gl := L5.g.lt
 have yl := Blk.lt hy6
 have qg : w6.drew.heap[gb]? = some (.cells _ 100 (0, 0)) := L5.g
 have qy : w6.drew.heap[w.heap.size + 1]? = some (.cells _ 37 (0, 0)) := hy6
 have t1 : ∀ g, B = some g → g.block ≠ gb := L5.b.ne_blk (by decide) L5.g
 have t2 : ∀ g, B = some g → g.block ≠ w.heap.size + 1 := fun g hg => by have := hBl g hg; omega
 have eX : Below w6.heap.size w6 (w6.alloc (.cells #[.int .i64 f.kind, .int .i64 f.at_, .int .i32 f.char, .int .i64 f.rep] 37)) := balloc (Below.refl _ _)
 have hB3 := (L5.b.step eX).step (drew_below _)
 have hrow3 := (grow_opn w6 f).step (drew_below _)
 unfold opCells at hrow3
 have Hz1 := Hz.out.forms
 have HL5 := hid L5
 have HX6 := hid hx6
 have HY6 := hid hy6
 clear L5 hx6 hy6
 dsimp only at hB3
 repeat' (first | ((with_reducible refine region_at 5 ?_); refine wp_region_orderT (fun b => ∀ g, B = some g → g.block ≠ b) (rgl [0,4,8,12,16,20,25,29,32,36,43]) (by kernel_rfl) (by kernel_rfl) (by kernel_rfl) rfl rfl ?_) | (with_reducible refine Keep.allocD ?_) | ((with_reducible refine app_ops_here ?_); refine wp_append_ops 0 B _ s.forms.length d 1 1 s.forms [f] (fun _ => True) (by rfl) (by rfl) hB3 hrow3 (Nat.zero_le _) (by omega) ?_; intro B' d' w7 hB7 hb7 hsm7 hat7 hz7; have hk7 : KeepT (fun b => ∀ g, B = some g → g.block ≠ b) _ w7 := ⟨hz7, fun b hb ht => hsm7 b ht hb⟩; have g7 : Blk w7 gb _ _ := (hsm7 gb t1 (HL5.out.step (bvia eX (drew_below _))).g.lt).trans (HL5.out.step (bvia eX (drew_below _))).g; have f7 := g7.frozen 4; have gl7 := g7.lt; have g47 : w7.cell? ⟨gb, 4, none⟩ = some (.slice B s.forms.length d) := g7.cell 4) | (with_reducible refine stop_region 6 ?_) | (with_reducible first | refine Keep.last ?_ | refine Keep.kept (by assumption) ?_) | ((with_reducible refine WpH.here ?_); first | (refine WpH.nil ?_; refine NoP.normal ?_) | ((first | refine WpH.loadT (by rfl) (by rfl) (by go_simp; rfl) (by rintro _ _ ⟨⟩; exact ⟨_, _, _, _, _, _, by rfl, by assumption, by assumption⟩) ?_ | refine WpH.pure (by rfl) (fun w_ => by go_simp; (try go_bits); rfl) ?_); go_frame) | (refine WpH.wild1 (by rfl) (fun _ _ => ?_))) | go_step)
 refine Stop.go ?_
 have e3 := bvia eX (drew_below _)
 have L7 := (HL5.out.step e3).form hB7 hsm7 hz7 hat7
 have same7 : ∀ b, b < w6.heap.size → (∀ g, B = some g → g.block ≠ b) → b ≠ gb → (w7.setCell ⟨gb, 4, none⟩ (.slice B' (s.forms.length + 1) d')).heap[b]? = w6.heap[b]? := fun b hb h1 h2 => (Below.heap_setCell _ _ _ _ h2).trans ((hsm7 b h1 (Nat.lt_of_lt_of_le hb e3.size)).trans (e3.block b hb))
 have hx7 := (same7 _ (Blk.lt HX6.out) (fun g hg => by have := hBl g hg; omega) ne1.symm).trans HX6.out
 have O7 : Out S w (w7.setCell ⟨gb, 4, none⟩ (.slice B' (s.forms.length + 1) d')) := by
  refine (O6.trans (Out.of_below (S := S) e3) fun _ _ h => h).trans ?_ fun _ _ h => h
  refine Out.trans (S' := S) (⟨hb7.os, hb7.tape, hb7.output, hz7, fun b hb hn => hsm7 b (fun g hg e => hn (HS.out b (.inr (.inr (.inr (.inr ⟨g, hg, e.symm⟩)))))) hb⟩ : Out S _ w7) (Out.setCell (S := S) (p := ⟨gb, 4, none⟩) (HS.out gb (.inr (.inl rfl))) _) fun _ _ h => h
 have hB' : ∀ y, B' = some y → Fr w S y.block := fun y hy => by
  rcases hat7 with rfl | ⟨g, rfl, hg⟩
  · exact .inl (HS.out _ (.inr (.inr (.inr (.inr ⟨y, hy, rfl⟩)))))
  · injection hy with hy
    subst hy
    refine .inr ?_
    show w.heap.size ≤ g
    have := O6.size
    have := e3.size
    omega
 clear hB7 hsm7 hat7 hk7 g7 f7 gl7 g47 q3 y0 y1 y2 y3 qg qy t1 t2 eX e3 hB3 hrow3 HX6 HY6 HL5 gl yl same7 Hz1 O6 hb7 hz7
 generalize w7.setCell ⟨gb, 4, none⟩ (.slice B' (s.forms.length + 1) d') = w8 at *
 have hrg : 0 ≤ f.rep ∧ f.rep < 8 := by
  rcases why_cases s.l f (s.name x) with ⟨h1, -⟩ | ⟨h1, -⟩ | ⟨h1, -⟩ | ⟨-, h2, -⟩
  · rw [Hw.out] at h1; cases h1
  · rw [Hw.out] at h1; cases h1
  · rw [Hw.out] at h1; cases h1
  · have h3 := valid_right h2
    unfold rightOp at h3
    by_cases h4 : f.rep < 0 ∨ 8 ≤ f.rep
    · rw [if_pos h4] at h3; cases h3
    · omega
 obtain ⟨k, hk⟩ := Int.eq_ofNat_of_zero_le hrg.1
 have hk8 : k < 8 := by omega
 have hk' : (k : Int) < 8 := by omega
 have x3 : w8.drew.cell? ⟨w.heap.size, 3, none⟩ = some (.int .i64 (k : Nat)) := by
  have h1 := Blk.cell (Blk.drew hx7) 3
  rw [show ((k : Nat) : Int) = x.op.rep from by rw [Hr.out, hk]]
  exact h1
 have x4 : w8.drew.cell? ⟨w.heap.size, 4, none⟩ = some (.int .i64 x.num) := Blk.cell (Blk.drew hx7) 4
 have gl := L7.g.lt
 have xl := Blk.lt hx7
 have g5k : w8.cell? ⟨gb, 5 + k, none⟩ = some (.int .i64 (s.clk.get k)) := (L7.g.cell (5 + k)).trans (lgVals_clk _ _ _ _ _ _ _ _ _ _ hk8)
 have f5k := L7.g.frozen (5 + k)
 have hkr : x.op.rep.toNat = k := by rw [Hr.out, hk]; rfl
 have HKr := hid hkr
 have HL7 := hid L7
 clear L7 hx7 hk hkr hrg
 repeat' (first | ((with_reducible refine region_at 6 ?_); refine wp_region_order (rgl [0,4,8,12,16,20,24,28,32,39]) (by kernel_rfl) (by kernel_rfl) (by kernel_rfl) rfl rfl ?_) | (with_reducible refine Keep.last ?_) | ((with_reducible refine WpH.here ?_); first | (refine WpH.nil ?_; refine NoP.normal ?_) | ((first | refine WpH.load (by rfl) (by rfl) (by go_simp; rfl) ?_ | refine WpH.pure (by rfl) (fun w_ => by go_simp; (try go_bits); rfl) ?_); go_frame) | (refine WpH.wild1 (by rfl) (fun _ _ => ?_))) | go_step)
 go_ret
 have L9 := (HL7.out.tick hk8 x.num).step (drew_below _)
 refine ⟨rfl, ⟨bm, mb, A', c', B', d', SM2, ?_, ?_⟩, ?_⟩
 · unfold Lg.deliver
   rw [if_pos Hw.out, HKr.out]
   exact L9
 · rintro b (hb | hb | hb | ⟨y, hy, rfl⟩ | ⟨y, hy, rfl⟩)
   · exact hSM2 b hb
   · exact .inl (HS.out b (.inr (.inl hb)))
   · exact .inl (HS.out b (.inr (.inr (.inl hb))))
   · exact hA' y hy
   · exact hB' y hy
 · exact (O7.trans (Out.setCell (S := S) (p := ⟨gb, 5 + k, none⟩) (HS.out gb (.inr (.inl rfl))) _) fun _ _ h => h).trans (Out.drew (S := S)) fun _ _ h => h
theorem deliver_step_i (w : World) (gb K : Nat) (S S' : Nat → Prop) (s : Lg) (x : Actn) (f : Opn) (h : LogAt w S gb s K) (hz : s.FitsI K) (hk1 : f.kind = 1) (hn : (s.name x).In) (hr : x.op.rep = f.rep) (hs : Sents w S' a) :
 Calls Tryz.prog 65 #[.pointer (some ⟨gb, 0, none⟩), x.agg, f.agg] w fun e w' => ∃ v, e = .returned v ∧ ErrAns w' (Fr w S') a (chOf f (whyOf s.l f (s.name x))) (whyOf s.l f (s.name x)) v ∧ LogAt w' (Fr w S) gb (s.deliver x f) (K + 1) ∧ Out S w w' := by
 obtain ⟨bm, mb, A, c, B, d, SM, h1, h2⟩ := h
 by_cases hw : whyOf s.l f (s.name x) = 0
 · refine (deliver_ok_i w gb bm mb c d K A B SM S s x f h1 h2 hz hk1 hn hr hw).mono ?_
   rintro e w' ⟨rfl, k1, k2⟩
   exact ⟨_, rfl, .inl ⟨hw, rfl⟩, k1, k2⟩
 · refine (deliver_no_i (a := a) w gb bm mb c d K A B SM S' s x f h1 hz hn hs hw).mono ?_
   rintro e w' ⟨v, rfl, k1, k2⟩
   rw [deliver_nay hw]
   exact ⟨v, rfl, .inr k1, (LogAt.monoK ⟨bm, mb, A, c, B, d, SM, h1.step k2, h2⟩ (Nat.le_succ K)).more fun b hb => .inl hb, Out.of_below k2⟩
theorem issue_step_i (w : World) (gb K : Nat) (S S' : Nat → Prop) (s : Lg) (o : Opn) (h : LogAt w S gb s K) (hfit : s.FitsI K) (hep0 : I64 s.ep) (hcl0 : s.clk.In) (hk1 : o.kind = 1) (hx : o.In) (hck : ∀ k, k < 8 → s.clk.get k ≤ 2097152) (hs : Sents w S' a) (hlow : ∀ b, S' b → b < w.heap.size) :
 Calls Tryz.prog 28 #[.pointer (some ⟨gb, 0, none⟩), o.agg] w fun e w' => ∃ v, e = .returned (.tuple #[(s.issued o).agg, v]) ∧ ErrAns w' (Fr w S') a (s.issueCh o) (s.issueCode o) v ∧ LogAt w' (Fr w S) gb (s.issueOf o) (K + 1) ∧ Out S w w' := by
 have HL := hid h.cut
 have hL0 := h.cut
 obtain ⟨bm, mb, A, c, B, d, SM, h, -⟩ := h
 obtain ⟨hX, hB, e0⟩ := twoBoxes w 37 46 #[.int .i64 o.kind, .int .i64 o.at_, .int .i32 o.char, .int .i64 o.rep] #[.int .i64 0, .int .i64 0, .int .i32 0, .int .i64 0, .int .i64 0, .int .i64 0, .int .i64 0, .int .i64 0, .int .i64 0, .int .i64 0, .int .i64 0, .int .i64 0, .int .i64 0]
 have h0 := h.step e0
 have hs0 := hs.step e0
 have hLX := hL0.step e0
 have HG := hid h0
 have HR := hid (fun W => rightOp_any o W)
 have HD := hid (fun W (hb : Below ((w.alloc (.cells #[.int .i64 o.kind, .int .i64 o.at_, .int .i32 o.char, .int .i64 o.rep] 37)).alloc (.cells #[.int .i64 0, .int .i64 0, .int .i32 0, .int .i64 0, .int .i64 0, .int .i64 0, .int .i64 0, .int .i64 0, .int .i64 0, .int .i64 0, .int .i64 0, .int .i64 0, .int .i64 0] 46)).heap.size ((w.alloc (.cells #[.int .i64 o.kind, .int .i64 o.at_, .int .i32 o.char, .int .i64 o.rep] 37)).alloc (.cells #[.int .i64 0, .int .i64 0, .int .i32 0, .int .i64 0, .int .i64 0, .int .i64 0, .int .i64 0, .int .i64 0, .int .i64 0, .int .i64 0, .int .i64 0, .int .i64 0, .int .i64 0] 46)) W) (hn : (s.name (s.actOf o)).In) => deliver_step_i (a := a) W gb K (fun b => S b ∧ b < w.heap.size) S' s (s.actOf o) o (hLX.step hb) hfit hk1 hn rfl (hs0.step hb))
 have HX := hid hX
 have HB := hid hB
 have Hep := hid hep0
 have Hox := hid hx
 have Hck := hid hck
 have Hclk := hid hcl0
 clear h h0 hX hB hs hs0 hx hL0 hLX hfit hck hep0 hcl0 hk1
 obtain ⟨n, hn⟩ : ∃ n, n = s.issueCode o := ⟨_, rfl⟩
 have hn' : n = whyOf s.l o (s.name (s.actOf o)) := hn
 rw [← hn'] at HD
 obtain ⟨s', hs'⟩ : ∃ s', s' = s.issueOf o := ⟨_, rfl⟩
 have hs'' : s' = s.deliver (s.actOf o) o := hs'
 rw [← hs''] at HD
 obtain ⟨P, hP⟩ : ∃ P, P = s.issued o := ⟨_, rfl⟩
 have Hch := hid (show s.issueCh o = ⟨({ data := #[104, 105, 115, 116, 111, 114, 121] } : ByteArray), ({ data := #[73, 115, 115, 117, 101] } : ByteArray), atOf o.at_⟩ :: chOf o n by unfold Lg.issueCh; rw [← hn])
 have HP := hid (show P = if n = 0 then s.actOf o else noActn by rw [hP, hn]; rfl)
 rw [← hn, ← hs', ← hP, Hch.out]
 clear hn hn' hs' hs'' hP Hch
 obtain ⟨y, hy⟩ : ∃ y, y = s.actOf o := ⟨_, rfl⟩
 rw [← hy] at HD HP
 have Hy := hid hy
 clear hy
 simp only [Actn.agg, Opn.agg] at *
 unfold Actn.vals at *
 go_enter Tryz.func28, Tryz.ntmps28
 repeat' (first | (with_reducible refine stop_region 1 ?_) | go_step)
 refine Stop.go ?_
 generalize (w.alloc (.cells #[.int .i64 o.kind, .int .i64 o.at_, .int .i32 o.char, .int .i64 o.rep] 37)).alloc (.cells #[.int .i64 0, .int .i64 0, .int .i32 0, .int .i64 0, .int .i64 0, .int .i64 0, .int .i64 0, .int .i64 0, .int .i64 0, .int .i64 0, .int .i64 0, .int .i64 0, .int .i64 0] 46) = X at *
 have hxd := HX.out.step (drew_below X)
 have hgd := (HG.out.step (drew_below X)).g
 obtain ⟨o0, o1, o2, o3⟩ := cl4 (w := X.drew) (g := w.heap.size) hxd; have ol := (hxd).lt
 have g5 : X.drew.cell? ⟨gb, 5, none⟩ = some (.int .i64 s.clk.c0) := (hgd).cell 5; have g6 : X.drew.cell? ⟨gb, 6, none⟩ = some (.int .i64 s.clk.c1) := (hgd).cell 6; have g7 : X.drew.cell? ⟨gb, 7, none⟩ = some (.int .i64 s.clk.c2) := (hgd).cell 7; have g8 : X.drew.cell? ⟨gb, 8, none⟩ = some (.int .i64 s.clk.c3) := (hgd).cell 8; have g9 : X.drew.cell? ⟨gb, 9, none⟩ = some (.int .i64 s.clk.c4) := (hgd).cell 9; have g10 : X.drew.cell? ⟨gb, 10, none⟩ = some (.int .i64 s.clk.c5) := (hgd).cell 10; have g11 : X.drew.cell? ⟨gb, 11, none⟩ = some (.int .i64 s.clk.c6) := (hgd).cell 11; have g12 : X.drew.cell? ⟨gb, 12, none⟩ = some (.int .i64 s.clk.c7) := (hgd).cell 12; have gl := (hgd).lt
 repeat' (first | ((with_reducible refine region_at 1 ?_); refine wp_region_order (rgl [0,4,8,12,16,20,25,31]) (by kernel_rfl) (by kernel_rfl) (by kernel_rfl) rfl rfl ?_) | (with_reducible refine Keep.allocD ?_) | (with_reducible refine stop_region 2 ?_) | (with_reducible refine Keep.last ?_) | ((with_reducible refine WpH.here ?_); first | (refine WpH.nil ?_; refine NoP.normal ?_) | ((first | refine WpH.load (by rfl) (by rfl) (by go_simp; rfl) ?_ | refine WpH.pure (by rfl) (fun w_ => by go_simp; (try go_bits); rfl) ?_); go_frame) | (refine WpH.wild1 (by rfl) (fun _ _ => ?_))) | go_step)
 refine Stop.go ?_
 have eA : Below X.heap.size X (X.alloc (.cells #[.int .i64 o.kind, .int .i64 o.at_, .int .i32 o.char, .int .i64 o.rep, .int .i64 0, .int .i64 s.clk.c0, .int .i64 s.clk.c1, .int .i64 s.clk.c2, .int .i64 s.clk.c3, .int .i64 s.clk.c4, .int .i64 s.clk.c5, .int .i64 s.clk.c6, .int .i64 s.clk.c7] 46)).drew := (balloc (Below.refl _ _)).drew
 have hab : Blk (X.alloc (.cells #[.int .i64 o.kind, .int .i64 o.at_, .int .i32 o.char, .int .i64 o.rep, .int .i64 0, .int .i64 s.clk.c0, .int .i64 s.clk.c1, .int .i64 s.clk.c2, .int .i64 s.clk.c3, .int .i64 s.clk.c4, .int .i64 s.clk.c5, .int .i64 s.clk.c6, .int .i64 s.clk.c7] 46)).drew X.heap.size 46 #[.int .i64 o.kind, .int .i64 o.at_, .int .i32 o.char, .int .i64 o.rep, .int .i64 0, .int .i64 s.clk.c0, .int .i64 s.clk.c1, .int .i64 s.clk.c2, .int .i64 s.clk.c3, .int .i64 s.clk.c4, .int .i64 s.clk.c5, .int .i64 s.clk.c6, .int .i64 s.clk.c7] := (Blk.new X 46 #[.int .i64 o.kind, .int .i64 o.at_, .int .i32 o.char, .int .i64 o.rep, .int .i64 0, .int .i64 s.clk.c0, .int .i64 s.clk.c1, .int .i64 s.clk.c2, .int .i64 s.clk.c3, .int .i64 s.clk.c4, .int .i64 s.clk.c5, .int .i64 s.clk.c6, .int .i64 s.clk.c7]).drew
 clear o0 o1 o2 o3 ol
 clear hxd hgd g5 g6 g7 g8 g9 g10 g11 g12 gl
 generalize (X.alloc (.cells #[.int .i64 o.kind, .int .i64 o.at_, .int .i32 o.char, .int .i64 o.rep, .int .i64 0, .int .i64 s.clk.c0, .int .i64 s.clk.c1, .int .i64 s.clk.c2, .int .i64 s.clk.c3, .int .i64 s.clk.c4, .int .i64 s.clk.c5, .int .i64 s.clk.c6, .int .i64 s.clk.c7] 46)).drew = Y at *
 have hXl := HB.out.lt
 rcases hr : rightOp o with _ | _
 · rw [hr] at HR
   have hyv : y = ⟨o, 0, s.clk⟩ := by rw [Hy.out]; unfold Lg.actOf; rw [hr]; rfl
   clear Hy
   subst hyv
   dsimp only at HD
   have hox := HX.out.step eA
   obtain ⟨o0, o1, o2, o3⟩ := cl4 (w := Y) (g := w.heap.size) hox; have ol := (hox).lt
   repeat' (first | (go_at_call 64; go_must ((with_reducible refine Calls.mono (HR.out _) ?_); rintro _ Z ⟨rfl, hbR⟩; dsimp only)) | (with_reducible refine stop_region 4 ?_) | go_step)
   refine Stop.go ?_
   have hbZ := bvia eA hbR
   have hab := hab.step hbR
   have hnI : (s.name ⟨o, 0, s.clk⟩).In := ⟨Hep.out, Hox.out.rep, ⟨by show _ ≤ (0 : Int); omega, by show (0 : Int) ≤ _; omega⟩⟩
   clear o0 o1 o2 o3 ol
   clear eA hbR hox
   have hox := HX.out.step hbZ
   obtain ⟨o0, o1, o2, o3⟩ := cl4 (w := Z) (g := w.heap.size) hox; have ol := (hox).lt
   obtain ⟨a0, a1, a2, a3, a4, a5, a6, a7, a8, a9, a10, a11, a12⟩ := cl13 (w := Z) (g := X.heap.size) hab; have al := (hab).lt
   have hwZ := (bvia e0 hbZ).size
   have hrZ := HB.out.step hbZ
   repeat' (first | (go_at_call 65; go_must ((with_reducible refine Calls.mono (HD.out _ hbZ hnI) ?_); rintro _ w6 ⟨v, rfl, hE, hL6, hO6⟩; dsimp only)) | (with_reducible refine stop_region 5 ?_) | go_step)
   refine Stop.go ?_
   clear o0 o1 o2 o3 ol
   clear a0 a1 a2 a3 a4 a5 a6 a7 a8 a9 a10 a11 a12 al
   have hox6 := hO6.blk hox (by rintro ⟨-, h⟩; omega)
   have hab6 := hO6.blk hab (by rintro ⟨-, h⟩; omega)
   have hr6 := hO6.blk hrZ (by rintro ⟨-, h⟩; omega)
   have hO : Out S w w6 := (Out.of_below (S := S) (bvia e0 hbZ)).trans hO6 fun _ _ h => h.1
   have hw6 := hO6.size
   have hzZ := hrZ.lt
   rcases hE with ⟨hc, rfl⟩ | hE
   · subst hc
     obtain ⟨a0, a1, a2, a3, a4, a5, a6, a7, a8, a9, a10, a11, a12⟩ := cl13 (w := w6) (g := X.heap.size) hab6; have al := (hab6).lt
     have hz := hr6; obtain ⟨zl, z0, z1, z2, z3, z4, z5, z6, z7, z8, z9, z10, z11, z12, f0, f1, f2, f3, f4, f5, f6, f7, f8, f9, f10, f11, f12⟩ := bl13 hz
     repeat' (first | go_step)
     have hz13 := hz.sets (act13 ⟨o, 0, s.clk⟩)
     have v0 := hz13.cell 0
     have v1 := hz13.cell 1
     have v2 := hz13.cell 2
     have v3 := hz13.cell 3
     have v4 := hz13.cell 4
     have v5 := hz13.cell 5
     have v6 := hz13.cell 6
     have v7 := hz13.cell 7
     have v8 := hz13.cell 8
     have v9 := hz13.cell 9
     have v10 := hz13.cell 10
     have v11 := hz13.cell 11
     have v12 := hz13.cell 12
     simp [act13, noActn, noOpn, Clk.zero] at v0 v1 v2 v3 v4 v5 v6 v7 v8 v9 v10 v11 v12
     refine bodyPost_ret (w := setsAt (w.heap.size + 1) (act13 ⟨o, 0, s.clk⟩) w6) (v := .tuple #[.agg #[.int .i64 o.kind, .int .i64 o.at_, .int .i32 o.char, .int .i64 o.rep, .int .i64 0, .int .i64 s.clk.c0, .int .i64 s.clk.c1, .int .i64 s.clk.c2, .int .i64 s.clk.c3, .int .i64 s.clk.c4, .int .i64 s.clk.c5, .int .i64 s.clk.c6, .int .i64 s.clk.c7], .nilIface]) (by simp [act13, noActn, noOpn, Clk.zero, results, Tryz.results28, go_sem, v0, v1, v2, v3, v4, v5, v6, v7, v8, v9, v10, v11, v12]) rfl ?_
     refine ⟨_, by rw [HP.out, if_pos rfl], .inl ⟨rfl, rfl⟩, ?_, hO.sets _ (Nat.le_succ _)⟩
     refine (hL6.keep (S := fun b => Fr Z (fun b => S b ∧ b < w.heap.size) b) (by rw [setsAt_size]; exact Nat.le_refl _) fun b hb hs => Same.sets (T := fun b => Fr Z (fun b => S b ∧ b < w.heap.size) b) _ (fun hh => ?_) b hs hb).more fun b hb => ?_
     · rcases hh with ⟨-, hh⟩ | hh
       · omega
       · have h2 : Z.heap.size ≤ w.heap.size + 1 := hh
         omega
     · rcases hb with hb | hb
       · exact .inl hb.1
       · have h2 : Z.heap.size ≤ b := hb
         exact .inr (by show w.heap.size ≤ b; omega)
   · have hn0 : n ≠ 0 := fun hn => by
      subst hn
      exact not_err0 _ _ hE
     have HN2 := hid (new_err ({ data := #[104, 105, 115, 116, 111, 114, 121] } : ByteArray) ({ data := #[73, 115, 115, 117, 101] } : ByteArray) o.at_ _ n v w6 hE)
     obtain ⟨tv, xv, rfl⟩ := hE.notNil
     obtain ⟨o0, o1, o2, o3⟩ := cl4 (w := w6) (g := w.heap.size) hox6; have ol := (hox6).lt
     repeat' (first | (go_at_call 51; go_must ((with_reducible refine Calls.mono HN2.out ?_); rintro _ w7 ⟨v, rfl, hE7, hb7⟩; have hz := hr6.step hb7; obtain ⟨zl, z0, z1, z2, z3, z4, z5, z6, z7, z8, z9, z10, z11, z12, f0, f1, f2, f3, f4, f5, f6, f7, f8, f9, f10, f11, f12⟩ := bl13 hz; dsimp only)) | go_step)
     have hz13 := hz.sets (act13 noActn)
     have v0 := hz13.cell 0
     have v1 := hz13.cell 1
     have v2 := hz13.cell 2
     have v3 := hz13.cell 3
     have v4 := hz13.cell 4
     have v5 := hz13.cell 5
     have v6 := hz13.cell 6
     have v7 := hz13.cell 7
     have v8 := hz13.cell 8
     have v9 := hz13.cell 9
     have v10 := hz13.cell 10
     have v11 := hz13.cell 11
     have v12 := hz13.cell 12
     simp [act13, noActn, noOpn, Clk.zero] at v0 v1 v2 v3 v4 v5 v6 v7 v8 v9 v10 v11 v12
     refine bodyPost_ret (w := setsAt (w.heap.size + 1) (act13 noActn) w7) (v := .tuple #[.agg #[.int .i64 0, .int .i64 0, .int .i32 0, .int .i64 0, .int .i64 0, .int .i64 0, .int .i64 0, .int .i64 0, .int .i64 0, .int .i64 0, .int .i64 0, .int .i64 0, .int .i64 0], v]) (by simp [act13, noActn, noOpn, Clk.zero, results, Tryz.results28, go_sem, v0, v1, v2, v3, v4, v5, v6, v7, v8, v9, v10, v11, v12]) rfl ?_
     have hO7 : Out S w w7 := hO.trans (Out.of_below (S := S) hb7) fun _ _ h => h
     have hw7 := hb7.size
     refine ⟨_, by rw [HP.out, if_neg hn0]; rfl, .inr ?_, ?_, hO7.sets _ (Nat.le_succ _)⟩
     · refine (hE7.keep (S := Fr w6 (Fr Z S')) (Same.sets _ fun hh => ?_)).more fun b _ hh => ?_
       · rcases hh with (hh | hh) | hh
         · have := hlow _ hh; omega
         · have h2 : Z.heap.size ≤ w.heap.size + 1 := hh
           omega
         · have h2 : w6.heap.size ≤ w.heap.size + 1 := hh
           omega
       · rcases hh with (hh | hh) | hh
         · exact .inl hh
         · have h2 : Z.heap.size ≤ b := hh
           exact .inr (by show w.heap.size ≤ b; omega)
         · have h2 : w6.heap.size ≤ b := hh
           exact .inr (by show w.heap.size ≤ b; omega)
     · refine ((hL6.step hb7).keep (S := fun b => Fr Z (fun b => S b ∧ b < w.heap.size) b) (by rw [setsAt_size]; exact Nat.le_refl _) fun b hb hs => Same.sets (T := fun b => Fr Z (fun b => S b ∧ b < w.heap.size) b) _ (fun hh => ?_) b hs hb).more fun b hb => ?_
       · rcases hh with ⟨-, hh⟩ | hh
         · omega
         · have h2 : Z.heap.size ≤ w.heap.size + 1 := hh
           omega
       · rcases hb with hb | hb
         · exact .inl hb.1
         · have h2 : Z.heap.size ≤ b := hb
           exact .inr (by show w.heap.size ≤ b; omega)
 · rw [hr] at HR
   obtain ⟨k, hk, hk8⟩ := rightOp_rep8 hr
   have hk' : (k : Int) < 8 := by omega
   obtain ⟨N, hN⟩ : ∃ N, N = s.clk.get k + 1 := ⟨_, rfl⟩
   have hyv : y = ⟨o, N, s.clk⟩ := by rw [Hy.out]; unfold Lg.actOf; rw [hr, hN, hk]; rfl
   clear Hy
   subst hyv
   dsimp only at HD
   have hox := HX.out.step eA
   have hc1 := Hck.out k hk8
   have hc2 := (Hclk.out k hk8).1
   have HN := hid hN
   obtain ⟨o0, o1, o2, o3⟩ := cl4 (w := Y) (g := w.heap.size) hox; have ol := (hox).lt
   clear hN
   have Hk := hid hk
   rw [hk] at HR o3
   clear hk
   repeat' (first | (go_at_call 64; go_must ((with_reducible refine Calls.mono (HR.out _) ?_); rintro _ Z0 ⟨rfl, hbR⟩; dsimp only)) | (with_reducible refine stop_region 3 ?_) | go_step)
   refine Stop.go ?_
   clear o0 o1 o2 o3 ol
   have hb0 := bvia eA hbR
   have D0 := (bvia hb0 (drew_below Z0))
   have hgk := (HG.out.step D0).g
   have g5k : Z0.drew.cell? ⟨gb, 5 + k, none⟩ = some (.int .i64 (s.clk.get k)) := (hgk.cell (5 + k)).trans (lgVals_clk _ _ _ _ _ _ _ _ _ _ hk8)
   have gl := hgk.lt
   have hox0 := HX.out.step D0
   have o3 : Z0.drew.cell? ⟨w.heap.size, 3, none⟩ = some (.int .i64 (k : Nat)) := by rw [← Hk.out]; exact hox0.cell 3
   have ol := hox0.lt
   have hab0 := (hab.step hbR).step (drew_below Z0)
   have a4 : Z0.drew.cell? ⟨X.heap.size, 4, none⟩ = some (.int .i64 0) := hab0.cell 4
   have af := hab0.frozen 4
   have al := hab0.lt
   have hN1 : s.clk.get k + 1 ≤ 9223372036854775807 := by omega
   have hN2 : -9223372036854775808 ≤ s.clk.get k + 1 := by omega
   repeat' (first | ((with_reducible refine region_at 3 ?_); refine wp_region_order (rgl [0,4,8,12,16,20,24,28,32,39]) (by kernel_rfl) (by kernel_rfl) (by kernel_rfl) rfl rfl ?_) | (with_reducible refine stop_region 4 ?_) | (with_reducible refine Keep.last ?_) | ((with_reducible refine WpH.here ?_); first | (refine WpH.nil ?_; refine NoP.normal ?_) | ((first | refine WpH.load (by rfl) (by rfl) (by go_simp; rfl) ?_ | refine WpH.pure (by rfl) (fun w_ => by go_simp; (try go_bits); rfl) ?_); go_frame) | (refine WpH.wild1 (by rfl) (fun _ _ => ?_))) | go_step)
   refine Stop.go ?_
   have hbZ0 : Below X.heap.size X (Z0.setCell ⟨X.heap.size, 4, none⟩ (.int .i64 (s.clk.get k + 1))).drew := (Below.setCell hb0 (Nat.le_refl _) _).drew
   have hab1 : Blk (Z0.setCell ⟨X.heap.size, 4, none⟩ (.int .i64 (s.clk.get k + 1))).drew X.heap.size 46 #[.int .i64 o.kind, .int .i64 o.at_, .int .i32 o.char, .int .i64 o.rep, .int .i64 N, .int .i64 s.clk.c0, .int .i64 s.clk.c1, .int .i64 s.clk.c2, .int .i64 s.clk.c3, .int .i64 s.clk.c4, .int .i64 s.clk.c5, .int .i64 s.clk.c6, .int .i64 s.clk.c7] := by
    rw [HN.out]
    exact ((hab.step hbR).set_ 4 (.int .i64 (s.clk.get k + 1))).drew
   have hnI : (s.name ⟨o, N, s.clk⟩).In := ⟨Hep.out, Hox.out.rep, ⟨by rw [HN.out]; exact hN2, by rw [HN.out]; exact hN1⟩⟩
   clear a4 af al o3 ol gl g5k hab0 hox0 hgk hb0 D0 hbR hab hox eA
   generalize (Z0.setCell ⟨X.heap.size, 4, none⟩ (.int .i64 (s.clk.get k + 1))).drew = Z at *
   have hbZ := hbZ0
   have hab := hab1
   clear hbZ0 hab1
   clear hN1 hN2 hc1 hc2 hk' hk8 HN
   have hox := HX.out.step hbZ
   obtain ⟨o0, o1, o2, o3⟩ := cl4 (w := Z) (g := w.heap.size) hox; have ol := (hox).lt
   obtain ⟨a0, a1, a2, a3, a4, a5, a6, a7, a8, a9, a10, a11, a12⟩ := cl13 (w := Z) (g := X.heap.size) hab; have al := (hab).lt
   have hwZ := (bvia e0 hbZ).size
   have hrZ := HB.out.step hbZ
   repeat' (first | (go_at_call 65; go_must ((with_reducible refine Calls.mono (HD.out _ hbZ hnI) ?_); rintro _ w6 ⟨v, rfl, hE, hL6, hO6⟩; dsimp only)) | (with_reducible refine stop_region 5 ?_) | go_step)
   refine Stop.go ?_
   clear o0 o1 o2 o3 ol
   clear a0 a1 a2 a3 a4 a5 a6 a7 a8 a9 a10 a11 a12 al
   have hox6 := hO6.blk hox (by rintro ⟨-, h⟩; omega)
   have hab6 := hO6.blk hab (by rintro ⟨-, h⟩; omega)
   have hr6 := hO6.blk hrZ (by rintro ⟨-, h⟩; omega)
   have hO : Out S w w6 := (Out.of_below (S := S) (bvia e0 hbZ)).trans hO6 fun _ _ h => h.1
   have hw6 := hO6.size
   have hzZ := hrZ.lt
   rcases hE with ⟨hc, rfl⟩ | hE
   · subst hc
     obtain ⟨a0, a1, a2, a3, a4, a5, a6, a7, a8, a9, a10, a11, a12⟩ := cl13 (w := w6) (g := X.heap.size) hab6; have al := (hab6).lt
     have hz := hr6; obtain ⟨zl, z0, z1, z2, z3, z4, z5, z6, z7, z8, z9, z10, z11, z12, f0, f1, f2, f3, f4, f5, f6, f7, f8, f9, f10, f11, f12⟩ := bl13 hz
     repeat' (first | go_step)
     have hz13 := hz.sets (act13 ⟨o, N, s.clk⟩)
     have v0 := hz13.cell 0
     have v1 := hz13.cell 1
     have v2 := hz13.cell 2
     have v3 := hz13.cell 3
     have v4 := hz13.cell 4
     have v5 := hz13.cell 5
     have v6 := hz13.cell 6
     have v7 := hz13.cell 7
     have v8 := hz13.cell 8
     have v9 := hz13.cell 9
     have v10 := hz13.cell 10
     have v11 := hz13.cell 11
     have v12 := hz13.cell 12
     simp [act13, noActn, noOpn, Clk.zero] at v0 v1 v2 v3 v4 v5 v6 v7 v8 v9 v10 v11 v12
     refine bodyPost_ret (w := setsAt (w.heap.size + 1) (act13 ⟨o, N, s.clk⟩) w6) (v := .tuple #[.agg #[.int .i64 o.kind, .int .i64 o.at_, .int .i32 o.char, .int .i64 o.rep, .int .i64 N, .int .i64 s.clk.c0, .int .i64 s.clk.c1, .int .i64 s.clk.c2, .int .i64 s.clk.c3, .int .i64 s.clk.c4, .int .i64 s.clk.c5, .int .i64 s.clk.c6, .int .i64 s.clk.c7], .nilIface]) (by simp [act13, noActn, noOpn, Clk.zero, results, Tryz.results28, go_sem, v0, v1, v2, v3, v4, v5, v6, v7, v8, v9, v10, v11, v12]) rfl ?_
     refine ⟨_, by rw [HP.out, if_pos rfl], .inl ⟨rfl, rfl⟩, ?_, hO.sets _ (Nat.le_succ _)⟩
     refine (hL6.keep (S := fun b => Fr Z (fun b => S b ∧ b < w.heap.size) b) (by rw [setsAt_size]; exact Nat.le_refl _) fun b hb hs => Same.sets (T := fun b => Fr Z (fun b => S b ∧ b < w.heap.size) b) _ (fun hh => ?_) b hs hb).more fun b hb => ?_
     · rcases hh with ⟨-, hh⟩ | hh
       · omega
       · have h2 : Z.heap.size ≤ w.heap.size + 1 := hh
         omega
     · rcases hb with hb | hb
       · exact .inl hb.1
       · have h2 : Z.heap.size ≤ b := hb
         exact .inr (by show w.heap.size ≤ b; omega)
   · have hn0 : n ≠ 0 := fun hn => by
      subst hn
      exact not_err0 _ _ hE
     have HN2 := hid (new_err ({ data := #[104, 105, 115, 116, 111, 114, 121] } : ByteArray) ({ data := #[73, 115, 115, 117, 101] } : ByteArray) o.at_ _ n v w6 hE)
     obtain ⟨tv, xv, rfl⟩ := hE.notNil
     obtain ⟨o0, o1, o2, o3⟩ := cl4 (w := w6) (g := w.heap.size) hox6; have ol := (hox6).lt
     repeat' (first | (go_at_call 51; go_must ((with_reducible refine Calls.mono HN2.out ?_); rintro _ w7 ⟨v, rfl, hE7, hb7⟩; have hz := hr6.step hb7; obtain ⟨zl, z0, z1, z2, z3, z4, z5, z6, z7, z8, z9, z10, z11, z12, f0, f1, f2, f3, f4, f5, f6, f7, f8, f9, f10, f11, f12⟩ := bl13 hz; dsimp only)) | go_step)
     have hz13 := hz.sets (act13 noActn)
     have v0 := hz13.cell 0
     have v1 := hz13.cell 1
     have v2 := hz13.cell 2
     have v3 := hz13.cell 3
     have v4 := hz13.cell 4
     have v5 := hz13.cell 5
     have v6 := hz13.cell 6
     have v7 := hz13.cell 7
     have v8 := hz13.cell 8
     have v9 := hz13.cell 9
     have v10 := hz13.cell 10
     have v11 := hz13.cell 11
     have v12 := hz13.cell 12
     simp [act13, noActn, noOpn, Clk.zero] at v0 v1 v2 v3 v4 v5 v6 v7 v8 v9 v10 v11 v12
     refine bodyPost_ret (w := setsAt (w.heap.size + 1) (act13 noActn) w7) (v := .tuple #[.agg #[.int .i64 0, .int .i64 0, .int .i32 0, .int .i64 0, .int .i64 0, .int .i64 0, .int .i64 0, .int .i64 0, .int .i64 0, .int .i64 0, .int .i64 0, .int .i64 0, .int .i64 0], v]) (by simp [act13, noActn, noOpn, Clk.zero, results, Tryz.results28, go_sem, v0, v1, v2, v3, v4, v5, v6, v7, v8, v9, v10, v11, v12]) rfl ?_
     have hO7 : Out S w w7 := hO.trans (Out.of_below (S := S) hb7) fun _ _ h => h
     have hw7 := hb7.size
     refine ⟨_, by rw [HP.out, if_neg hn0]; rfl, .inr ?_, ?_, hO7.sets _ (Nat.le_succ _)⟩
     · refine (hE7.keep (S := Fr w6 (Fr Z S')) (Same.sets _ fun hh => ?_)).more fun b _ hh => ?_
       · rcases hh with (hh | hh) | hh
         · have := hlow _ hh; omega
         · have h2 : Z.heap.size ≤ w.heap.size + 1 := hh
           omega
         · have h2 : w6.heap.size ≤ w.heap.size + 1 := hh
           omega
       · rcases hh with (hh | hh) | hh
         · exact .inl hh
         · have h2 : Z.heap.size ≤ b := hh
           exact .inr (by show w.heap.size ≤ b; omega)
         · have h2 : w6.heap.size ≤ b := hh
           exact .inr (by show w.heap.size ≤ b; omega)
     · refine ((hL6.step hb7).keep (S := fun b => Fr Z (fun b => S b ∧ b < w.heap.size) b) (by rw [setsAt_size]; exact Nat.le_refl _) fun b hb hs => Same.sets (T := fun b => Fr Z (fun b => S b ∧ b < w.heap.size) b) _ (fun hh => ?_) b hs hb).more fun b hb => ?_
       · rcases hh with ⟨-, hh⟩ | hh
         · omega
         · have h2 : Z.heap.size ≤ w.heap.size + 1 := hh
           omega
       · rcases hb with hb | hb
         · exact .inl hb.1
         · have h2 : Z.heap.size ≤ b := hb
           exact .inr (by show w.heap.size ≤ b; omega)
end Go.Proofs.YteggpddlkkjmjaaGreatDoor
