/- Part of a proof: what functions of the program compute. Conditions: as each theorem says. -/
import Derived.Maps.RangeWalk
import Derived.Test.YteggpddlkkjmjaaGreatDoorQ32
set_option linter.unusedSimpArgs false
set_option linter.unusedVariables false
set_option maxHeartbeats 4000000
set_option maxRecDepth 100000
namespace Go.Proofs.YteggpddlkkjmjaaGreatDoor
open Go Go.RowKit
theorem met_any (w : World) (pb nb lb cb g gb bm mb c d K Kn n cc i base : Nat) (A B : Option Addr) (SM : Nat → Prop) (s : Lg) (R : List Bool) (y : Actn) (hp : Blk w pb 181 #[.map (some nb)]) (hl : Blk w lb 30 #[.pointer (some ⟨gb, 0, none⟩)]) (hc : Blk w cb 182 #[.slice (some ⟨g, 0, none⟩) n cc])
 (ho : GOwn 4 w base (some ⟨g, 0, none⟩) n cc R) (h : LgIn w gb bm mb A c B d SM s K) (hm : IsNum w nb Kn (s.l.map El.nm)) (hi : (s.l.map El.nm)[i]? = some (s.name y)) (hin : i < n) (hn : n ≤ 1048576) (hnm : (s.name y).In) :
 Calls Tryz.prog 113 #[y.agg, .pointer (some ⟨pb, 0, none⟩), .pointer (some ⟨lb, 0, none⟩), .pointer (some ⟨cb, 0, none⟩)] w fun e w' => e = .returned (Opn.agg ⟨1, (countT R i : Nat), 0, y.op.rep⟩) ∧ GOwn 4 w' base (some ⟨g, 0, none⟩) n cc (R.set i true) ∧ Out (fun b => b = g) w w' := by
 obtain ⟨hX, hY, e0⟩ := twoBoxes w 46 37 y.vals #[.int .i64 0, .int .i64 0, .int .i32 0, .int .i64 0]
 have h0 := h.step e0
 have hRl := ho.1
 have hgl := (ho.block _ rfl).2
 dsimp only at hgl
 have HN := hid (fun W (hb : Below ((w.alloc (.cells y.vals 46)).alloc (.cells #[.int .i64 0, .int .i64 0, .int .i32 0, .int .i64 0] 37)).heap.size ((w.alloc (.cells y.vals 46)).alloc (.cells #[.int .i64 0, .int .i64 0, .int .i32 0, .int .i64 0] 37)) W) => named_log W gb bm mb c d K A B SM s y (h0.step hb))
 have HM := hid (fun W (hb : Below ((w.alloc (.cells y.vals 46)).alloc (.cells #[.int .i64 0, .int .i64 0, .int .i32 0, .int .i64 0] 37)).heap.size ((w.alloc (.cells y.vals 46)).alloc (.cells #[.int .i64 0, .int .i64 0, .int .i32 0, .int .i64 0] 37)) W) => (((hm.heap (e0.block _ hm.lt)).heap (hb.block _ (by have := hm.lt; have := e0.size; omega))).ask (s.name y) hnm hi))
 have HP := hid (hp.step e0)
 have HL := hid (hl.step e0)
 have HC := hid (hc.step e0)
 have HO := hid (ho.step e0)
 have HX := hid hX
 have HY := hid hY
 clear h h0 hm hp hl hc ho hX hY hi hnm
 simp only [Actn.agg, Opn.agg, Nm.val] at *
 unfold Actn.vals at *
 go_enter Tryz.func113, Tryz.ntmps113
 repeat' (first | (with_reducible refine stop_region 1 ?_) | go_step)
 refine Stop.go ?_
 generalize (w.alloc (.cells #[.int .i64 y.op.kind, .int .i64 y.op.at_, .int .i32 y.op.char, .int .i64 y.op.rep, .int .i64 y.num, .int .i64 y.clk.c0, .int .i64 y.clk.c1, .int .i64 y.clk.c2, .int .i64 y.clk.c3, .int .i64 y.clk.c4, .int .i64 y.clk.c5, .int .i64 y.clk.c6, .int .i64 y.clk.c7] 46)).alloc (.cells #[.int .i64 0, .int .i64 0, .int .i32 0, .int .i64 0] 37) = X at *
 have Dd := drew_below X
 have p0 : X.drew.cell? ⟨pb, 0, none⟩ = some (.map (some nb)) := (HP.out.step Dd).cell 0
 have pl := HP.out.lt
 have l0 : X.drew.cell? ⟨lb, 0, none⟩ = some (.pointer (some ⟨gb, 0, none⟩)) := (HL.out.step Dd).cell 0
 have ll := HL.out.lt
 have hyy := HX.out.step Dd
 obtain ⟨d0, d1, d2, d3, d4, d5, d6, d7, d8, d9, d10, d11, d13⟩ := cl13 (w := X.drew) (g := w.heap.size) hyy; have dyl := (hyy).lt
 have HN1 := hid (HN.out X.drew Dd)
 have HD := hid Dd
 clear hyy Dd
 repeat' (first | ((with_reducible refine region_at 1 ?_); refine wp_region_order (rgl [0,4,8,13,17,20]) (by kernel_rfl) (by kernel_rfl) (by kernel_rfl) rfl rfl ?_) | (go_at_call 103; go_must ((with_reducible refine Calls.mono HN1.out ?_); rintro _ w3 ⟨rfl, hb3⟩; have b3 := bvia HD.out hb3; have hlk := HM.out w3 b3; dsimp only)) | (with_reducible refine stop_region 3 ?_) | (with_reducible first | refine Keep.below (by assumption) ?_ | refine Keep.same ?_) | ((with_reducible refine WpH.here ?_); first | (refine WpH.nil ?_; refine NoP.normal ?_) | ((first | refine WpH.load (by rfl) (by rfl) (by go_simp; rfl) ?_ | refine WpH.pure (by rfl) (fun w_ => by go_simp; (try go_bits); rfl) ?_); go_frame) | (refine WpH.wild1 (by rfl) (fun _ _ => ?_))) | go_step)
 refine Stop.go ?_
 clear d0 d1 d2 d3 d4 d5 d6 d7 d8 d9 d10 d11 d13 dyl p0 pl l0 ll hlk HN1 HN HM HP HL
 have hc3 := HC.out.step b3
 have ho3 := HO.out.step b3
 have hyy := HX.out.step b3
 have hzz := HY.out.step b3
 have c0 : w3.cell? ⟨cb, 0, none⟩ = some (.slice (some ⟨g, 0, none⟩) n cc) := hc3.cell 0
 have cl := hc3.lt
 have y3 : w3.cell? ⟨w.heap.size, 3, none⟩ = some (.int .i64 y.op.rep) := hyy.cell 3
 have yl := hyy.lt
 obtain ⟨zl, z0, z1, z2, z3, f0, f1, f2, f3⟩ := bl4 hzz
 obtain ⟨g', cur, e1, -, -, -, hncc, hcc, -⟩ := gown_bool ho3 (by omega)
 clear e1 cur g'
 have hicc : i ≤ cc := by omega
 unfold maxLen at hcc
 have Hyy := hid hyy
 have Hzz := hid hzz
 have Ho3 := hid ho3
 have Hc3 := hid hc3
 have hgw : g ≠ w.heap.size := Nat.ne_of_lt hgl
 have hgw1 : g ≠ w.heap.size + 1 := by omega
 clear hyy hzz ho3 hc3
 repeat' (first | go_step)
 go_loopw [7, 19] (fun q j wq => ∃ m : Nat, q = .int .i64 ((countT R m : Nat) : Int) ∧ j = .int .i64 m ∧ m ≤ i ∧ wq = w3) (fun _ j _ => i - (intOf j).toNat)
 case atStart => exact ⟨0, by simp [countT], rfl, Nat.zero_le _, rfl⟩
 case round =>
  obtain ⟨m, rfl, rfl, hm, hwq⟩ := hrel
  subst hwq
  have hcl := countT_le R m
  by_cases hmi : m < i
  · obtain ⟨v, hv⟩ : ∃ v, R[m]? = some v := ⟨_, List.getElem?_eq_getElem (by omega)⟩
    obtain ⟨o1, o2, o3⟩ := own_bool Ho3.out hv
    have Hcs := hid (countT_succ hv)
    obtain ⟨p, hp⟩ : ∃ p, p = countT R m := ⟨_, rfl⟩
    have hpb : p ≤ 1048576 := by omega
    rw [← hp] at Hcs ⊢
    clear hp hv hcl
    rcases v with _ | _
    · repeat' (first | go_step)
      go_roundw
      case rel => exact ⟨m + 1, by rw [Hcs.out]; rfl, by go_num, by omega, trivial⟩
      case measure => simp [intOf]; omega
    · repeat' (first | go_step)
      go_roundw
      case rel => exact ⟨m + 1, by rw [Hcs.out, if_pos rfl]; go_num, by go_num, by omega, trivial⟩
      case measure => simp [intOf]; omega
  · obtain rfl : m = i := by omega
    obtain ⟨v, hv⟩ : ∃ v, R[m]? = some v := ⟨_, List.getElem?_eq_getElem (by omega)⟩
    obtain ⟨o1, o2, o3⟩ := own_bool Ho3.out hv
    obtain ⟨p, hp⟩ : ∃ p, p = countT R m := ⟨_, rfl⟩
    rw [← hp]
    have Hp := hid hp
    clear hp hcl hmi hm hv
    repeat' (first | go_step)
    have hz := ((((Hzz.out.far hgw1.symm (p := ⟨g, m, none⟩) (.bool true)).set_ 0 (.int .i64 1)).set_ 1 (.int .i64 p)).set_ 2 (.int .i32 0)).set_ 3 (.int .i64 y.op.rep)
    have v0 := hz.cell 0
    have v1 := hz.cell 1
    have v2 := hz.cell 2
    have v3 := hz.cell 3
    simp at v0 v1 v2 v3
    refine bodyPost_ret (v := .agg #[.int .i64 1, .int .i64 p, .int .i32 0, .int .i64 y.op.rep]) (by simp [results, Tryz.results113, go_sem, v0, v1, v2, v3]) rfl ⟨by rw [Hp.out], ?_, ?_⟩
    · refine GOwn.keep (Ho3.out.setB true hin) (S := fun b => b ≠ w.heap.size + 1) ?_ fun _ hx => by injection hx with hx; subst hx; exact hgw1
      exact fun b hb _ => (Below.heap_setCell _ _ _ _ hb).trans ((Below.heap_setCell _ _ _ _ hb).trans ((Below.heap_setCell _ _ _ _ hb).trans (Below.heap_setCell _ _ _ _ hb)))
    · have o1 : Out (fun b => b = g) w (wr.setCell ⟨g, m, none⟩ (.bool true)) := (Out.of_below (bvia e0 b3)).trans (Out.setCell (S := fun b => b = g) rfl _) fun _ _ h => h
      refine ⟨o1.os, o1.tape, o1.output, by have := o1.size; simpa [World.setCell] using this, fun k hk hn => ?_⟩
      have hb : k ≠ w.heap.size + 1 := by omega
      exact ((Below.heap_setCell _ _ _ _ hb).trans ((Below.heap_setCell _ _ _ _ hb).trans ((Below.heap_setCell _ _ _ _ hb).trans (Below.heap_setCell _ _ _ _ hb)))).trans (o1.block k hk hn)
theorem Row.reS8 {w : World} {S S' : Nat → Prop} {A : Option Addr} {n c : Nat} {es : List El} (h : Row w S A n c es) (hS : 0 < n → ∀ b off, A = some ⟨b, off, none⟩ → S b → S' b) : Row w S' A n c es := by
 refine ⟨h.1, h.2.1, h.2.2.1, fun hn => ?_⟩
 obtain ⟨b, off, e, hs, hc⟩ := h.2.2.2 hn
 exact ⟨b, off, e, hS hn b off e hs, hc⟩
theorem lit_own (X : World) : Own (X.alloc (.cells #[] 113)) X.heap.size (some ⟨X.heap.size, 0, none⟩) 0 0 [] := Own.lit (w := X) #[] [] X.heap.size (Nat.le_refl _) (Nat.zero_le _) rfl
theorem lit_gown {α : Type} [Enc α] (t : TypeId) (X : World) : GOwn t (X.alloc (.cells #[] t)) X.heap.size (some ⟨X.heap.size, 0, none⟩) 0 0 ([] : List α) := GOwn.lit (w := X) #[] ([] : List α) X.heap.size (Nat.le_refl _) (Nat.zero_le _) rfl
theorem copy_same {X W1 : World} {t : TypeId} {xb : Nat} (hx : xb < X.heap.size) (hs : Same (fun k => ∀ g, some (⟨X.heap.size, 0, none⟩ : Addr) = some g → g.block ≠ k) (X.alloc (.cells #[] t)) W1) (hz : (X.alloc (.cells #[] t)).heap.size ≤ W1.heap.size) (i : Nat) {v : Value} :
 Same (fun b => b ≠ xb) X (W1.setCell ⟨xb, i, none⟩ v) ∧ X.heap.size ≤ (W1.setCell ⟨xb, i, none⟩ v).heap.size := by
 have e1 : (X.alloc (.cells #[] t)).heap.size = X.heap.size + 1 := Array.size_push _
 refine ⟨fun b hb hl => ?_, ?_⟩
 · rw [Below.heap_setCell _ _ _ _ hb, hs b (by rintro g ⟨⟩; show X.heap.size ≠ b; omega) (by omega)]
   exact Below.heap_alloc _ _ _ hl
 · have : (W1.setCell ⟨xb, i, none⟩ v).heap.size = W1.heap.size := by simp [World.setCell]
   omega
theorem rcopy_any (w : World) (rb : Nat) (S : Nat → Prop) (s : Lg) (h : RLogAt w S rb s) (hzb : s.base.length ≤ 1048576) (hza : s.acts.length ≤ 1048576) (hzf : s.forms.length ≤ 1048576) (hzl : s.l.length ≤ 1048576) :
 Calls Tryz.prog 67 #[.pointer (some ⟨rb, 0, none⟩)] w fun e w' => ∃ cb, e = .returned (.pointer (some ⟨cb, 0, none⟩)) ∧ RLogAt w' (fun b => w.heap.size ≤ b) cb s ∧ Below w.heap.size w w' := by
 obtain ⟨E, ce, A, c, B, d, L, cl, SR, h, -⟩ := h
 have hX := Blk.new w 89 #[.int .i64 s.ep, .slice E s.base.length ce, .slice A s.acts.length c, .slice B s.forms.length d, .int .i64 s.clk.c0, .int .i64 s.clk.c1, .int .i64 s.clk.c2, .int .i64 s.clk.c3, .int .i64 s.clk.c4, .int .i64 s.clk.c5, .int .i64 s.clk.c6, .int .i64 s.clk.c7, .slice L s.l.length cl]
 have hb2 : Below w.heap.size w (w.alloc (.cells #[.int .i64 s.ep, .slice E s.base.length ce, .slice A s.acts.length c, .slice B s.forms.length d, .int .i64 s.clk.c0, .int .i64 s.clk.c1, .int .i64 s.clk.c2, .int .i64 s.clk.c3, .int .i64 s.clk.c4, .int .i64 s.clk.c5, .int .i64 s.clk.c6, .int .i64 s.clk.c7, .slice L s.l.length cl] 89)) := balloc (Below.refl _ _)
 have hg := h.g
 have hgl := hg.lt
 unfold rgVals at hg
 obtain ⟨r0, r1, r2, r3, r4, r5, r6, r7, r8, r9, r10, r11, r12⟩ := cl13 hg
 have H := hid h
 have HX := hid hX
 have HB := hid hb2
 clear h hX hb2 hg
 go_enter Tryz.func67, Tryz.ntmps67
 repeat' (first | (with_reducible refine stop_region 2 ?_) | go_step)
 refine Stop.go ?_
 generalize w.alloc (.cells #[.int .i64 s.ep, .slice E s.base.length ce, .slice A s.acts.length c, .slice B s.forms.length d, .int .i64 s.clk.c0, .int .i64 s.clk.c1, .int .i64 s.clk.c2, .int .i64 s.clk.c3, .int .i64 s.clk.c4, .int .i64 s.clk.c5, .int .i64 s.clk.c6, .int .i64 s.clk.c7, .slice L s.l.length cl] 89) = X2 at *
 have HX2 := HX
 have HB2 := HB
 clear HX HB r0 r1 r2 r3 r4 r5 r6 r7 r8 r9 r10 r11 r12
 have e2 : Below X2.heap.size X2 (X2.alloc (.cells #[] 113)) := balloc (Below.refl _ _)
 have l2 := (lit_own X2)
 have hgk := (H.out.g.step HB2.out).step e2
 have hxk := HX2.out.step e2
 unfold rgVals at hgk
 have q : (X2.alloc (.cells #[] 113)).cell? ⟨rb, 1, none⟩ = some (.slice E s.base.length ce) := hgk.cell 1
 have gl := hgk.lt
 have hsrc := (H.out.e.step HB2.out).step e2
 have xxl := HX2.out.lt
 repeat' (first | ((with_reducible refine append_here ?_); go_must (refine wp_append_el X2.heap.size _ _ 0 0 _ _ [] _ _ (by rfl) (by rfl) l2 hsrc e2.size (by omega) ?_; intro A2 c2 W2 o2 b2 s2 t2 z2; have hxw := hxk.keep (S := fun k => ∀ g, some (⟨X2.heap.size, 0, none⟩ : Addr) = some g → g.block ≠ k) (by rintro g ⟨⟩; show X2.heap.size ≠ w.heap.size; omega) s2; have xf := hxw.frozen 1; have xc := hxw.cell 1; have xl := hxw.lt; simp at xc; try dsimp only)) | (with_reducible refine stop_region 3 ?_) | go_step)
 refine Stop.go ?_
 rw [Nat.zero_add, List.nil_append] at o2
 have Y2 := hid (copy_same (v := .slice A2 s.base.length c2) xxl s2 z2 1)
 have HX3 := hid (hxw.set_ 1 (.slice A2 s.base.length c2))
 have HB3 := hid (bset (p := ⟨w.heap.size, 1, none⟩) (u := .slice A2 s.base.length c2) (bvia HB2.out (e2.trans b2)) (Nat.le_refl _))
 have O2 := hid (o2.keep (S := fun b => b ≠ w.heap.size) (Same.setCell (p := ⟨w.heap.size, 1, none⟩) _ (fun h => h rfl) (.slice A2 s.base.length c2)) (fun g hg => by have := (o2.block g hg).1; show g.block ≠ w.heap.size; omega))
 have XL2 := hid xxl
 simp at HX3
 clear q gl hsrc hgk hxk xf xc xl xxl e2 l2 hxw o2 s2 z2 b2
 generalize W2.setCell ⟨w.heap.size, 1, none⟩ (.slice A2 s.base.length c2) = X3 at *
 have e3 : Below X3.heap.size X3 (X3.alloc (.cells #[] 46)) := balloc (Below.refl _ _)
 have l3 := (lit_gown (α := Actn) 46 X3)
 have hgk := (H.out.g.step HB3.out).step e3
 have hxk := HX3.out.step e3
 unfold rgVals at hgk
 have q : (X3.alloc (.cells #[] 46)).cell? ⟨rb, 2, none⟩ = some (.slice A s.acts.length c) := hgk.cell 2
 have gl := hgk.lt
 have hsrc := ((H.out.a.row (S := fun _ => True) fun _ _ _ => trivial).step HB3.out).step e3
 have xxl := HX3.out.lt
 repeat' (first | ((with_reducible refine app_acts_here ?_); go_must (refine wp_append_acts X3.heap.size _ _ 0 0 _ _ [] _ _ (by rfl) (by rfl) l3 hsrc e3.size (by omega) ?_; intro A3 c3 W3 o3 b3 s3 t3 z3; have hxw := hxk.keep (S := fun k => ∀ g, some (⟨X3.heap.size, 0, none⟩ : Addr) = some g → g.block ≠ k) (by rintro g ⟨⟩; show X3.heap.size ≠ w.heap.size; omega) s3; have xf := hxw.frozen 2; have xc := hxw.cell 2; have xl := hxw.lt; simp at xc; try dsimp only)) | (with_reducible refine stop_region 4 ?_) | go_step)
 refine Stop.go ?_
 rw [Nat.zero_add, List.nil_append] at o3
 have Y3 := hid (copy_same (v := .slice A3 s.acts.length c3) xxl s3 z3 2)
 have HX4 := hid (hxw.set_ 2 (.slice A3 s.acts.length c3))
 have HB4 := hid (bset (p := ⟨w.heap.size, 2, none⟩) (u := .slice A3 s.acts.length c3) (bvia HB3.out (e3.trans b3)) (Nat.le_refl _))
 have O3 := hid (o3.keep (S := fun b => b ≠ w.heap.size) (Same.setCell (p := ⟨w.heap.size, 2, none⟩) _ (fun h => h rfl) (.slice A3 s.acts.length c3)) (fun g hg => by have := (o3.block g hg).1; show g.block ≠ w.heap.size; omega))
 have XL3 := hid xxl
 simp at HX4
 clear q gl hsrc hgk hxk xf xc xl xxl e3 l3 hxw o3 s3 z3 b3
 generalize W3.setCell ⟨w.heap.size, 2, none⟩ (.slice A3 s.acts.length c3) = X4 at *
 have e4 : Below X4.heap.size X4 (X4.alloc (.cells #[] 37)) := balloc (Below.refl _ _)
 have l4 := (lit_gown (α := Opn) 37 X4)
 have hgk := (H.out.g.step HB4.out).step e4
 have hxk := HX4.out.step e4
 unfold rgVals at hgk
 have q : (X4.alloc (.cells #[] 37)).cell? ⟨rb, 3, none⟩ = some (.slice B s.forms.length d) := hgk.cell 3
 have gl := hgk.lt
 have hsrc := ((H.out.b.row (S := fun _ => True) fun _ _ _ => trivial).step HB4.out).step e4
 have xxl := HX4.out.lt
 repeat' (first | ((with_reducible refine app_ops_here ?_); go_must (refine wp_append_ops X4.heap.size _ _ 0 0 _ _ [] _ _ (by rfl) (by rfl) l4 hsrc e4.size (by omega) ?_; intro A4 c4 W4 o4 b4 s4 t4 z4; have hxw := hxk.keep (S := fun k => ∀ g, some (⟨X4.heap.size, 0, none⟩ : Addr) = some g → g.block ≠ k) (by rintro g ⟨⟩; show X4.heap.size ≠ w.heap.size; omega) s4; have xf := hxw.frozen 3; have xc := hxw.cell 3; have xl := hxw.lt; simp at xc; try dsimp only)) | (with_reducible refine stop_region 5 ?_) | go_step)
 refine Stop.go ?_
 rw [Nat.zero_add, List.nil_append] at o4
 have Y4 := hid (copy_same (v := .slice A4 s.forms.length c4) xxl s4 z4 3)
 have HX5 := hid (hxw.set_ 3 (.slice A4 s.forms.length c4))
 have HB5 := hid (bset (p := ⟨w.heap.size, 3, none⟩) (u := .slice A4 s.forms.length c4) (bvia HB4.out (e4.trans b4)) (Nat.le_refl _))
 have O4 := hid (o4.keep (S := fun b => b ≠ w.heap.size) (Same.setCell (p := ⟨w.heap.size, 3, none⟩) _ (fun h => h rfl) (.slice A4 s.forms.length c4)) (fun g hg => by have := (o4.block g hg).1; show g.block ≠ w.heap.size; omega))
 have XL4 := hid xxl
 simp at HX5
 clear q gl hsrc hgk hxk xf xc xl xxl e4 l4 hxw o4 s4 z4 b4
 generalize W4.setCell ⟨w.heap.size, 3, none⟩ (.slice A4 s.forms.length c4) = X5 at *
 have e5 : Below X5.heap.size X5 (X5.alloc (.cells #[] 113)) := balloc (Below.refl _ _)
 have l5 := (lit_own X5)
 have hgk := (H.out.g.step HB5.out).step e5
 have hxk := HX5.out.step e5
 unfold rgVals at hgk
 have q : (X5.alloc (.cells #[] 113)).cell? ⟨rb, 12, none⟩ = some (.slice L s.l.length cl) := hgk.cell 12
 have gl := hgk.lt
 have hsrc := (H.out.l.step HB5.out).step e5
 have xxl := HX5.out.lt
 repeat' (first | ((with_reducible refine append_here ?_); go_must (refine wp_append_el X5.heap.size _ _ 0 0 _ _ [] _ _ (by rfl) (by rfl) l5 hsrc e5.size (by omega) ?_; intro A5 c5 W5 o5 b5 s5 t5 z5; have hxw := hxk.keep (S := fun k => ∀ g, some (⟨X5.heap.size, 0, none⟩ : Addr) = some g → g.block ≠ k) (by rintro g ⟨⟩; show X5.heap.size ≠ w.heap.size; omega) s5; have xf := hxw.frozen 12; have xc := hxw.cell 12; have xl := hxw.lt; simp at xc; try dsimp only)) | (with_reducible refine stop_region 6 ?_) | go_step)
 refine Stop.go ?_
 rw [Nat.zero_add, List.nil_append] at o5
 have Y5 := hid (copy_same (v := .slice A5 s.l.length c5) xxl s5 z5 12)
 have HX6 := hid (hxw.set_ 12 (.slice A5 s.l.length c5))
 have HB6 := hid (bset (p := ⟨w.heap.size, 12, none⟩) (u := .slice A5 s.l.length c5) (bvia HB5.out (e5.trans b5)) (Nat.le_refl _))
 have O5 := hid (o5.keep (S := fun b => b ≠ w.heap.size) (Same.setCell (p := ⟨w.heap.size, 12, none⟩) _ (fun h => h rfl) (.slice A5 s.l.length c5)) (fun g hg => by have := (o5.block g hg).1; show g.block ≠ w.heap.size; omega))
 have XL5 := hid xxl
 simp at HX6
 clear q gl hsrc hgk hxk xf xc xl xxl e5 l5 hxw o5 s5 z5 b5
 generalize W5.setCell ⟨w.heap.size, 12, none⟩ (.slice A5 s.l.length c5) = X6 at *
 repeat' (first | go_step)
 go_ret
 have S34 := Y3.out.1
 have S45 := Y4.out.1
 have S56 := Y5.out.1
 have z34 := Y3.out.2
 have z45 := Y4.out.2
 have z56 := Y5.out.2
 have x2 := XL2.out
 have x3 := XL3.out
 have x4 := XL4.out
 have x5 := XL5.out
 have s46 := S45.trans z45 S56
 have s36 := S34.trans z34 s46
 have o2 := O2.out
 have o3 := O3.out
 have o4 := O4.out
 have o5 := O5.out
 have o2' := o2.keep s36 fun g hg => by have := (o2.block g hg).1; show g.block ≠ w.heap.size; omega
 have o3' := o3.keep s46 fun g hg => by have := (o3.block g hg).1; show g.block ≠ w.heap.size; omega
 have o4' := o4.keep S56 fun g hg => by have := (o4.block g hg).1; show g.block ≠ w.heap.size; omega
 refine ⟨w.heap.size, rfl, ⟨A2, c2, A3, c3, A4, c4, A5, c5, fun b => (X2.heap.size ≤ b ∧ b < X3.heap.size) ∨ (X5.heap.size ≤ b ∧ b < X6.heap.size), ⟨HX6.out, ?_, ?_, o3'.mono (Nat.zero_le _), o4'.mono (Nat.zero_le _), ?_⟩, ?_⟩, HB6.out⟩
 · refine ((o2'.row (S := fun b => X2.heap.size ≤ b) fun b hb _ => hb).reS8 fun hn b off hA hb => .inl ⟨hb, ?_⟩)
   exact (o2.block _ hA).2
 · exact o5.row fun b hb hl => .inr ⟨hb, hl⟩
 · rintro b hb
   have hb6 : b < X6.heap.size := by omega
   refine ⟨hb6, by omega, fun x hx => ?_, fun x hx => ?_⟩
   · have h1 := o3.block x hx
     have h2 := (o3'.block x hx).2
     omega
   · have h1 := o4.block x hx
     have h2 := (o4'.block x hx).2
     omega
 · rintro b (hb | rfl | ⟨x, hx, rfl⟩ | ⟨x, hx, rfl⟩)
   · show w.heap.size ≤ b; omega
   · exact Nat.le_refl _
   · have h1 := o3.block x hx; show w.heap.size ≤ x.block; omega
   · have h1 := o4.block x hx; show w.heap.size ≤ x.block; omega
variable {a : Nat → Addr}
theorem hmodel_any (w : World) (S : Nat → Prop) (gb K : Nat) (s : Lg) (h : LogAt w S gb s K) : Calls Tryz.prog 20 #[.pointer (some ⟨gb, 0, none⟩)] w fun e w' => (∃ mb, e = .returned (.pointer (some ⟨mb, 0, none⟩)) ∧ Mdl w S mb s.l K) ∧ w = w' := by
 obtain ⟨bm, mb, A, c, B, d, SM, h, hS⟩ := h
 have g2 : w.cell? ⟨gb, 2, none⟩ = some (.pointer (some ⟨mb, 0, none⟩)) := h.g.cell 2
 have gl := h.g.lt
 have HM := hid (h.m.more (S' := S) fun b _ hb => hS b (.inl hb))
 clear h hS
 go_enter Tryz.func20, Tryz.ntmps20
 repeat' (first | go_step)
 go_ret
 exact ⟨⟨mb, rfl, HM.out⟩, rfl⟩
end Go.Proofs.YteggpddlkkjmjaaGreatDoor
