/- Part of a proof: what functions of the program compute. Conditions: as each theorem says. -/
import Derived.Maps.RangeWalk
import Derived.Test.YteggpddlkkjmjaaGreatDoorQ47
import Derived.Test.YteggpddlkkjmjaaGreatDoorQ54
set_option linter.unusedSimpArgs false
set_option linter.unusedVariables false
set_option maxHeartbeats 4000000
set_option maxRecDepth 100000
namespace Go.Proofs.YteggpddlkkjmjaaGreatDoor
open Go Go.RowKit
variable {a : Nat → Addr}
theorem site_entry_in (w : World) (base sb K k : Nat) (S : Nat → Prop) (s : Lg) (x : Actn) (f : Opn) (h : SiteAt w base S sb s K) (hx : s.acts[k]? = some x) (hf : s.forms[k]? = some f) (ha : s.acts.length ≤ 1048576) (hfl : s.forms.length = s.acts.length) :
 Calls Tryz.prog 44 #[.pointer (some ⟨sb, 0, none⟩), .int .i64 k] w fun e w' => e = .returned (.bool true) ∧ Below w.heap.size w w' := by
 obtain ⟨gb, rb, S1, S2, hsb, hg, hr, h4, h5, h6, h7⟩ := h
 obtain ⟨E, ce, A, c, B, d, LL, cl, SR, hr, -⟩ := hr
 have hk : k < s.acts.length := (List.getElem?_eq_some_iff.1 hx).1
 have hki : (k : Int) < s.acts.length := by omega
 have Hsb := hid hsb
 have Hr := hid hr
 have HA := hid (hact_ok w S1 gb K k s x hg hx ha)
 have HF := hid (fun W (hb : Below w.heap.size w W) => hform_ok W S1 gb K k s f (hg.step hb) hf (by omega))
 have Hx := hid hx
 have Hf := hid hf
 have Hfl := hid hfl
 have s0 : w.cell? ⟨sb, 0, none⟩ = some (.pointer (some ⟨gb, 0, none⟩)) := (hsb).cell 0; have s1 : w.cell? ⟨sb, 1, none⟩ = some (.pointer (some ⟨rb, 0, none⟩)) := (hsb).cell 1; have sl := (hsb).lt
 clear hg h4 h5 h6 h7 hr hsb hx hf hfl
 simp only [Actn.agg, Opn.agg] at *
 unfold Actn.vals at *
 go_enter Tryz.func44, Tryz.ntmps44
 repeat' (first | (go_at_call 81; go_must ((with_reducible refine Calls.mono HA.out ?_); rintro _ w1 ⟨rfl, hb1⟩; dsimp only)) | (with_reducible refine stop_region 2 ?_) | go_step)
 refine Stop.go ?_
 have e1 : Below w1.heap.size w1 (w1.alloc (.cells #[.int .i64 x.op.kind, .int .i64 x.op.at_, .int .i32 x.op.char, .int .i64 x.op.rep, .int .i64 x.num, .int .i64 x.clk.c0, .int .i64 x.clk.c1, .int .i64 x.clk.c2, .int .i64 x.clk.c3, .int .i64 x.clk.c4, .int .i64 x.clk.c5, .int .i64 x.clk.c6, .int .i64 x.clk.c7] 46)) := balloc (Below.refl _ _)
 have hA1 := Blk.new w1 46 #[.int .i64 x.op.kind, .int .i64 x.op.at_, .int .i32 x.op.char, .int .i64 x.op.rep, .int .i64 x.num, .int .i64 x.clk.c0, .int .i64 x.clk.c1, .int .i64 x.clk.c2, .int .i64 x.clk.c3, .int .i64 x.clk.c4, .int .i64 x.clk.c5, .int .i64 x.clk.c6, .int .i64 x.clk.c7]
 have d1 := bvia hb1 e1
 clear s0 s1 sl
 generalize w1.alloc (.cells #[.int .i64 x.op.kind, .int .i64 x.op.at_, .int .i32 x.op.char, .int .i64 x.op.rep, .int .i64 x.num, .int .i64 x.clk.c0, .int .i64 x.clk.c1, .int .i64 x.clk.c2, .int .i64 x.clk.c3, .int .i64 x.clk.c4, .int .i64 x.clk.c5, .int .i64 x.clk.c6, .int .i64 x.clk.c7] 46) = X at *
 generalize w1.heap.size = ab at *
 have q1 := Hsb.out.step d1
 have s0 : X.cell? ⟨sb, 0, none⟩ = some (.pointer (some ⟨gb, 0, none⟩)) := (q1).cell 0; have s1 : X.cell? ⟨sb, 1, none⟩ = some (.pointer (some ⟨rb, 0, none⟩)) := (q1).cell 1; have sl := (q1).lt
 clear q1
 have HA1 := hid hA1
 clear hA1
 repeat' (first | (go_at_call 16; go_must ((with_reducible refine Calls.mono (HF.out _ d1) ?_); rintro _ w2 ⟨rfl, hb2⟩; dsimp only)) | (with_reducible refine stop_region 3 ?_) | go_step)
 refine Stop.go ?_
 have e2 : Below w2.heap.size w2 (w2.alloc (.cells #[.int .i64 f.kind, .int .i64 f.at_, .int .i32 f.char, .int .i64 f.rep] 37)) := balloc (Below.refl _ _)
 have hF2 := Blk.new w2 37 #[.int .i64 f.kind, .int .i64 f.at_, .int .i32 f.char, .int .i64 f.rep]
 have d2 := bvia (bvia d1 hb2) e2
 have hA2 := HA1.out.step (bvia hb2 e2)
 clear s0 s1 sl
 generalize w2.alloc (.cells #[.int .i64 f.kind, .int .i64 f.at_, .int .i32 f.char, .int .i64 f.rep] 37) = Y at *
 generalize w2.heap.size = fb at *
 have q1 := Hsb.out.step d2
 have s0 : Y.cell? ⟨sb, 0, none⟩ = some (.pointer (some ⟨gb, 0, none⟩)) := (q1).cell 0; have s1 : Y.cell? ⟨sb, 1, none⟩ = some (.pointer (some ⟨rb, 0, none⟩)) := (q1).cell 1; have sl := (q1).lt
 have q2 := Hr.out.g.step d2
 have r2 : Y.cell? ⟨rb, 2, none⟩ = some (.slice A s.acts.length c) := (q2).cell 2; have r3 : Y.cell? ⟨rb, 3, none⟩ = some (.slice B s.forms.length d) := (q2).cell 3; have rl := (q2).lt
 clear q1 q2
 repeat' (first | (with_reducible refine stop_region 5 ?_) | go_guarded | go_step)
 refine Stop.go ?_
 clear s0 s1 sl r2 r3 rl
 have dd := bdrew d2
 have q1 := Hsb.out.step dd
 have s0 : Y.drew.cell? ⟨sb, 0, none⟩ = some (.pointer (some ⟨gb, 0, none⟩)) := (q1).cell 0; have s1 : Y.drew.cell? ⟨sb, 1, none⟩ = some (.pointer (some ⟨rb, 0, none⟩)) := (q1).cell 1; have sl := (q1).lt
 have q2 := Hr.out.g.step dd
 have r2 : Y.drew.cell? ⟨rb, 2, none⟩ = some (.slice A s.acts.length c) := (q2).cell 2; have r3 : Y.drew.cell? ⟨rb, 3, none⟩ = some (.slice B s.forms.length d) := (q2).cell 3; have rl := (q2).lt
 clear q1 q2
 obtain ⟨b, off, x', hA, -, hbl, hx', hcell⟩ := ((Hr.out.a.row (S := fun _ => True) fun _ _ _ => trivial).step dd).at_ hk
 obtain rfl : x = x' := Option.some.inj (Hx.out.symm.trans hx')
 obtain ⟨b2, off2, f', hB, -, hbl2, hf', hcell2⟩ := ((Hr.out.b.row (S := fun _ => True) fun _ _ _ => trivial).step dd).at_ (show k < s.forms.length by rw [Hfl.out]; exact hk)
 obtain rfl : f = f' := Option.some.inj (Hf.out.symm.trans hf')
 rw [hA] at r2
 rw [hB] at r3
 have hkf : (k : Int) < s.forms.length := by rw [Hfl.out]; exact hki
 obtain ⟨c0, c1, c2, c3, c4, c5, c6, c7, c8, c9, c10, c11, c12⟩ := rc13 (w := Y.drew) (b := b) (o := off + k * 13) x hcell
 have p0 : Y.drew.cell? ⟨b2, off2 + k * 4, none⟩ = some (.int .i64 f.kind) := hcell2 0 _ rfl
 have p1 : Y.drew.cell? ⟨b2, off2 + k * 4 + 1, none⟩ = some (.int .i64 f.at_) := hcell2 1 _ rfl
 have p2 : Y.drew.cell? ⟨b2, off2 + k * 4 + 2, none⟩ = some (.int .i32 f.char) := hcell2 2 _ rfl
 have p3 : Y.drew.cell? ⟨b2, off2 + k * 4 + 3, none⟩ = some (.int .i64 f.rep) := hcell2 3 _ rfl
 have x0 : Y.drew.cell? ⟨ab, 0, none⟩ = some (.int .i64 x.op.kind) := (hA2.drew).cell 0; have x1 : Y.drew.cell? ⟨ab, 1, none⟩ = some (.int .i64 x.op.at_) := (hA2.drew).cell 1; have x2 : Y.drew.cell? ⟨ab, 2, none⟩ = some (.int .i32 x.op.char) := (hA2.drew).cell 2; have x3 : Y.drew.cell? ⟨ab, 3, none⟩ = some (.int .i64 x.op.rep) := (hA2.drew).cell 3; have x4 : Y.drew.cell? ⟨ab, 4, none⟩ = some (.int .i64 x.num) := (hA2.drew).cell 4; have x5 : Y.drew.cell? ⟨ab, 5, none⟩ = some (.int .i64 x.clk.c0) := (hA2.drew).cell 5; have x6 : Y.drew.cell? ⟨ab, 6, none⟩ = some (.int .i64 x.clk.c1) := (hA2.drew).cell 6; have x7 : Y.drew.cell? ⟨ab, 7, none⟩ = some (.int .i64 x.clk.c2) := (hA2.drew).cell 7; have x8 : Y.drew.cell? ⟨ab, 8, none⟩ = some (.int .i64 x.clk.c3) := (hA2.drew).cell 8; have x9 : Y.drew.cell? ⟨ab, 9, none⟩ = some (.int .i64 x.clk.c4) := (hA2.drew).cell 9; have x10 : Y.drew.cell? ⟨ab, 10, none⟩ = some (.int .i64 x.clk.c5) := (hA2.drew).cell 10; have x11 : Y.drew.cell? ⟨ab, 11, none⟩ = some (.int .i64 x.clk.c6) := (hA2.drew).cell 11; have x12 : Y.drew.cell? ⟨ab, 12, none⟩ = some (.int .i64 x.clk.c7) := (hA2.drew).cell 12; have xl := (hA2.drew).lt
 have o0 : Y.drew.cell? ⟨fb, 0, none⟩ = some (.int .i64 f.kind) := hF2.drew.cell 0
 have o1 : Y.drew.cell? ⟨fb, 1, none⟩ = some (.int .i64 f.at_) := hF2.drew.cell 1
 have o2 : Y.drew.cell? ⟨fb, 2, none⟩ = some (.int .i32 f.char) := hF2.drew.cell 2
 have o3 : Y.drew.cell? ⟨fb, 3, none⟩ = some (.int .i64 f.rep) := hF2.drew.cell 3
 have ol := hF2.lt
 have hks : ((k : Int) < s.forms.length) = True := by simp [hkf]
 clear hcell hcell2 hA2 hF2 hx' hf' hA hB
 repeat' (first | ((with_reducible refine region_at 5 ?_); refine wp_region_ordT (fun _ => True) (rgo [0,4,8,12,16,20,24,28,32,36,40,44,48,52,56,60,64,68,72,76,80,84,88,92,96,100,104,108,112,116,120,124,128,132,136] .nil) (by kernel_rfl) (by kernel_rfl) (by kernel_rfl) rfl rfl ?_) | ((with_reducible refine WpO.here ?_); first | (refine WpO.done ?_; refine NoP.normal ?_) | ((first | refine WpO.load (by rfl) (by rfl) (by go_simp; rfl) ?_ | refine WpO.pure (by rfl) (fun w_ => by go_simp; (try go_bits); rfl) ?_); go_frame)) | go_step)
 go_ret
 exact ⟨rfl, dd⟩
theorem errAns_of {w : World} {S : Nat → Prop} {ch : List Lk} {code : Nat} {v : Value} (h : IsErr w S a ch code v) : ErrAns w S a ch code v := .inr h
theorem noAns_of {w : World} {S : Nat → Prop} {ch : List Lk} {code : Nat} {v : Value} (h : IsNo w S ch code v) : NoAns w S ch code v := .inr h
theorem one_len {l : Lk} : [l].length ≤ 1073741824 := by show 1 ≤ 1073741824; omega
theorem site_entry_out (w : World) (base sb K : Nat) (i : Int) (S S' : Nat → Prop) (s : Lg) (h : SiteAt w base S sb s K) (hi : i < 0 ∨ (s.acts.length : Int) ≤ i) (hi64 : I64 i) (ha : s.acts.length ≤ 1048576) (hfl : s.forms.length = s.acts.length) (hs : Sents w S' a) (hlow : ∀ b, S' b → b < w.heap.size) :
 Calls Tryz.prog 44 #[.pointer (some ⟨sb, 0, none⟩), .int .i64 i] w fun e w' => e = .returned (.bool true) ∧ Below w.heap.size w w' := by
 obtain ⟨gb, rb, S1, S2, hsb, hg, hr, h4, h5, h6, h7⟩ := h
 obtain ⟨E, ce, A, c, B, d, LL, cl, SR, hr, -⟩ := hr
 have Hsb := hid hsb
 have Hr := hid hr
 have HS := hid hs
 have HA := hid (hact_no (a := a) w S1 S' gb K i s hg hi hs hlow ha)
 have HF := hid (fun W (hb : Below w.heap.size w W) => hform_no (a := a) W S1 S' gb K i s (hg.step hb) (by rw [hfl]; exact hi) (hs.step hb) (fun b h => Nat.lt_of_lt_of_le (hlow b h) hb.size) (by omega))
 have HY1 := hid (fun W => say_any ({ data := #[104, 105, 115, 116, 111, 114, 121] } : ByteArray) ({ data := #[65, 99, 116] } : ByteArray) i 2 (by omega) (by omega) (fun _ => False) W)
 have HY2 := hid (fun W => say_any ({ data := #[104, 105, 115, 116, 111, 114, 121] } : ByteArray) ({ data := #[70, 111, 114, 109] } : ByteArray) i 2 (by omega) (by omega) (fun _ => False) W)
 have s0 : w.cell? ⟨sb, 0, none⟩ = some (.pointer (some ⟨gb, 0, none⟩)) := (hsb).cell 0; have s1 : w.cell? ⟨sb, 1, none⟩ = some (.pointer (some ⟨rb, 0, none⟩)) := (hsb).cell 1; have sl := (hsb).lt
 clear hg h4 h5 h6 h7 hr hsb hs hlow hfl
 simp only [Actn.agg, Opn.agg] at *
 unfold Actn.vals at *
 go_enter Tryz.func44, Tryz.ntmps44
 repeat' (first | (go_at_call 81; go_must ((with_reducible refine Calls.mono HA.out ?_); rintro _ w1 ⟨v1, rfl, hE1, hb1⟩; dsimp only)) | (with_reducible refine stop_region 2 ?_) | go_step)
 refine Stop.go ?_
 have e1 : Below w1.heap.size w1 (w1.alloc (.cells #[.int .i64 noActn.op.kind, .int .i64 noActn.op.at_, .int .i32 noActn.op.char, .int .i64 noActn.op.rep, .int .i64 noActn.num, .int .i64 noActn.clk.c0, .int .i64 noActn.clk.c1, .int .i64 noActn.clk.c2, .int .i64 noActn.clk.c3, .int .i64 noActn.clk.c4, .int .i64 noActn.clk.c5, .int .i64 noActn.clk.c6, .int .i64 noActn.clk.c7] 46)) := balloc (Below.refl _ _)
 have hA1 := Blk.new w1 46 #[.int .i64 noActn.op.kind, .int .i64 noActn.op.at_, .int .i32 noActn.op.char, .int .i64 noActn.op.rep, .int .i64 noActn.num, .int .i64 noActn.clk.c0, .int .i64 noActn.clk.c1, .int .i64 noActn.clk.c2, .int .i64 noActn.clk.c3, .int .i64 noActn.clk.c4, .int .i64 noActn.clk.c5, .int .i64 noActn.clk.c6, .int .i64 noActn.clk.c7]
 have d1 := bvia hb1 e1
 have hE1 := IsErr.step hE1 e1
 clear s0 s1 sl
 generalize w1.alloc (.cells #[.int .i64 noActn.op.kind, .int .i64 noActn.op.at_, .int .i32 noActn.op.char, .int .i64 noActn.op.rep, .int .i64 noActn.num, .int .i64 noActn.clk.c0, .int .i64 noActn.clk.c1, .int .i64 noActn.clk.c2, .int .i64 noActn.clk.c3, .int .i64 noActn.clk.c4, .int .i64 noActn.clk.c5, .int .i64 noActn.clk.c6, .int .i64 noActn.clk.c7] 46) = X at *
 generalize w1.heap.size = ab at *
 have q1 := Hsb.out.step d1
 have s0 : X.cell? ⟨sb, 0, none⟩ = some (.pointer (some ⟨gb, 0, none⟩)) := (q1).cell 0; have s1 : X.cell? ⟨sb, 1, none⟩ = some (.pointer (some ⟨rb, 0, none⟩)) := (q1).cell 1; have sl := (q1).lt
 clear q1
 have HA1 := hid hA1
 have HE1 := hid hE1
 clear hA1 hE1
 repeat' (first | (go_at_call 16; go_must ((with_reducible refine Calls.mono (HF.out _ d1) ?_); rintro _ w2 ⟨v2, rfl, hE2, hb2⟩; dsimp only)) | (with_reducible refine stop_region 3 ?_) | go_step)
 refine Stop.go ?_
 have e2 : Below w2.heap.size w2 (w2.alloc (.cells #[.int .i64 noOpn.kind, .int .i64 noOpn.at_, .int .i32 noOpn.char, .int .i64 noOpn.rep] 37)) := balloc (Below.refl _ _)
 have hF2 := Blk.new w2 37 #[.int .i64 noOpn.kind, .int .i64 noOpn.at_, .int .i32 noOpn.char, .int .i64 noOpn.rep]
 have d2 := bvia (bvia d1 hb2) e2
 have hA2 := HA1.out.step (bvia hb2 e2)
 have HE2 := hid (IsErr.step hE2 e2)
 have HE1' := hid (IsErr.step HE1.out (bvia hb2 e2))
 clear s0 s1 sl hE2
 generalize w2.alloc (.cells #[.int .i64 noOpn.kind, .int .i64 noOpn.at_, .int .i32 noOpn.char, .int .i64 noOpn.rep] 37) = Y at *
 generalize w2.heap.size = fb at *
 have q1 := Hsb.out.step d2
 have s0 : Y.cell? ⟨sb, 0, none⟩ = some (.pointer (some ⟨gb, 0, none⟩)) := (q1).cell 0; have s1 : Y.cell? ⟨sb, 1, none⟩ = some (.pointer (some ⟨rb, 0, none⟩)) := (q1).cell 1; have sl := (q1).lt
 have q2 := Hr.out.g.step d2
 have r2 : Y.cell? ⟨rb, 2, none⟩ = some (.slice A s.acts.length c) := (q2).cell 2; have r3 : Y.cell? ⟨rb, 3, none⟩ = some (.slice B s.forms.length d) := (q2).cell 3; have rl := (q2).lt
 clear q1 q2
 have a0 : Y.cell? ⟨ab, 0, none⟩ = some (.int .i64 0) := hA2.cell 0
 have a1 : Y.cell? ⟨ab, 1, none⟩ = some (.int .i64 0) := hA2.cell 1
 have a2 : Y.cell? ⟨ab, 2, none⟩ = some (.int .i32 0) := hA2.cell 2
 have a3 : Y.cell? ⟨ab, 3, none⟩ = some (.int .i64 0) := hA2.cell 3
 have a4 : Y.cell? ⟨ab, 4, none⟩ = some (.int .i64 0) := hA2.cell 4
 have a5 : Y.cell? ⟨ab, 5, none⟩ = some (.int .i64 0) := hA2.cell 5
 have a6 : Y.cell? ⟨ab, 6, none⟩ = some (.int .i64 0) := hA2.cell 6
 have a7 : Y.cell? ⟨ab, 7, none⟩ = some (.int .i64 0) := hA2.cell 7
 have a8 : Y.cell? ⟨ab, 8, none⟩ = some (.int .i64 0) := hA2.cell 8
 have a9 : Y.cell? ⟨ab, 9, none⟩ = some (.int .i64 0) := hA2.cell 9
 have a10 : Y.cell? ⟨ab, 10, none⟩ = some (.int .i64 0) := hA2.cell 10
 have a11 : Y.cell? ⟨ab, 11, none⟩ = some (.int .i64 0) := hA2.cell 11
 have a12 : Y.cell? ⟨ab, 12, none⟩ = some (.int .i64 0) := hA2.cell 12
 have al := hA2.lt
 have o0 : Y.cell? ⟨fb, 0, none⟩ = some (.int .i64 0) := hF2.cell 0
 have o1 : Y.cell? ⟨fb, 1, none⟩ = some (.int .i64 0) := hF2.cell 1
 have o2 : Y.cell? ⟨fb, 2, none⟩ = some (.int .i32 0) := hF2.cell 2
 have o3 : Y.cell? ⟨fb, 3, none⟩ = some (.int .i64 0) := hF2.cell 3
 have ol := hF2.lt
 clear hA2 hF2
 repeat' (first | (go_at_call 57; go_must (first | (guard_hyp hb5; (with_reducible refine Calls.mono (HY2.out _) ?_); rintro _ w6 ⟨n6, rfl, hN6, hb6⟩; have d6 := bvia d5 hb6; dsimp only) | ((with_reducible refine Calls.mono (HY1.out _) ?_); rintro _ w4 ⟨n4, rfl, hN4, hb4⟩; have d4 := bvia d2 hb4; dsimp only))) | (go_at_call 27; go_must (first | (guard_hyp hb6; (with_reducible refine Calls.mono (refused_step (a := a) _ 2 v2 n6 _ _ S' w6 (errAns_of (IsErr.step (IsErr.step (IsErr.step HE2.out hb4) hb5) hb6)) (noAns_of hN6) (HS.out.step d6) one_len) ?_); rintro _ w7 ⟨rfl, hb7⟩; have d7 := bvia d6 hb7; dsimp only) | ((with_reducible refine Calls.mono (refused_step (a := a) _ 2 v1 n4 _ _ S' w4 (errAns_of (IsErr.step HE1'.out hb4)) (noAns_of hN4) (HS.out.step d4) one_len) ?_); rintro _ w5 ⟨rfl, hb5⟩; have d5 := bvia d4 hb5; dsimp only))) | go_guarded | go_step)
 all_goals
  go_ret
  exact ⟨rfl, d7⟩
end Go.Proofs.YteggpddlkkjmjaaGreatDoor
