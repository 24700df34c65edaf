/- Part of a proof: what functions of the program compute. Conditions: as each theorem says. -/
import Derived.Test.YteggpddlkkjmjaaGreatDoorQ32
set_option linter.unusedSimpArgs false
set_option linter.unusedVariables false
set_option maxHeartbeats 2000000
set_option maxRecDepth 100000
namespace Go.Proofs.YteggpddlkkjmjaaGreatDoor
open Go Go.RowKit
variable {a : Nat → Addr}
theorem hact_ok (w : World) (S : Nat → Prop) (gb K k : Nat) (s : Lg) (x : Actn) (h : LogAt w S gb s K) (hi : s.acts[k]? = some x) (hz : s.acts.length ≤ 1048576) : Calls Tryz.prog 81 #[.pointer (some ⟨gb, 0, none⟩), .int .i64 k] w fun e w' => e = .returned (.tuple #[x.agg, .nilIface]) ∧ Below w.heap.size w w' := by
 obtain ⟨bm, mb, A, c, B, d, SM, h, -⟩ := h
 have hlt : k < s.acts.length := (List.getElem?_eq_some_iff.1 hi).1
 have eZ : Below w.heap.size w (w.alloc (.cells #[.int .i64 0, .int .i64 0, .int .i32 0, .int .i64 0, .int .i64 0, .int .i64 0, .int .i64 0, .int .i64 0, .int .i64 0, .int .i64 0, .int .i64 0, .int .i64 0, .int .i64 0] 46)) := balloc (Below.refl _ _)
 have hZ := Blk.new w 46 #[.int .i64 0, .int .i64 0, .int .i32 0, .int .i64 0, .int .i64 0, .int .i64 0, .int .i64 0, .int .i64 0, .int .i64 0, .int .i64 0, .int .i64 0, .int .i64 0, .int .i64 0]
 have hX := h.step eZ
 have g3 : (w.alloc (.cells #[.int .i64 0, .int .i64 0, .int .i32 0, .int .i64 0, .int .i64 0, .int .i64 0, .int .i64 0, .int .i64 0, .int .i64 0, .int .i64 0, .int .i64 0, .int .i64 0, .int .i64 0] 46)).cell? ⟨gb, 3, none⟩ = some (.slice A s.acts.length c) := hX.g.cell 3
 have gl := hX.g.lt
 obtain ⟨b, off, x', hA, -, hbl, hx', hcell⟩ := (hX.a.row (S := fun _ => True) fun _ _ _ => trivial).at_ hlt
 obtain rfl : x = x' := Option.some.inj (hi.symm.trans hx')
 rw [hA] at g3
 clear h hX hi hA
 go_enter Tryz.func81, Tryz.ntmps81
 repeat' (first | (with_reducible refine stop_region 1 ?_) | go_step)
 refine Stop.go ?_
 generalize w.alloc (.cells #[.int .i64 0, .int .i64 0, .int .i32 0, .int .i64 0, .int .i64 0, .int .i64 0, .int .i64 0, .int .i64 0, .int .i64 0, .int .i64 0, .int .i64 0, .int .i64 0, .int .i64 0] 46) = X at *
 obtain ⟨c0, c1, c2, c3, c4, c5, c6, c7, c8, c9, c10, c11, c12⟩ := rc13 (w := X) (b := b) (o := off + k * 13) x hcell
 obtain ⟨zl, z0, z1, z2, z3, z4, z5, z6, z7, z8, z9, z10, z11, z12, f0, f1, f2, f3, f4, f5, f6, f7, f8, f9, f10, f11, f12⟩ := bl13 hZ
 have HZ := hid hZ
 clear hcell hZ
 repeat' (first | go_guarded | go_step)
 have hz4 := (HZ.out).sets (act13 x); have v0 := hz4.cell 0; have v1 := hz4.cell 1; have v2 := hz4.cell 2; have v3 := hz4.cell 3; have v4 := hz4.cell 4; have v5 := hz4.cell 5; have v6 := hz4.cell 6; have v7 := hz4.cell 7; have v8 := hz4.cell 8; have v9 := hz4.cell 9; have v10 := hz4.cell 10; have v11 := hz4.cell 11; have v12 := hz4.cell 12
 simp [act13, noActn, noOpn, Clk.zero] at v0 v1 v2 v3 v4 v5 v6 v7 v8 v9 v10 v11 v12
 refine bodyPost_ret (w := setsAt w.heap.size (act13 x) _) (v := .tuple #[(.agg #[.int .i64 x.op.kind, .int .i64 x.op.at_, .int .i32 x.op.char, .int .i64 x.op.rep, .int .i64 x.num, .int .i64 x.clk.c0, .int .i64 x.clk.c1, .int .i64 x.clk.c2, .int .i64 x.clk.c3, .int .i64 x.clk.c4, .int .i64 x.clk.c5, .int .i64 x.clk.c6, .int .i64 x.clk.c7]), .nilIface]) (by simp [act13, noActn, noOpn, Clk.zero, results, Tryz.results81, go_sem, v0, v1, v2, v3, v4, v5, v6, v7, v8, v9, v10, v11, v12]) rfl ?_
 exact ⟨rfl, Below.sets _ eZ (Nat.le_refl _)⟩
theorem hform_ok (w : World) (S : Nat → Prop) (gb K k : Nat) (s : Lg) (x : Opn) (h : LogAt w S gb s K) (hi : s.forms[k]? = some x) (hz : s.forms.length ≤ 1048576) : Calls Tryz.prog 16 #[.pointer (some ⟨gb, 0, none⟩), .int .i64 k] w fun e w' => e = .returned (.tuple #[x.agg, .nilIface]) ∧ Below w.heap.size w w' := by
 obtain ⟨bm, mb, A, c, B, d, SM, h, -⟩ := h
 have hlt : k < s.forms.length := (List.getElem?_eq_some_iff.1 hi).1
 have eZ : Below w.heap.size w (w.alloc (.cells #[.int .i64 0, .int .i64 0, .int .i32 0, .int .i64 0] 37)) := balloc (Below.refl _ _)
 have hZ := Blk.new w 37 #[.int .i64 0, .int .i64 0, .int .i32 0, .int .i64 0]
 have hX := h.step eZ
 have g4 : (w.alloc (.cells #[.int .i64 0, .int .i64 0, .int .i32 0, .int .i64 0] 37)).cell? ⟨gb, 4, none⟩ = some (.slice B s.forms.length d) := hX.g.cell 4
 have gl := hX.g.lt
 obtain ⟨b, off, x', hA, -, hbl, hx', hcell⟩ := (hX.b.row (S := fun _ => True) fun _ _ _ => trivial).at_ hlt
 obtain rfl : x = x' := Option.some.inj (hi.symm.trans hx')
 rw [hA] at g4
 clear h hX hi hA
 go_enter Tryz.func16, Tryz.ntmps16
 repeat' (first | (with_reducible refine stop_region 1 ?_) | go_step)
 refine Stop.go ?_
 generalize w.alloc (.cells #[.int .i64 0, .int .i64 0, .int .i32 0, .int .i64 0] 37) = X at *
 have c0 : X.cell? ⟨b, off + k * 4, none⟩ = some (.int .i64 x.kind) := hcell 0 _ rfl
 have c1 : X.cell? ⟨b, off + k * 4 + 1, none⟩ = some (.int .i64 x.at_) := hcell 1 _ rfl
 have c2 : X.cell? ⟨b, off + k * 4 + 2, none⟩ = some (.int .i32 x.char) := hcell 2 _ rfl
 have c3 : X.cell? ⟨b, off + k * 4 + 3, none⟩ = some (.int .i64 x.rep) := hcell 3 _ rfl
 obtain ⟨zl, z0, z1, z2, z3, f0, f1, f2, f3⟩ := bl4 hZ
 have HZ := hid hZ
 clear hcell hZ
 repeat' (first | go_guarded | go_step)
 have hz4 := (HZ.out).sets (op4 x); have v0 := hz4.cell 0; have v1 := hz4.cell 1; have v2 := hz4.cell 2; have v3 := hz4.cell 3
 simp [op4, noOpn] at v0 v1 v2 v3
 refine bodyPost_ret (w := setsAt w.heap.size (op4 x) _) (v := .tuple #[(.agg #[.int .i64 x.kind, .int .i64 x.at_, .int .i32 x.char, .int .i64 x.rep]), .nilIface]) (by simp [op4, noOpn, results, Tryz.results16, go_sem, v0, v1, v2, v3]) rfl ?_
 exact ⟨rfl, Below.sets _ eZ (Nat.le_refl _)⟩
end Go.Proofs.YteggpddlkkjmjaaGreatDoor
