/- Part of a proof: what functions of the program compute. Conditions: as each theorem says. -/
import Derived.Maps.RangeWalk
import Derived.Test.YteggpddlkkjmjaaGreatDoorQ32
import Derived.Test.YteggpddlkkjmjaaGreatDoorQ33
set_option linter.unusedSimpArgs false
set_option linter.unusedVariables false
set_option maxHeartbeats 8000000
set_option maxRecDepth 100000
namespace Go.Proofs.YteggpddlkkjmjaaGreatDoor
open Go Go.RowKit
theorem known_any (w : World) (gb bm mb c d K : Nat) (A B : Option Addr) (SM : Nat → Prop) (s : Lg) (id : Nm) (q : Clk) (h : LgIn w gb bm mb A c B d SM s K) (hi : id.In) :
 Calls Tryz.prog 112 #[.pointer (some ⟨gb, 0, none⟩), id.val, q.agg] w fun e w' => e = .returned (.bool (decide (id ∈ s.base.map El.nm) || hasC q id.rep id.num)) ∧ Below w.heap.size w w' := by
 obtain ⟨hX, hY, e0⟩ := twoBoxes w 70 44 #[.int .i64 id.epoch, .int .i64 id.rep, .int .i64 id.num] q.vals
 have h0 := h.step e0
 have eS : Below ((w.alloc (.cells #[.int .i64 id.epoch, .int .i64 id.rep, .int .i64 id.num] 70)).alloc (.cells q.vals 44)).heap.size ((w.alloc (.cells #[.int .i64 id.epoch, .int .i64 id.rep, .int .i64 id.num] 70)).alloc (.cells q.vals 44)) (((w.alloc (.cells #[.int .i64 id.epoch, .int .i64 id.rep, .int .i64 id.num] 70)).alloc (.cells q.vals 44)).alloc (.cells #[] 161)).drew := (balloc (Below.refl _ _)).drew
 have k1 := (h0.step (drew_below _)).i.ids.ask id hi
 have k2 := (h0.step eS).i.ids.ask id hi
 have Hh := hid (fun W => has_any q id.rep id.num W)
 have H0 := hid h0
 have HX := hid hX
 have HY := hid hY
 have HS := hid eS
 clear h h0 hX hY eS
 simp only [Clk.agg, Nm.val] at *
 unfold Clk.vals at *
 go_enter Tryz.func112, Tryz.ntmps112
 repeat' (first | (with_reducible refine stop_region 1 ?_) | go_step)
 refine Stop.go ?_
 generalize (w.alloc (.cells #[.int .i64 id.epoch, .int .i64 id.rep, .int .i64 id.num] 70)).alloc (.cells #[.int .i64 q.c0, .int .i64 q.c1, .int .i64 q.c2, .int .i64 q.c3, .int .i64 q.c4, .int .i64 q.c5, .int .i64 q.c6, .int .i64 q.c7] 44) = X at *
 have g1 : X.cell? ⟨gb, 1, none⟩ = some (.map (some bm)) := H0.out.g.cell 1
 have gl := H0.out.g.lt
 have x0 : X.cell? ⟨w.heap.size, 0, none⟩ = some (.int .i64 id.epoch) := HX.out.cell 0
 have x1 : X.cell? ⟨w.heap.size, 1, none⟩ = some (.int .i64 id.rep) := HX.out.cell 1
 have x2 : X.cell? ⟨w.heap.size, 2, none⟩ = some (.int .i64 id.num) := HX.out.cell 2
 have xl := HX.out.lt
 rcases hb : decide (id ∈ s.base.map El.nm) with _ | _
 · rw [hb] at k1 k2
   have HB := hid hb
   clear hb
   repeat' (first | ((with_reducible refine region_at 1 ?_); refine wp_region_ordT (fun _ => True) (rgo [0,4,8,12,16] (.two 5 9 (rgo [24,28,32,37,43,44] .nil) (rgo [21,24,28,32,43,44] .nil))) (by kernel_rfl) (by kernel_rfl) (by kernel_rfl) rfl rfl ?_) | (with_reducible refine Keep.allocD ?_) | (with_reducible refine stop_region 4 ?_) | (with_reducible first | refine Keep.last ?_ | refine Keep.same ?_) | ((with_reducible refine WpO.here ?_); first | (refine WpO.done ?_; refine NoP.normal ?_) | ((first | refine WpO.load (by rfl) (by rfl) (by go_simp; rfl) ?_ | refine WpO.pure (by rfl) (fun w_ => by go_simp; (try go_bits); rfl) ?_); go_frame) | refine WpO.wild ?_ | refine WpO.two ?_ ?_) | ((with_reducible refine wildO.here ?_); (refine wildO.go (by rfl) (fun _ _ => ?_))) | go_step)
   all_goals
    refine Stop.go ?_
    have y := HY.out.step HS.out
    have x := HX.out.step HS.out
    obtain ⟨q0, q1, q2, q3, q4, q5, q6, q7⟩ := cl8 (w := (X.alloc (.cells #[] 161)).drew) (g := w.heap.size + 1) y
    have z1 : (X.alloc (.cells #[] 161)).drew.cell? ⟨w.heap.size, 1, none⟩ = some (.int .i64 id.rep) := x.cell 1
    have z2 : (X.alloc (.cells #[] 161)).drew.cell? ⟨w.heap.size, 2, none⟩ = some (.int .i64 id.num) := x.cell 2
    have yl := y.lt
    have xl2 := x.lt
    clear k1 k2 g1 gl x0 x1 x2 xl
    repeat' (first | (go_at_call 79; go_must ((with_reducible refine Calls.mono (Hh.out _) ?_); rintro _ w3 ⟨rfl, hb3⟩; dsimp only)) | go_step)
    go_ret
    rw [HB.out, Bool.false_or]
    exact ⟨rfl, bvia e0 (bvia HS.out hb3)⟩
 · rw [hb] at k1 k2
   have HB := hid hb
   clear hb
   repeat' (first | ((with_reducible refine region_at 1 ?_); refine wp_region_ordT (fun _ => True) (rgo [0,4,8,12,16] (.two 5 9 (rgo [24,28,32,37,43,44] .nil) (rgo [21,24,28,32,43,44] .nil))) (by kernel_rfl) (by kernel_rfl) (by kernel_rfl) rfl rfl ?_) | (with_reducible refine Keep.allocD ?_) | (with_reducible first | refine Keep.last ?_ | refine Keep.same ?_) | ((with_reducible refine WpO.here ?_); first | (refine WpO.done ?_; refine NoP.normal ?_) | ((first | refine WpO.load (by rfl) (by rfl) (by go_simp; rfl) ?_ | refine WpO.pure (by rfl) (fun w_ => by go_simp; (try go_bits); rfl) ?_); go_frame) | refine WpO.wild ?_ | refine WpO.two ?_ ?_) | ((with_reducible refine wildO.here ?_); (refine wildO.go (by rfl) (fun _ _ => ?_))) | go_step)
   all_goals
    go_ret
    rw [HB.out, Bool.true_or]
    exact ⟨rfl, bvia e0 HS.out⟩
theorem rin_any (w : World) (rb ce c d cl : Nat) (E A B L : Option Addr) (SR : Nat → Prop) (s : Lg) (e : El) (q : Clk) (h : RgIn w rb E ce A c B d L cl SR s) (hz : s.base.length ≤ 1048576) :
 Calls Tryz.prog 154 #[.pointer (some ⟨rb, 0, none⟩), e.agg, q.agg] w fun r w' => r = .returned (.bool (s.inC q e)) ∧ Below w.heap.size w w' := by
 obtain ⟨hX, hY, e0⟩ := twoBoxes w 113 44 #[.int .i64 e.epoch, .int .i64 e.rep, .int .i64 e.num, .int .i32 e.char, .int .i64 e.hides] q.vals
 have h0 := h.step e0
 have HI := hid (fun W (hb : Below ((w.alloc (.cells #[.int .i64 e.epoch, .int .i64 e.rep, .int .i64 e.num, .int .i32 e.char, .int .i64 e.hides] 113)).alloc (.cells q.vals 44)).heap.size ((w.alloc (.cells #[.int .i64 e.epoch, .int .i64 e.rep, .int .i64 e.num, .int .i32 e.char, .int .i64 e.hides] 113)).alloc (.cells q.vals 44)) W) => ref5Index_any E s.base.length ce s.base SR e.nm W (h0.e.step hb) (by omega))
 have Hh := hid (fun W => refHas_any q e.rep e.num W)
 have H0 := hid h0
 have HX := hid hX
 have HY := hid hY
 obtain ⟨v, hv⟩ : ∃ v, v = s.inC q e := ⟨_, rfl⟩
 rw [← hv]
 unfold Lg.inC at hv
 have Hv := hid hv
 clear h h0 hX hY hz hv
 unfold El.nm at HI
 dsimp only at HI
 simp only [Clk.agg, El.agg] at *
 unfold Clk.vals at *
 go_enter Tryz.func154, Tryz.ntmps154
 repeat' (first | (with_reducible refine stop_region 1 ?_) | go_step)
 refine Stop.go ?_
 generalize (w.alloc (.cells #[.int .i64 e.epoch, .int .i64 e.rep, .int .i64 e.num, .int .i32 e.char, .int .i64 e.hides] 113)).alloc (.cells #[.int .i64 q.c0, .int .i64 q.c1, .int .i64 q.c2, .int .i64 q.c3, .int .i64 q.c4, .int .i64 q.c5, .int .i64 q.c6, .int .i64 q.c7] 44) = X at *
 have Dd := drew_below X
 have g1 : X.drew.cell? ⟨rb, 1, none⟩ = some (.slice E s.base.length ce) := (H0.out.step Dd).g.cell 1
 have gl := H0.out.g.lt
 have x0 : X.drew.cell? ⟨w.heap.size, 0, none⟩ = some (.int .i64 e.epoch) := (HX.out.step Dd).cell 0
 have x1 : X.drew.cell? ⟨w.heap.size, 1, none⟩ = some (.int .i64 e.rep) := (HX.out.step Dd).cell 1
 have x2 : X.drew.cell? ⟨w.heap.size, 2, none⟩ = some (.int .i64 e.num) := (HX.out.step Dd).cell 2
 have xl := HX.out.lt
 have HD := hid Dd
 clear Dd
 repeat' (first | ((with_reducible refine region_at 1 ?_); refine wp_region_order (rgl [0,4,8,12,16,20,25,28]) (by kernel_rfl) (by kernel_rfl) (by kernel_rfl) rfl rfl ?_) | (go_at_call 29; go_must ((with_reducible refine Calls.mono (HI.out _ HD.out) ?_); rintro _ w2 ⟨⟨r, rfl, hr⟩, hb2⟩; have Hr := hid hr; clear hr; dsimp only)) | (with_reducible refine stop_region 3 ?_) | (with_reducible refine Keep.below (by assumption) ?_) | ((with_reducible refine WpH.here ?_); first | (refine WpH.nil ?_; refine NoP.normal ?_) | ((first | refine WpH.load (by rfl) (by rfl) (by go_simp; rfl) ?_ | refine WpH.pure (by rfl) (fun w_ => by go_simp; (try go_bits); rfl) ?_); go_frame) | (refine WpH.wild1 (by rfl) (fun _ _ => ?_))) | go_step)
 · have hin : e.nm ∈ s.base.map El.nm := Hr.out.1 (by omega)
   go_ret
   rw [Hv.out, decide_eq_true hin]
   exact ⟨rfl, bvia e0 (bvia HD.out hb2)⟩
 · refine Stop.go ?_
   have hin : e.nm ∉ s.base.map El.nm := fun h => by have h1 := Hr.out.2 h; omega
   have D2 := (bvia HD.out hb2).drew
   have hv2 : v = (decide (e.epoch = s.ep) && hasC q e.rep e.num) := by rw [Hv.out, decide_eq_false hin, Bool.false_or]
   clear Hv hin Hr g1 gl x0 x1 x2 xl HI
   have g0 : w2.drew.cell? ⟨rb, 0, none⟩ = some (.int .i64 s.ep) := (H0.out.step D2).g.cell 0
   have gl := (H0.out.step D2).g.lt
   have x0 : w2.drew.cell? ⟨w.heap.size, 0, none⟩ = some (.int .i64 e.epoch) := (HX.out.step D2).cell 0
   have x1 : w2.drew.cell? ⟨w.heap.size, 1, none⟩ = some (.int .i64 e.rep) := (HX.out.step D2).cell 1
   have x2 : w2.drew.cell? ⟨w.heap.size, 2, none⟩ = some (.int .i64 e.num) := (HX.out.step D2).cell 2
   have xl := (HX.out.step D2).lt
   have y := HY.out.step D2
   obtain ⟨q0, q1, q2, q3, q4, q5, q6, q7⟩ := cl8 (w := w2.drew) (g := w.heap.size + 1) y
   have yl := y.lt
   have HD2 := hid D2
   clear y D2 hb2
   by_cases he : e.epoch = s.ep
   · have hv3 : v = hasC q e.rep e.num := by rw [hv2, decide_eq_true he, Bool.true_and]
     subst hv3
     have he2 : (e.epoch == s.ep) = true := by simpa using he
     clear hv2 he
     repeat' (first | ((with_reducible refine region_at 3 ?_); refine wp_region_ordT (fun _ => True) (rgo [0,4,8,12,16,20,24,28,32,36,40,44,48,52,56,60,65,68,72] .nil) (by kernel_rfl) (by kernel_rfl) (by kernel_rfl) rfl rfl ?_) | (go_at_call 52; go_must ((with_reducible refine Calls.mono (Hh.out _) ?_); rintro _ w3 ⟨rfl, hb3⟩; dsimp only)) | (with_reducible refine Keep.below (by assumption) ?_) | ((with_reducible refine WpO.here ?_); first | (refine WpO.done ?_; refine NoP.normal ?_) | ((first | refine WpO.load (by rfl) (by rfl) (by go_simp; rfl) ?_ | refine WpO.pure (by rfl) (fun w_ => by go_simp; (try go_bits); rfl) ?_); go_frame) | refine WpO.wild ?_) | ((with_reducible refine wildO.here ?_); (refine wildO.go (by rfl) (fun _ _ => ?_))) | go_step)
     go_ret
     exact ⟨rfl, bvia e0 (bvia HD2.out hb3)⟩
   · have hv3 : v = false := by rw [hv2, decide_eq_false he, Bool.false_and]
     subst hv3
     have he2 : (e.epoch == s.ep) = false := by simpa using he
     clear hv2 he
     repeat' (first | ((with_reducible refine region_at 3 ?_); refine wp_region_ordT (fun _ => True) (rgo [0,4,8,12,16,20,24,28,32,36,40,44,48,52,56,60,65,68,72] .nil) (by kernel_rfl) (by kernel_rfl) (by kernel_rfl) rfl rfl ?_) | ((with_reducible refine WpO.here ?_); first | (refine WpO.done ?_; refine NoP.normal ?_) | ((first | refine WpO.load (by rfl) (by rfl) (by go_simp; rfl) ?_ | refine WpO.pure (by rfl) (fun w_ => by go_simp; (try go_bits); rfl) ?_ | refine WpO.skip (by rfl) ?_); go_frame)) | go_step)
     go_ret
     exact ⟨rfl, bvia e0 HD2.out⟩
variable {a : Nat → Addr}
def hadTo (s : Lg) (q : Clk) (k : Nat) : Nat := ((s.acts.take k).filter fun x => decide (x.op.kind = 1) && hasC q x.op.rep x.num).length
theorem hadTo_le (s : Lg) (q : Clk) (k : Nat) : hadTo s q k ≤ k := by
 unfold hadTo
 have h1 := List.length_filter_le (fun x : Actn => decide (x.op.kind = 1) && hasC q x.op.rep x.num) (s.acts.take k)
 have h2 := List.length_take_le k s.acts
 omega
theorem hadTo_snoc {s : Lg} {q : Clk} {k : Nat} {x : Actn} (h : s.acts[k]? = some x) : hadTo s q (k + 1) = hadTo s q k + if (decide (x.op.kind = 1) && hasC q x.op.rep x.num) = true then 1 else 0 := by
 unfold hadTo
 rw [List.take_add_one, h, List.filter_append, List.length_append]
 congr 1
 cases hb : (decide (x.op.kind = 1) && hasC q x.op.rep x.num) <;> simp [hb]
theorem hadTo_all (s : Lg) (q : Clk) : hadTo s q s.acts.length = (s.had q).length := by
 unfold hadTo Lg.had
 rw [List.take_length]
theorem context_any (w : World) (gb bm mb c d K : Nat) (A B : Option Addr) (SM : Nat → Prop) (s : Lg) (q : Clk) (h : LgIn w gb bm mb A c B d SM s K) (hb : s.base.length ≤ 1048576) (ha : s.acts.length ≤ 1048576) :
 Calls Tryz.prog 41 #[.pointer (some ⟨gb, 0, none⟩), q.agg] w fun e w' => e = .returned (.int .i64 (s.ctx q)) ∧ Below w.heap.size w w' := by
 have e0 : Below w.heap.size w (w.alloc (.cells q.vals 44)) := balloc (Below.refl _ _)
 have hq := Blk.new w 44 q.vals
 have hX := h.step e0
 have HX := hid hX
 have g1 : (w.alloc (.cells q.vals 44)).cell? ⟨gb, 1, none⟩ = some (.map (some bm)) := hX.g.cell 1
 have g3 : (w.alloc (.cells q.vals 44)).cell? ⟨gb, 3, none⟩ = some (.slice A s.acts.length c) := hX.g.cell 3
 have gl := hX.g.lt
 have hlen : ∀ ty, _ := fun ty => hX.i.len ty
 rw [List.length_map] at hlen
 have Hrow := hid (hX.a.row (S := fun _ => True) fun _ _ _ => trivial)
 have Hq := hid hq
 have Hh := hid (fun (x : Actn) W => has_any q x.op.rep x.num W)
 have hcx : s.ctx q = s.base.length + hadTo s q s.acts.length := by rw [hadTo_all]; rfl
 have Hcx := hid hcx
 clear h hX hq hcx
 simp only [Clk.agg] at *
 unfold Clk.vals at *
 go_enter Tryz.func41, Tryz.ntmps41
 repeat' (first | (with_reducible refine stop_region 1 ?_) | go_step)
 refine Stop.go ?_
 generalize w.alloc (.cells #[.int .i64 q.c0, .int .i64 q.c1, .int .i64 q.c2, .int .i64 q.c3, .int .i64 q.c4, .int .i64 q.c5, .int .i64 q.c6, .int .i64 q.c7] 44) = X at *
 repeat' (first | go_step)
 go_loopw [5, 18] (fun n i wr => ∃ k : Nat, n = .int .i64 ((s.base.length + hadTo s q k : Nat) : Int) ∧ i = .int .i64 k ∧ k ≤ s.acts.length ∧ Below X.heap.size X wr) (fun _ i _ => s.acts.length - (intOf i).toNat)
 case atStart => exact ⟨0, by simp [hadTo], rfl, Nat.zero_le _, Below.refl _ _⟩
 case round =>
  obtain ⟨k, rfl, rfl, hk, hbr⟩ := hrel
  clear hlen g1 g3 gl
  by_cases hlt : k < s.acts.length
  · obtain ⟨b, off, x, rfl, -, hbl, hx, hcell⟩ := (Hrow.out.step hbr).at_ hlt
    obtain ⟨c0, c1, c2, c3, c4, c5, c6, c7, c8, c9, c10, c11, c12⟩ := rc13 (w := wr) (b := b) (o := off + k * 13) x hcell
    have e1 : Below wr.heap.size wr (wr.alloc (.cells #[.int .i64 x.op.kind, .int .i64 x.op.at_, .int .i32 x.op.char, .int .i64 x.op.rep, .int .i64 x.num, .int .i64 x.clk.c0, .int .i64 x.clk.c1, .int .i64 x.clk.c2, .int .i64 x.clk.c3, .int .i64 x.clk.c4, .int .i64 x.clk.c5, .int .i64 x.clk.c6, .int .i64 x.clk.c7] 46)) := balloc (Below.refl _ _)
    have hxb := Blk.new wr 46 #[.int .i64 x.op.kind, .int .i64 x.op.at_, .int .i32 x.op.char, .int .i64 x.op.rep, .int .i64 x.num, .int .i64 x.clk.c0, .int .i64 x.clk.c1, .int .i64 x.clk.c2, .int .i64 x.clk.c3, .int .i64 x.clk.c4, .int .i64 x.clk.c5, .int .i64 x.clk.c6, .int .i64 x.clk.c7]
    have hqb := (Hq.out.step hbr).step e1
    have hs := hadTo_snoc (q := q) hx
    have hle := hadTo_le s q k
    have Hs := hid hs
    have Hhx := hid (Hh.out x)
    have Hxb := hid hxb
    have Hqb := hid hqb
    clear hcell hs hx hxb hqb
    repeat' (first | (with_reducible refine stop_region 5 ?_) | go_step)
    refine Stop.go ?_
    have hbw := bvia hbr e1
    clear c0 c1 c2 c3 c4 c5 c6 c7 c8 c9 c10 c11 c12 hbl
    generalize hWq : wr.alloc (.cells #[.int .i64 x.op.kind, .int .i64 x.op.at_, .int .i32 x.op.char, .int .i64 x.op.rep, .int .i64 x.num, .int .i64 x.clk.c0, .int .i64 x.clk.c1, .int .i64 x.clk.c2, .int .i64 x.clk.c3, .int .i64 x.clk.c4, .int .i64 x.clk.c5, .int .i64 x.clk.c6, .int .i64 x.clk.c7] 46) = W at *
    generalize wr.heap.size = xb at *
    have x0 : W.cell? ⟨xb, 0, none⟩ = some (.int .i64 x.op.kind) := Hxb.out.cell 0
    have x3 : W.cell? ⟨xb, 3, none⟩ = some (.int .i64 x.op.rep) := Hxb.out.cell 3
    have x4 : W.cell? ⟨xb, 4, none⟩ = some (.int .i64 x.num) := Hxb.out.cell 4
    have xl := Hxb.out.lt
    obtain ⟨q0, q1, q2, q3, q4, q5, q6, q7⟩ := cl8 (w := W) (g := w.heap.size) Hqb.out
    have ql := Hqb.out.lt
    clear hWq
    obtain ⟨p, hp⟩ : ∃ p, p = (s.base.length + hadTo s q k : Nat) := ⟨_, rfl⟩
    have hpb : p ≤ 2097152 := by omega
    have Hp := hid hp
    rw [← hp]
    clear hp hle
    by_cases hkd : x.op.kind = 1
    · have hkd' : (x.op.kind == 1) = true := by simpa using hkd
      rcases hhc : hasC q x.op.rep x.num with _ | _
      · rw [hhc] at Hhx
        repeat' (first | (go_at_call 79; go_must ((with_reducible refine Calls.mono (Hhx.out _) ?_); rintro _ w3 ⟨rfl, hb3⟩; dsimp only)) | go_guarded | go_step)
        go_roundw
        case rel =>
         have h1 := Hs.out
         rw [hhc, Bool.and_false, if_neg (by simp)] at h1
         have h2 := Hp.out
         exact ⟨k + 1, by rw [h1, h2]; rfl, by go_num, by omega, bvia hbw hb3⟩
        case measure => simp [intOf]; omega
      · rw [hhc] at Hhx
        repeat' (first | (go_at_call 79; go_must ((with_reducible refine Calls.mono (Hhx.out _) ?_); rintro _ w3 ⟨rfl, hb3⟩; dsimp only)) | go_guarded | go_step)
        go_roundw
        case rel =>
         have h1 := Hs.out
         rw [hhc, decide_eq_true hkd, if_pos (show (true && true) = true from rfl)] at h1
         have h2 := Hp.out
         exact ⟨k + 1, by rw [h1, h2]; go_num, by go_num, by omega, bvia hbw hb3⟩
        case measure => simp [intOf]; omega
    · have hkd' : (x.op.kind == 1) = false := by simpa using hkd
      repeat' (first | go_guarded | go_step)
      go_roundw
      case rel =>
       have h1 := Hs.out
       rw [decide_eq_false hkd, Bool.false_and, if_neg (by simp)] at h1
       have h2 := Hp.out
       exact ⟨k + 1, by rw [h1, h2]; rfl, by go_num, by omega, hbw⟩
      case measure => simp [intOf]; omega
  · obtain rfl : k = s.acts.length := by omega
    rw [← Hcx.out]
    repeat' (first | go_step)
    go_ret
    exact ⟨rfl, bvia e0 hbr⟩
end Go.Proofs.YteggpddlkkjmjaaGreatDoor
namespace Go.Proofs.YteggpddlkkjmjaaGreatDoor
open Go Go.RowKit
def formTo (s : Lg) (x : Actn) (k : Nat) : List Bool × Opn := (besideC (s.acts.take k) x.clk).foldl (metStep s) (s.l.map (s.inC x.clk), x.op)
theorem formTo_zero (s : Lg) (x : Actn) : formTo s x 0 = (s.l.map (s.inC x.clk), x.op) := by
 unfold formTo besideC
 simp
theorem formTo_all (s : Lg) (x : Actn) : s.form x = (formTo s x s.acts.length).2 := by
 unfold formTo Lg.form
 rw [List.take_length]
theorem formTo_snoc {s : Lg} {x y : Actn} {k : Nat} (h : s.acts[k]? = some y) : formTo s x (k + 1) = if hasC x.clk y.op.rep y.num = true then formTo s x k else metStep s (formTo s x k) y := by
 unfold formTo besideC
 rw [List.take_add_one, h, List.filter_append, List.foldl_append]
 cases hh : hasC x.clk y.op.rep y.num <;> simp [hh]
theorem formTo_had {s : Lg} {x y : Actn} {k : Nat} (h : s.acts[k]? = some y) (hh : hasC x.clk y.op.rep y.num = true) : formTo s x (k + 1) = formTo s x k := by
 rw [formTo_snoc h, if_pos hh]
theorem formTo_other {s : Lg} {x y : Actn} {k : Nat} (h : s.acts[k]? = some y) (hk : y.op.kind ≠ 1) : formTo s x (k + 1) = formTo s x k := by
 rw [formTo_snoc h]
 split
 · rfl
 · unfold metStep
   rw [if_neg hk]
theorem formTo_met {s : Lg} {x y : Actn} {k i : Nat} (h : s.acts[k]? = some y) (hk : y.op.kind = 1) (hh : hasC x.clk y.op.rep y.num = false) (hi : ixOf s.l (s.name y) = some i) :
 formTo s x (k + 1) = ((formTo s x k).1.set i true, Tof (formTo s x k).2 ⟨1, countT (formTo s x k).1 i, 0, y.op.rep⟩) := by
 rw [formTo_snoc h, if_neg (by rw [hh]; simp)]
 unfold metStep
 rw [if_pos hk, hi]
 rfl
theorem metStep_len (s : Lg) (p : List Bool × Opn) (y : Actn) : (metStep s p y).1.length = p.1.length := by
 unfold metStep
 split
 · exact List.length_set
 · rfl
theorem Tof_in8 {a b : Opn} (ha : a.In) : (Tof a b).In := by
 unfold Tof
 split
 · rename_i hm
   have h1 : a.at_ ≠ 9223372036854775807 := by
    intro e
    unfold moves at hm
    rw [if_pos (.inr e)] at hm
    cases hm
   have := ha.at_
   exact ⟨ha.kind, ⟨by show _ ≤ a.at_ + 1; have := this.1; omega, by show a.at_ + 1 ≤ _; have := this.2; omega⟩, ha.char, ha.rep⟩
 · exact ha
theorem metStep_in {s : Lg} {p : List Bool × Opn} {y : Actn} (h : p.2.In) : (metStep s p y).2.In := by
 unfold metStep
 split
 · exact Tof_in8 h
 · exact h
theorem foldMet (s : Lg) : ∀ (L : List Actn) (p : List Bool × Opn), (L.foldl (metStep s) p).1.length = p.1.length ∧ (p.2.In → (L.foldl (metStep s) p).2.In)
 | [], p => ⟨rfl, fun h => h⟩
 | y :: L, p => by
  rw [List.foldl_cons]
  obtain ⟨h1, h2⟩ := foldMet s L (metStep s p y)
  exact ⟨h1.trans (metStep_len s p y), fun h => h2 (metStep_in h)⟩
theorem formTo_len (s : Lg) (x : Actn) (k : Nat) : (formTo s x k).1.length = s.l.length := by
 unfold formTo
 rw [(foldMet s _ _).1, List.length_map]
theorem formTo_in (s : Lg) (x : Actn) (k : Nat) (h : x.op.In) : (formTo s x k).2.In := (foldMet s _ _).2 h
def Lg.Stand (s : Lg) : Prop := ∀ y ∈ s.acts, y.op.kind = 1 → s.name y ∈ s.l.map El.nm
theorem ixOf_of_mem {l : List El} {id : Nm} (h : id ∈ l.map El.nm) : ∃ k, ixOf l id = some k ∧ k < l.length := by
 unfold ixOf
 cases hf : l.findIdx? fun e => decide (e.nm = id) with
 | none =>
  rw [List.findIdx?_eq_none_iff] at hf
  obtain ⟨e, he, hn⟩ := List.mem_map.1 h
  have := hf e he
  simp [hn] at this
 | some k =>
  rw [List.findIdx?_eq_some_iff_getElem] at hf
  obtain ⟨hk, _⟩ := hf
  exact ⟨k, rfl, hk⟩
def marksTo (s : Lg) (q : Clk) (k : Nat) : List Bool := (s.l.take k).map (s.inC q) ++ List.replicate (s.l.length - k) false
theorem marksTo_zero (s : Lg) (q : Clk) : marksTo s q 0 = List.replicate s.l.length false := by
 unfold marksTo
 simp
theorem marksTo_all (s : Lg) (q : Clk) : marksTo s q s.l.length = s.l.map (s.inC q) := by
 unfold marksTo
 simp
theorem marksTo_at {s : Lg} {q : Clk} {k : Nat} (hk : k < s.l.length) : (marksTo s q k)[k]? = some false := by
 unfold marksTo
 have h1 : ((s.l.take k).map (s.inC q)).length = k := by rw [List.length_map, List.length_take]; omega
 rw [List.getElem?_append_right (by omega), h1, Nat.sub_self, List.getElem?_replicate]
 rw [if_pos (by omega)]
theorem marksTo_succ {s : Lg} {q : Clk} {k : Nat} {e : El} (h : s.l[k]? = some e) : (marksTo s q k).set k (s.inC q e) = marksTo s q (k + 1) := by
 have hk : k < s.l.length := (List.getElem?_eq_some_iff.1 h).1
 unfold marksTo
 have h1 : ((s.l.take k).map (s.inC q)).length = k := by rw [List.length_map, List.length_take]; omega
 rw [List.set_append_right _ _ (by omega), h1, Nat.sub_self, List.take_add_one, h, List.map_append, List.append_assoc]
 congr 1
 obtain ⟨m, hm⟩ : ∃ m, s.l.length - k = m + 1 := ⟨s.l.length - k - 1, by omega⟩
 rw [hm, show s.l.length - (k + 1) = m from by omega, List.replicate_succ]
 rfl
theorem bviaB {base : Nat} {w w' w'' : World} (hb : w.heap.size = base) (h : Below base w w') (k : Below w'.heap.size w' w'') : Below base w w'' := by
 subst hb
 exact bvia h k
theorem rform_any (w : World) (rb ce c d cl : Nat) (E A B L : Option Addr) (SR : Nat → Prop) (s : Lg) (x : Actn) (h : RgIn w rb E ce A c B d L cl SR s) (hz : s.base.length ≤ 1048576) (ha : s.acts.length ≤ 1048576) (hll : s.l.length ≤ 1048576) (hst : s.Stand) (hx : x.op.In) :
 Calls Tryz.prog 138 #[.pointer (some ⟨rb, 0, none⟩), x.agg] w fun r w' => r = .returned (s.form x).agg ∧ Below w.heap.size w w' := by
 obtain ⟨hX, hY, e0⟩ := twoBoxes w 46 37 x.vals #[.int .i64 0, .int .i64 0, .int .i32 0, .int .i64 0]
 have h0 := h.step e0
 have HN := hid (fun W (hb : Below ((w.alloc (.cells x.vals 46)).alloc (.cells #[.int .i64 0, .int .i64 0, .int .i32 0, .int .i64 0] 37)).heap.size ((w.alloc (.cells x.vals 46)).alloc (.cells #[.int .i64 0, .int .i64 0, .int .i32 0, .int .i64 0] 37)) W) (y : Actn) => name_rlog W rb ce c d cl E A B L SR s y (h0.step hb))
 have HI := hid (fun W (hb : Below ((w.alloc (.cells x.vals 46)).alloc (.cells #[.int .i64 0, .int .i64 0, .int .i32 0, .int .i64 0] 37)).heap.size ((w.alloc (.cells x.vals 46)).alloc (.cells #[.int .i64 0, .int .i64 0, .int .i32 0, .int .i64 0] 37)) W) (id : Nm) (i : Nat) (hi : ixOf s.l id = some i) => ref5Index_own L s.l.length cl s.l SR id W i (h0.step hb).l (by omega) hi)
 have HE := hid (fun W (hb : Below ((w.alloc (.cells x.vals 46)).alloc (.cells #[.int .i64 0, .int .i64 0, .int .i32 0, .int .i64 0] 37)).heap.size ((w.alloc (.cells x.vals 46)).alloc (.cells #[.int .i64 0, .int .i64 0, .int .i32 0, .int .i64 0] 37)) W) (e : El) => rin_any W rb ce c d cl E A B L SR s e x.clk (h0.step hb) hz)
 have HH := hid (fun (y : Actn) W => refHas_any x.clk y.op.rep y.num W)
 have HT := hid (fun (a b : Opn) (hin : a.In) W => refT_any a b W hin)
 have HO := hid h0
 have HX := hid hX
 have HY := hid hY
 have Hst := hid hst
 have Hx := hid hx
 obtain ⟨f, hf⟩ : ∃ f, f = s.form x := ⟨_, rfl⟩
 rw [← hf]
 have HF := hid (hf.trans (formTo_all s x))
 clear h h0 hX hY hst hx hz hf
 simp only [Actn.agg, Clk.agg, Opn.agg, Nm.val, El.agg] at *
 unfold Actn.vals Clk.vals at *
 go_enter Tryz.func138, Tryz.ntmps138
 repeat' (first | (with_reducible refine stop_region 1 ?_) | go_step)
 refine Stop.go ?_
 generalize (w.alloc (.cells #[.int .i64 x.op.kind, .int .i64 x.op.at_, .int .i32 x.op.char, .int .i64 x.op.rep, .int .i64 x.num, .int .i64 x.clk.c0, .int .i64 x.clk.c1, .int .i64 x.clk.c2, .int .i64 x.clk.c3, .int .i64 x.clk.c4, .int .i64 x.clk.c5, .int .i64 x.clk.c6, .int .i64 x.clk.c7] 46)).alloc (.cells #[.int .i64 0, .int .i64 0, .int .i32 0, .int .i64 0] 37) = X at *
 have xl0 := HX.out.lt
 have yl0 := HY.out.lt
 have r12 : X.cell? ⟨rb, 12, none⟩ = some (.slice L s.l.length cl) := HO.out.g.cell 12
 have rl := HO.out.g.lt
 obtain ⟨w1, hmk, ho1, hb1⟩ := make_bools X s.l.length hll
 have Ho1 := hid ho1
 have Hb1 := hid hb1
 clear ho1 hb1
 repeat' (first | (with_reducible refine stop_region 2 ?_) | go_step)
 refine Stop.go ?_
 clear hmk r12 rl
 repeat' (first | go_step)
 generalize hgq : X.heap.size = g at *
 go_loopw [6] (fun i wr => ∃ k : Nat, i = .int .i64 k ∧ k ≤ s.l.length ∧ GOwn 4 wr g (some ⟨g, 0, none⟩) s.l.length s.l.length (marksTo s x.clk k) ∧ Below g X wr) (fun i _ => s.l.length - (intOf i).toNat)
 case atStart => exact ⟨0, rfl, Nat.zero_le _, by rw [marksTo_zero]; exact Ho1.out, Hb1.out⟩
 case round =>
  obtain ⟨k, rfl, hk, hown, hbr⟩ := hrel
  have r12 : wr.cell? ⟨rb, 12, none⟩ = some (.slice L s.l.length cl) := (HO.out.step (by rw [hgq]; exact hbr)).g.cell 12
  have rl := (HO.out.step (by rw [hgq]; exact hbr)).g.lt
  by_cases hlt : k < s.l.length
  · have hbd := hbr.drew
    have hbX : Below X.heap.size X wr.drew := by rw [hgq]; exact hbd
    have hLg := HO.out.step hbX
    have r12d : wr.drew.cell? ⟨rb, 12, none⟩ = some (.slice L s.l.length cl) := hLg.g.cell 12
    obtain ⟨b, off, e, rfl, -, he, c0, c1, c2, c3, c4⟩ := hLg.l.at_ hlt
    have hqb := HX.out.step hbX
    obtain ⟨x0, x1, x2, x3, x4, x5, x6, x7, x8, x9, x10, x11, x12⟩ := cl13 (w := wr.drew) (g := w.heap.size) hqb; have xl := (hqb).lt
    have HE1 := hid (HE.out wr.drew hbd e)
    have Hmk := hid (marksTo_succ (q := x.clk) he)
    have hat := marksTo_at (q := x.clk) hlt
    have hownd := hown.step (drew_below wr)
    clear hqb hLg he
    repeat' (first | ((with_reducible refine region_at 5 ?_); refine wp_region_order (rgl [0,4,8,12,16,20,24,28,32,36,40,44,49,52,59]) (by kernel_rfl) (by kernel_rfl) (by kernel_rfl) rfl rfl ?_) | (go_at_call 154; go_must ((with_reducible refine Calls.mono HE1.out ?_); rintro _ w3 ⟨rfl, hb3⟩; obtain ⟨o1, o2, o3⟩ := own_bool (hownd.step hb3) hat; dsimp only)) | (with_reducible first | refine Keep.last ?_ | refine Keep.below (by assumption) ?_) | ((with_reducible refine WpH.here ?_); first | (refine WpH.nil ?_; refine NoP.normal ?_) | ((first | refine WpH.load (by rfl) (by rfl) (by go_simp; rfl) ?_ | refine WpH.pure (by rfl) (fun w_ => by go_simp; (try go_bits); rfl) ?_); go_frame) | (refine WpH.wild1 (by rfl) (fun _ _ => ?_))) | go_step)
    go_roundw
    case rel => exact ⟨k + 1, by go_num, by omega, by rw [← Hmk.out]; exact (hownd.step hb3).setB _ hlt, Below.setCell (bviaB hgq hbd hb3) (Nat.le_refl g) _⟩
    case measure => simp [intOf]; omega
  · obtain rfl : k = s.l.length := by omega
    rw [marksTo_all] at hown
    have hqb := HX.out.step (by rw [hgq]; exact hbr)
    obtain ⟨x0, x1, x2, x3, x4, x5, x6, x7, x8, x9, x10, x11, x12⟩ := cl13 (w := wr) (g := w.heap.size) hqb; have xl := (hqb).lt
    clear hqb
    repeat' (first | (with_reducible refine stop_region 7 ?_) | go_step)
    refine Stop.go ?_
    clear x0 x1 x2 x3 x4 x5 x6 x7 x8 x9 x10 x11 x12 xl
    clear r12 rl hlt hk
    have hgl := (hown.block _ rfl).2
    have eO : Below wr.heap.size wr (wr.alloc (.cells #[.int .i64 x.op.kind, .int .i64 x.op.at_, .int .i32 x.op.char, .int .i64 x.op.rep] 37)) := balloc (Below.refl _ _)
    have hOb := Blk.new wr 37 #[.int .i64 x.op.kind, .int .i64 x.op.at_, .int .i32 x.op.char, .int .i64 x.op.rep]
    have hownO := hown.step eO
    have hbO := bviaB hgq hbr eO
    clear hown eO hbr
    generalize wr.alloc (.cells #[.int .i64 x.op.kind, .int .i64 x.op.at_, .int .i32 x.op.char, .int .i64 x.op.rep] 37) = V at *
    generalize wr.heap.size = ob at *
    have hog : g ≤ ob := Nat.le_of_lt hgl
    have hgne : g ≠ ob := Nat.ne_of_lt hgl
    have Hown := hid hownO
    have HOb := hid hOb
    have HbO := hid hbO
    clear hownO hOb hbO
    repeat' (first | go_step)
    go_loopw [8] (fun i wt => ∃ k : Nat, i = .int .i64 k ∧ k ≤ s.acts.length ∧ GOwn 4 wt g (some ⟨g, 0, none⟩) s.l.length s.l.length (formTo s x k).1 ∧ Blk wt ob 37 (opCells (formTo s x k).2) ∧ Below g X wt) (fun i _ => s.acts.length - (intOf i).toNat)
    case atStart => exact ⟨0, rfl, Nat.zero_le _, by rw [formTo_zero]; exact Hown.out, by rw [formTo_zero]; exact HOb.out, HbO.out⟩
    case round =>
     obtain ⟨k, rfl, hk, hown, hOb, hbt⟩ := hrel
     have hLg := HO.out.step (by rw [hgq]; exact hbt)
     have r2 : wr.cell? ⟨rb, 2, none⟩ = some (.slice A s.acts.length c) := hLg.g.cell 2
     have rl := hLg.g.lt
     by_cases hlt : k < s.acts.length
     · obtain ⟨b, off, y, rfl, -, hbl, hy, hcell⟩ := (hLg.a.row (S := fun _ => True) fun _ _ _ => trivial).at_ hlt
       obtain ⟨c0, c1, c2, c3, c4, c5, c6, c7, c8, c9, c10, c11, c12⟩ := rc13 (w := wr) (b := b) (o := off + k * 13) y hcell
       clear hcell
       repeat' (first | (with_reducible refine stop_region 11 ?_) | go_step)
       refine Stop.go ?_
       have e1 : Below wr.heap.size wr (wr.alloc (.cells #[.int .i64 y.op.kind, .int .i64 y.op.at_, .int .i32 y.op.char, .int .i64 y.op.rep, .int .i64 y.num, .int .i64 y.clk.c0, .int .i64 y.clk.c1, .int .i64 y.clk.c2, .int .i64 y.clk.c3, .int .i64 y.clk.c4, .int .i64 y.clk.c5, .int .i64 y.clk.c6, .int .i64 y.clk.c7] 46)) := balloc (Below.refl _ _)
       have hyb := Blk.new wr 46 #[.int .i64 y.op.kind, .int .i64 y.op.at_, .int .i32 y.op.char, .int .i64 y.op.rep, .int .i64 y.num, .int .i64 y.clk.c0, .int .i64 y.clk.c1, .int .i64 y.clk.c2, .int .i64 y.clk.c3, .int .i64 y.clk.c4, .int .i64 y.clk.c5, .int .i64 y.clk.c6, .int .i64 y.clk.c7]
       have hown1 := hown.step e1
       have hOb1 := hOb.step e1
       have hb1 := bviaB hgq hbt e1
       have hol := hOb.lt
       clear c0 c1 c2 c3 c4 c5 c6 c7 c8 c9 c10 c11 c12 hbl hown hOb hbt e1 r2 rl hLg
       generalize wr.alloc (.cells #[.int .i64 y.op.kind, .int .i64 y.op.at_, .int .i32 y.op.char, .int .i64 y.op.rep, .int .i64 y.num, .int .i64 y.clk.c0, .int .i64 y.clk.c1, .int .i64 y.clk.c2, .int .i64 y.clk.c3, .int .i64 y.clk.c4, .int .i64 y.clk.c5, .int .i64 y.clk.c6, .int .i64 y.clk.c7] 46) = Y at *
       generalize wr.heap.size = yb at *
       have hyne : ob ≠ yb := Nat.ne_of_lt hol
       have hqb := HX.out.step (by rw [hgq]; exact hb1)
       obtain ⟨x0, x1, x2, x3, x4, x5, x6, x7, x8, x9, x10, x11, x12⟩ := cl13 (w := Y) (g := w.heap.size) hqb; have xl := (hqb).lt
       clear hqb
       have y0 : Y.cell? ⟨yb, 0, none⟩ = some (.int .i64 y.op.kind) := hyb.cell 0
       have y3 : Y.cell? ⟨yb, 3, none⟩ = some (.int .i64 y.op.rep) := hyb.cell 3
       have y4 : Y.cell? ⟨yb, 4, none⟩ = some (.int .i64 y.num) := hyb.cell 4
       have yl := hyb.lt
       have Hown1 := hid hown1
       have HOb1 := hid hOb1
       have Hyb := hid hyb
       have Hy := hid hy
       have HHy := hid (HH.out y)
       clear hown1 hOb1 hyb hy
       by_cases hkd : y.op.kind = 1
       · have hkd' : (y.op.kind != 1) = false := by simpa using hkd
         have Hkd := hid hkd
         obtain ⟨i, hi, hil⟩ := ixOf_of_mem (Hst.out y (List.mem_of_getElem? Hy.out) hkd)
         rcases hhc : hasC x.clk y.op.rep y.num with _ | _
         · rw [hhc] at HHy
           have Hm := hid (formTo_met Hy.out hkd hhc hi)
           have Hi := hid hi
           clear hkd hhc hi
           repeat' (first | (go_at_call 52; go_must ((with_reducible refine Calls.mono (HHy.out _) ?_); rintro _ w3 ⟨rfl, hb3⟩; dsimp only)) | (with_reducible refine stop_region 12 ?_) | go_guarded | go_step)
           refine Stop.go ?_
           have b3 := bviaB hgq hb1 hb3
           have b3d := b3.drew
           have hyd := (Hyb.out.step hb3).step (drew_below w3)
           have hLd := HO.out.step (by rw [hgq]; exact b3d)
           have d12 : w3.drew.cell? ⟨rb, 12, none⟩ = some (.slice L s.l.length cl) := hLd.g.cell 12
           have dl := hLd.g.lt
           obtain ⟨d0, d1, d2, d3, d4, d5, d6, d7, d8, d9, d10, d11, d13⟩ := cl13 (w := w3.drew) (g := yb) hyd; have dyl := (hyd).lt
           have HN1 := hid (HN.out w3.drew b3d y)
           clear x0 x1 x2 x3 x4 x5 x6 x7 x8 x9 x10 x11 x12 xl
           clear y0 y3 y4 yl hLd hyd
           repeat' (first | ((with_reducible refine region_at 12 ?_); refine wp_region_order (rgl [0,4,8,12,16,20,25,29,32]) (by kernel_rfl) (by kernel_rfl) (by kernel_rfl) rfl rfl ?_) | (go_at_call 140; go_must ((with_reducible refine Calls.mono HN1.out ?_); rintro _ w4 ⟨rfl, hb4⟩; have b4 := bviaB hgq b3d hb4; have HI1 := hid (HI.out w4 b4 (s.name y) i Hi.out); dsimp only)) | (go_at_call 29; go_must ((with_reducible refine Calls.mono HI1.out ?_); rintro _ w5 ⟨rfl, hb5⟩; have b5 := bviaB hgq b4 hb5; dsimp only)) | (with_reducible refine stop_region 14 ?_) | (with_reducible refine Keep.below (by assumption) ?_) | ((with_reducible refine WpH.here ?_); first | (refine WpH.nil ?_; refine NoP.normal ?_) | ((first | refine WpH.load (by rfl) (by rfl) (by go_simp; rfl) ?_ | refine WpH.pure (by rfl) (fun w_ => by go_simp; (try go_bits); rfl) ?_); go_frame) | (refine WpH.wild1 (by rfl) (fun _ _ => ?_))) | go_step)
           refine Stop.go ?_
           clear d0 d1 d2 d3 d4 d5 d6 d7 d8 d9 d10 d11 d12 d13 dl HN1 HI1
           have e35 : Below w3.heap.size w3 w5 := (bvia (drew_below w3) (bvia hb4 hb5))
           have hown5 := (Hown1.out.step hb3).step e35
           have hOb5 := (HOb1.out.step hb3).step e35
           have hyb5 := (Hyb.out.step hb3).step e35
           obtain ⟨R, hR⟩ : ∃ R, R = formTo s x k := ⟨_, rfl⟩
           rw [← hR] at hown5 hOb5
           have hRl : R.1.length = s.l.length := by rw [hR]; exact formTo_len s x k
           have hRin : R.2.In := by rw [hR]; exact formTo_in s x k Hx.out
           have hm2 := Hm.out
           rw [← hR] at hm2
           have Hm2 := hid hm2
           have Hown5 := hid hown5
           have HOb5 := hid hOb5
           have Hyb5 := hid hyb5
           have Hin := hid hRin
           clear hR hm2 hown5 hOb5 hyb5 Hm Hi hRin Hown1 HOb1 Hyb b3 b3d b4 hb3 hb4 hb5 e35 hb1
           repeat' (first | go_step)
           go_loopw [11, 12] (fun q j wq => ∃ m : Nat, q = .int .i64 ((countT R.1 m : Nat) : Int) ∧ j = .int .i64 m ∧ m ≤ i ∧ wq = w5) (fun _ j _ => i - (intOf j).toNat)
           case atStart => exact ⟨0, by simp [countT], rfl, Nat.zero_le _, rfl⟩
           case round =>
            obtain ⟨m, rfl, rfl, hm, hwq⟩ := hrel
            subst hwq
            have hcl := countT_le R.1 m
            by_cases hmi : m < i
            · obtain ⟨v, hv⟩ : ∃ v, R.1[m]? = some v := ⟨_, List.getElem?_eq_getElem (by omega)⟩
              obtain ⟨o1, o2, o3⟩ := own_bool Hown5.out hv
              have Hcs := hid (countT_succ hv)
              obtain ⟨p, hp⟩ : ∃ p, p = countT R.1 m := ⟨_, rfl⟩
              have hpb : p ≤ 1048576 := by omega
              rw [← hp] at Hcs ⊢
              clear hp hv hcl
              rcases v with _ | _
              · repeat' (first | go_step)
                go_roundw
                case rel => exact ⟨m + 1, by rw [Hcs.out]; rfl, by go_num, by omega, trivial⟩
                case measure => simp [intOf]; omega
              · repeat' (first | go_step)
                go_roundw
                case rel => exact ⟨m + 1, by rw [Hcs.out, if_pos rfl]; go_num, by go_num, by omega, trivial⟩
                case measure => simp [intOf]; omega
            · obtain rfl : m = i := by omega
              obtain ⟨v, hv⟩ : ∃ v, R.1[m]? = some v := ⟨_, List.getElem?_eq_getElem (by omega)⟩
              obtain ⟨p, hp⟩ : ∃ p, p = countT R.1 m := ⟨_, rfl⟩
              rw [← hp] at Hm2 ⊢
              have HT1 := hid (HT.out R.2 ⟨1, (p : Int), 0, y.op.rep⟩ Hin.out)
              dsimp only at HT1
              obtain ⟨F, hF⟩ : ∃ F, F = Tof R.2 ⟨1, (p : Int), 0, y.op.rep⟩ := ⟨_, rfl⟩
              rw [← hF] at HT1 Hm2
              have hob5 := HOb5.out
              unfold opCells at hob5
              have o0 := hob5.cell 0
              have o1 := hob5.cell 1
              have o2 := hob5.cell 2
              have o3 := hob5.cell 3
              have ol := hob5.lt
              simp at o0 o1 o2 o3
              have y3 : wr.cell? ⟨yb, 3, none⟩ = some (.int .i64 y.op.rep) := Hyb5.out.cell 3
              have yl := Hyb5.out.lt
              have Hob5 := hid hob5
              clear hcl hp hF hob5 hmi hm
              repeat' (first | (go_at_call 53; go_must ((with_reducible refine Calls.mono (HT1.out _) ?_); rintro _ w6 ⟨rfl, hb6⟩; have ho6 := Hob5.out.step hb6; obtain ⟨n1, n2, n3⟩ := own_bool (Hown5.out.step hb6) hv; obtain ⟨ql, q0, q1, q2, q3, fo0, fo1, fo2, fo3⟩ := bl4 ho6; dsimp only)) | go_step)
              go_roundw
              case rel =>
               have hgb := ((((bviaB hgq b5 hb6).setCell hog (.int .i64 F.kind) (p := ⟨ob, 0, none⟩)).setCell hog (.int .i64 F.at_) (p := ⟨ob, 1, none⟩)).setCell hog (.int .i32 F.char) (p := ⟨ob, 2, none⟩)).setCell hog (.int .i64 F.rep) (p := ⟨ob, 3, none⟩)
               refine ⟨k + 1, by go_num, by omega, ?_, ?_, Below.setCell hgb (Nat.le_refl g) _⟩
               · rw [Hm2.out]
                 refine GOwn.setB (GOwn.keep (Hown5.out.step hb6) (S := fun b => b ≠ ob) ?_ fun _ hx => by injection hx with hx; subst hx; exact hgne) true hil
                 exact fun b hb _ => (Below.heap_setCell _ _ _ _ hb).trans ((Below.heap_setCell _ _ _ _ hb).trans ((Below.heap_setCell _ _ _ _ hb).trans (Below.heap_setCell _ _ _ _ hb)))
               · rw [Hm2.out]
                 exact ((((ho6.set_ 0 (.int .i64 F.kind)).set_ 1 (.int .i64 F.at_)).set_ 2 (.int .i32 F.char)).set_ 3 (.int .i64 F.rep)).far hgne.symm _
              case measure => simp [intOf]; omega
         · rw [hhc] at HHy
           have Hm := hid (formTo_had Hy.out hhc)
           clear hkd hhc hi
           repeat' (first | (go_at_call 52; go_must ((with_reducible refine Calls.mono (HHy.out _) ?_); rintro _ w3 ⟨rfl, hb3⟩; dsimp only)) | go_guarded | go_step)
           go_roundw
           case rel => exact ⟨k + 1, by go_num, by omega, by rw [Hm.out]; exact Hown1.out.step hb3, by rw [Hm.out]; exact HOb1.out.step hb3, bviaB hgq hb1 hb3⟩
           case measure => simp [intOf]; omega
       · have hkd' : (y.op.kind != 1) = true := by simpa using hkd
         have Hm := hid (formTo_other (x := x) Hy.out hkd)
         clear hkd
         repeat' (first | go_guarded | go_step)
         go_roundw
         case rel => exact ⟨k + 1, by go_num, by omega, by rw [Hm.out]; exact Hown1.out, by rw [Hm.out]; exact HOb1.out, hb1⟩
         case measure => simp [intOf]; omega
     · obtain rfl : k = s.acts.length := by omega
       rw [← HF.out] at hOb
       unfold opCells at hOb
       have o0 := hOb.cell 0
       have o1 := hOb.cell 1
       have o2 := hOb.cell 2
       have o3 := hOb.cell 3
       have ol := hOb.lt
       simp at o0 o1 o2 o3
       have hrs := HY.out.step (by rw [hgq]; exact hbt)
       obtain ⟨zl, z0, z1, z2, z3, f0, f1, f2, f3⟩ := bl4 hrs
       repeat' (first | go_step)
       have hz := (((hrs.set_ 0 (.int .i64 f.kind)).set_ 1 (.int .i64 f.at_)).set_ 2 (.int .i32 f.char)).set_ 3 (.int .i64 f.rep)
       have v0 := hz.cell 0
       have v1 := hz.cell 1
       have v2 := hz.cell 2
       have v3 := hz.cell 3
       simp at v0 v1 v2 v3
       refine bodyPost_ret (v := .agg #[.int .i64 f.kind, .int .i64 f.at_, .int .i32 f.char, .int .i64 f.rep]) (by simp [results, Tryz.results138, go_sem, v0, v1, v2, v3]) rfl ⟨rfl, ?_⟩
       have hfin := bvia e0 (by rw [hgq]; exact hbt)
       refine bset (bset (bset (bset hfin ?_) ?_) ?_) ?_ <;> (show w.heap.size ≤ w.heap.size + 1; omega)
variable {a : Nat → Addr}
def whyV (a : Nat → Addr) (n : Nat) : Value := if n = 0 then .nilIface else reason (a n)
theorem rightOp_rep8 {o : Opn} (h : rightOp o = true) : ∃ k : Nat, o.rep = k ∧ k < 8 := by
 unfold rightOp at h
 by_cases h4 : o.rep < 0 ∨ 8 ≤ o.rep
 · rw [if_pos h4] at h; cases h
 · exact ⟨o.rep.toNat, by omega, by omega⟩
theorem refused8_any (w : World) (gb bm mb c d K : Nat) (A B : Option Addr) (SM S' : Nat → Prop) (s : Lg) (x : Actn) (h : LgIn w gb bm mb A c B d SM s K) (hb : s.base.length ≤ 1048576) (ha : s.acts.length ≤ 1048576) (hk : s.clk.In) (hx : x.In) (hs : Sents w S' a) :
 Calls Tryz.prog 76 #[.pointer (some ⟨gb, 0, none⟩), x.agg] w fun e w' => e = .returned (whyV a (s.why x)) ∧ Below w.heap.size w w' := by
 have e0 : Below w.heap.size w (w.alloc (.cells x.vals 46)) := balloc (Below.refl _ _)
 have hX0 := Blk.new w 46 x.vals
 have h0 := h.step e0
 have HX := hid hX0
 have HG := hid h0
 have HS := hid (hs.step e0)
 have HR := hid (fun W => rightOp_any x.op W)
 have HV := hid (fun W => valid_any x.clk W)
 have HH := hid (fun W => has_any s.clk x.op.rep x.num W)
 have HY := hid (fun W => ready_any s.clk x W hk)
 have HC := hid (fun W (hbb : Below (w.alloc (.cells x.vals 46)).heap.size (w.alloc (.cells x.vals 46)) W) => context_any W gb bm mb c d K A B SM s x.clk (h0.step hbb) hb ha)
 have HO := hid (fun W => validOp_any x.op (s.ctx x.clk) W)
 have hnum : -9223372036854775808 ≤ x.num ∧ x.num ≤ 9223372036854775807 := hx.num
 obtain ⟨v, hv⟩ : ∃ v, v = s.why x := ⟨_, rfl⟩
 rw [← hv]
 unfold Lg.why at hv
 have Hv := hid hv
 clear h h0 hX0 hs hv hb ha hk hx
 simp only [Actn.agg, Opn.agg, Clk.agg] at *
 unfold Actn.vals Clk.vals at *
 go_enter Tryz.func76, Tryz.ntmps76
 repeat' (first | (with_reducible refine stop_region 1 ?_) | go_step)
 refine Stop.go ?_
 generalize w.alloc (.cells #[.int .i64 x.op.kind, .int .i64 x.op.at_, .int .i32 x.op.char, .int .i64 x.op.rep, .int .i64 x.num, .int .i64 x.clk.c0, .int .i64 x.clk.c1, .int .i64 x.clk.c2, .int .i64 x.clk.c3, .int .i64 x.clk.c4, .int .i64 x.clk.c5, .int .i64 x.clk.c6, .int .i64 x.clk.c7] 46) = X at *
 have D := Below.refl X.heap.size X
 have hy := HX.out.step D
 obtain ⟨x0, x1, x2, x3, x4, x5, x6, x7, x8, x9, x10, x11, x12⟩ := cl13 (w := X) (g := w.heap.size) hy; have xl := (hy).lt
 repeat' (first | (with_reducible refine stop_region 2 ?_) | go_step)
 refine Stop.go ?_
 clear x0 x1 x2 x3 x4 x5 x6 x7 x8 x9 x10 x11 x12 xl
 clear D hy
 have D := drew_below X
 have hy := HX.out.step D
 obtain ⟨x0, x1, x2, x3, x4, x5, x6, x7, x8, x9, x10, x11, x12⟩ := cl13 (w := X.drew) (g := w.heap.size) hy; have xl := (hy).lt
 have Hnum := hid hnum
 clear hnum
 rcases hr : rightOp x.op with _ | _
 · rw [hr] at HR
   have Hr := hid hr
   clear hr
   repeat' (first | ((with_reducible refine region_at 2 ?_); refine wp_region_ordT (fun _ => True) (rgo [0,4,9,12,16,20,24,28,32,36,40,44,49,52,56,60,64,68,72,76,80,84,88,92,96,100] .nil) (by kernel_rfl) (by kernel_rfl) (by kernel_rfl) rfl rfl ?_) | (go_at_call 64; go_must ((with_reducible refine Calls.mono (HR.out _) ?_); rintro _ w1 ⟨rfl, hb1⟩; have D1 := bvia D hb1; have hy := HX.out.step D1; clear x0 x1 x2 x3 x4 x5 x6 x7 x8 x9 x10 x11 x12 xl; obtain ⟨x0, x1, x2, x3, x4, x5, x6, x7, x8, x9, x10, x11, x12⟩ := cl13 (w := w1) (g := w.heap.size) hy; have xl := (hy).lt; dsimp only)) | (with_reducible refine stop_region 3 ?_) | (with_reducible refine Keep.below (by assumption) ?_) | ((with_reducible refine WpO.here ?_); first | (refine WpO.done ?_; refine NoP.normal ?_) | ((first | refine WpO.load (by rfl) (by rfl) (by go_simp; rfl) ?_ | refine WpO.pure (by rfl) (fun w_ => by go_simp; (try go_bits); rfl) ?_ | refine WpO.skip (by rfl) ?_); go_frame) | refine WpO.wild ?_) | ((with_reducible refine wildO.here ?_); (refine wildO.go (by rfl) (fun _ _ => ?_))) | go_step)
   refine Stop.go ?_
   have sN := (HS.out.step D1).cell 6 (by omega) (by omega)
   simp only [gOf, reason] at sN
   repeat' (first | go_step)
   go_ret
   rw [show v = 6 from by rw [Hv.out]; exact if_pos (.inl Hr.out)]
   exact ⟨rfl, bvia e0 D1⟩
 · rw [hr] at HR
   have Hr := hid hr
   obtain ⟨k, hk, hk8⟩ := rightOp_rep8 hr
   have hk' : (k : Int) < 8 := by omega
   clear hr
   rw [hk] at HR HH
   simp only [hk] at HY HO
   by_cases hn : x.num < 1
   · repeat' (first | ((with_reducible refine region_at 2 ?_); refine wp_region_ordT (fun _ => True) (rgo [0,4,9,12,16,20,24,28,32,36,40,44,49,52,56,60,64,68,72,76,80,84,88,92,96,100] .nil) (by kernel_rfl) (by kernel_rfl) (by kernel_rfl) rfl rfl ?_) | (go_at_call 64; go_must ((with_reducible refine Calls.mono (HR.out _) ?_); rintro _ w1 ⟨rfl, hb1⟩; have D1 := bvia D hb1; have hy := HX.out.step D1; clear x0 x1 x2 x3 x4 x5 x6 x7 x8 x9 x10 x11 x12 xl; obtain ⟨x0, x1, x2, x3, x4, x5, x6, x7, x8, x9, x10, x11, x12⟩ := cl13 (w := w1) (g := w.heap.size) hy; have xl := (hy).lt; dsimp only)) | (with_reducible refine stop_region 3 ?_) | (with_reducible refine Keep.below (by assumption) ?_) | ((with_reducible refine WpO.here ?_); first | (refine WpO.done ?_; refine NoP.normal ?_) | ((first | refine WpO.load (by rfl) (by rfl) (by go_simp; rfl) ?_ | refine WpO.pure (by rfl) (fun w_ => by go_simp; (try go_bits); rfl) ?_ | refine WpO.skip (by rfl) ?_); go_frame) | refine WpO.wild ?_) | ((with_reducible refine wildO.here ?_); (refine wildO.go (by rfl) (fun _ _ => ?_))) | go_step)
     refine Stop.go ?_
     have sN := (HS.out.step D1).cell 6 (by omega) (by omega)
     simp only [gOf, reason] at sN
     repeat' (first | go_step)
     go_ret
     rw [show v = 6 from by rw [Hv.out]; exact if_pos (.inr (.inl hn))]
     exact ⟨rfl, bvia e0 D1⟩
   · have hn0 := Hnum.out
     rcases hva : validC x.clk with _ | _
     · rw [hva] at HV
       have Hva := hid hva
       clear hva hn0
       repeat' (first | ((with_reducible refine region_at 2 ?_); refine wp_region_ordT (fun _ => True) (rgo [0,4,9,12,16,20,24,28,32,36,40,44,49,52,56,60,64,68,72,76,80,84,88,92,96,100] .nil) (by kernel_rfl) (by kernel_rfl) (by kernel_rfl) rfl rfl ?_) | (go_at_call 64; go_must ((with_reducible refine Calls.mono (HR.out _) ?_); rintro _ w1 ⟨rfl, hb1⟩; have D1 := bvia D hb1; have hy := HX.out.step D1; clear x0 x1 x2 x3 x4 x5 x6 x7 x8 x9 x10 x11 x12 xl; obtain ⟨x0, x1, x2, x3, x4, x5, x6, x7, x8, x9, x10, x11, x12⟩ := cl13 (w := w1) (g := w.heap.size) hy; have xl := (hy).lt; dsimp only)) | (go_at_call 109; go_must ((with_reducible refine Calls.mono (HV.out _) ?_); rintro _ w2 ⟨rfl, hb2⟩; have D2 := bvia D1 hb2; have hy := HX.out.step D2; clear x0 x1 x2 x3 x4 x5 x6 x7 x8 x9 x10 x11 x12 xl; obtain ⟨x0, x1, x2, x3, x4, x5, x6, x7, x8, x9, x10, x11, x12⟩ := cl13 (w := w2) (g := w.heap.size) hy; have xl := (hy).lt; (try have xk : w2.cell? ⟨w.heap.size, 5 + k, none⟩ = some (.int .i64 (x.clk.get k)) := (hy.cell (5 + k)).trans (x.vals_clk hk8)); dsimp only)) | (with_reducible refine stop_region 3 ?_) | (with_reducible refine Keep.below (by assumption) ?_) | ((with_reducible refine WpO.here ?_); first | (refine WpO.done ?_; refine NoP.normal ?_) | ((first | refine WpO.load (by rfl) (by rfl) (by go_simp; rfl) ?_ | refine WpO.pure (by rfl) (fun w_ => by go_simp; (try go_bits); rfl) ?_ | refine WpO.skip (by rfl) ?_); go_frame) | refine WpO.wild ?_) | ((with_reducible refine wildO.here ?_); (refine wildO.go (by rfl) (fun _ _ => ?_))) | go_step)
       refine Stop.go ?_
       have sN := (HS.out.step D2).cell 6 (by omega) (by omega)
       simp only [gOf, reason] at sN
       repeat' (first | go_step)
       go_ret
       rw [show v = 6 from by rw [Hv.out]; exact if_pos (.inr (.inr (.inl Hva.out)))]
       exact ⟨rfl, bvia e0 D2⟩
     · rw [hva] at HV
       have Hva := hid hva
       clear hva
       have hkt : x.op.rep.toNat = k := by rw [hk]; rfl
       by_cases hc : x.clk.get k = x.num - 1
       · have hcd : (x.clk.get k != x.num - 1) = false := by simpa using hc
         have Hc1 := hid (show ¬ (rightOp x.op = false ∨ x.num < 1 ∨ validC x.clk = false ∨ x.clk.get x.op.rep.toNat ≠ x.num - 1) by
          rintro (h | h | h | h)
          · rw [Hr.out] at h; cases h
          · exact hn h
          · rw [Hva.out] at h; cases h
          · rw [hkt] at h; exact h hc)
         clear hc hkt
         repeat' (first | ((with_reducible refine region_at 2 ?_); refine wp_region_ordT (fun _ => True) (rgo [0,4,9,12,16,20,24,28,32,36,40,44,49,52,56,60,64,68,72,76,80,84,88,92,96,100] .nil) (by kernel_rfl) (by kernel_rfl) (by kernel_rfl) rfl rfl ?_) | (go_at_call 64; go_must ((with_reducible refine Calls.mono (HR.out _) ?_); rintro _ w1 ⟨rfl, hb1⟩; have D1 := bvia D hb1; have hy := HX.out.step D1; clear x0 x1 x2 x3 x4 x5 x6 x7 x8 x9 x10 x11 x12 xl; obtain ⟨x0, x1, x2, x3, x4, x5, x6, x7, x8, x9, x10, x11, x12⟩ := cl13 (w := w1) (g := w.heap.size) hy; have xl := (hy).lt; dsimp only)) | (go_at_call 109; go_must ((with_reducible refine Calls.mono (HV.out _) ?_); rintro _ w2 ⟨rfl, hb2⟩; have D2 := bvia D1 hb2; have hy := HX.out.step D2; clear x0 x1 x2 x3 x4 x5 x6 x7 x8 x9 x10 x11 x12 xl; obtain ⟨x0, x1, x2, x3, x4, x5, x6, x7, x8, x9, x10, x11, x12⟩ := cl13 (w := w2) (g := w.heap.size) hy; have xl := (hy).lt; (try have xk : w2.cell? ⟨w.heap.size, 5 + k, none⟩ = some (.int .i64 (x.clk.get k)) := (hy.cell (5 + k)).trans (x.vals_clk hk8)); dsimp only)) | (with_reducible refine stop_region 4 ?_) | (with_reducible refine Keep.below (by assumption) ?_) | ((with_reducible refine WpO.here ?_); first | (refine WpO.done ?_; refine NoP.normal ?_) | ((first | refine WpO.load (by rfl) (by rfl) (by go_simp; rfl) ?_ | refine WpO.pure (by rfl) (fun w_ => by go_simp; (try go_bits); rfl) ?_); go_frame) | refine WpO.wild ?_) | ((with_reducible refine wildO.here ?_); (refine wildO.go (by rfl) (fun _ _ => ?_))) | go_step)
         refine Stop.go ?_
         have D4 := bvia D2 (drew_below w2)
         clear x0 x1 x2 x3 x4 x5 x6 x7 x8 x9 x10 x11 x12 xl
         clear hy hcd hn0 hn D1 D hb1 hb2 HV HR
         have hy := HX.out.step D4
         have hg := (HG.out.step D4).g
         obtain ⟨x0, x1, x2, x3, x4, x5, x6, x7, x8, x9, x10, x11, x12⟩ := cl13 (w := w2.drew) (g := w.heap.size) hy; have xl := (hy).lt
         have g5 : w2.drew.cell? ⟨gb, 5, none⟩ = some (.int .i64 s.clk.c0) := (hg).cell 5; have g6 : w2.drew.cell? ⟨gb, 6, none⟩ = some (.int .i64 s.clk.c1) := (hg).cell 6; have g7 : w2.drew.cell? ⟨gb, 7, none⟩ = some (.int .i64 s.clk.c2) := (hg).cell 7; have g8 : w2.drew.cell? ⟨gb, 8, none⟩ = some (.int .i64 s.clk.c3) := (hg).cell 8; have g9 : w2.drew.cell? ⟨gb, 9, none⟩ = some (.int .i64 s.clk.c4) := (hg).cell 9; have g10 : w2.drew.cell? ⟨gb, 10, none⟩ = some (.int .i64 s.clk.c5) := (hg).cell 10; have g11 : w2.drew.cell? ⟨gb, 11, none⟩ = some (.int .i64 s.clk.c6) := (hg).cell 11; have g12 : w2.drew.cell? ⟨gb, 12, none⟩ = some (.int .i64 s.clk.c7) := (hg).cell 12; have gl := (hg).lt
         clear hg xk
         rcases hh : hasC s.clk x.op.rep x.num with _ | _
         · have Hh := hid hh
           rw [hk] at hh
           rw [hh] at HH
           clear hh
           repeat' (first | ((with_reducible refine region_at 4 ?_); refine wp_region_order (rgl [0,4,8,12,16,20,24,29,32]) (by kernel_rfl) (by kernel_rfl) (by kernel_rfl) rfl rfl ?_) | (go_at_call 79; go_must ((with_reducible refine Calls.mono (HH.out _) ?_); rintro _ w3 ⟨rfl, hb3⟩; have D3 := bvia D4 hb3; dsimp only)) | (with_reducible refine stop_region 6 ?_) | (with_reducible refine Keep.below (by assumption) ?_) | ((with_reducible refine WpH.here ?_); first | (refine WpH.nil ?_; refine NoP.normal ?_) | ((first | refine WpH.load (by rfl) (by rfl) (by go_simp; rfl) ?_ | refine WpH.pure (by rfl) (fun w_ => by go_simp; (try go_bits); rfl) ?_); go_frame) | (refine WpH.wild1 (by rfl) (fun _ _ => ?_))) | go_step)
           refine Stop.go ?_
           have D6 := bvia D3 (drew_below w3)
           clear x0 x1 x2 x3 x4 x5 x6 x7 x8 x9 x10 x11 x12 xl
           clear hy g5 g6 g7 g8 g9 g10 g11 g12 gl D4 hb3 HH
           have hy := HX.out.step D6
           have hg := (HG.out.step D6).g
           obtain ⟨x0, x1, x2, x3, x4, x5, x6, x7, x8, x9, x10, x11, x12⟩ := cl13 (w := w3.drew) (g := w.heap.size) hy; have xl := (hy).lt
           have g5 : w3.drew.cell? ⟨gb, 5, none⟩ = some (.int .i64 s.clk.c0) := (hg).cell 5; have g6 : w3.drew.cell? ⟨gb, 6, none⟩ = some (.int .i64 s.clk.c1) := (hg).cell 6; have g7 : w3.drew.cell? ⟨gb, 7, none⟩ = some (.int .i64 s.clk.c2) := (hg).cell 7; have g8 : w3.drew.cell? ⟨gb, 8, none⟩ = some (.int .i64 s.clk.c3) := (hg).cell 8; have g9 : w3.drew.cell? ⟨gb, 9, none⟩ = some (.int .i64 s.clk.c4) := (hg).cell 9; have g10 : w3.drew.cell? ⟨gb, 10, none⟩ = some (.int .i64 s.clk.c5) := (hg).cell 10; have g11 : w3.drew.cell? ⟨gb, 11, none⟩ = some (.int .i64 s.clk.c6) := (hg).cell 11; have g12 : w3.drew.cell? ⟨gb, 12, none⟩ = some (.int .i64 s.clk.c7) := (hg).cell 12; have gl := (hg).lt
           clear hg
           rcases hrd : readyC s.clk x with _ | _
           · rw [hrd] at HY
             have Hrd := hid hrd
             clear hrd
             repeat' (first | ((with_reducible refine region_at 6 ?_); refine wp_region_order (rgl [0,4,8,12,16,21,24,28]) (by kernel_rfl) (by kernel_rfl) (by kernel_rfl) rfl rfl ?_) | (go_at_call 110; go_must ((with_reducible refine Calls.mono (HY.out _) ?_); rintro _ w5 ⟨rfl, hb5⟩; have D5 := bvia D6 hb5; dsimp only)) | (with_reducible refine stop_region 7 ?_) | (with_reducible refine Keep.below (by assumption) ?_) | ((with_reducible refine WpH.here ?_); first | (refine WpH.nil ?_; refine NoP.normal ?_) | ((first | refine WpH.load (by rfl) (by rfl) (by go_simp; rfl) ?_ | refine WpH.pure (by rfl) (fun w_ => by go_simp; (try go_bits); rfl) ?_); go_frame) | (refine WpH.wild1 (by rfl) (fun _ _ => ?_))) | go_step)
             refine Stop.go ?_
             have sN := (HS.out.step D5).cell 8 (by omega) (by omega)
             simp only [gOf, reason] at sN
             repeat' (first | go_step)
             go_ret
             rw [show v = 8 from by rw [Hv.out]; exact (if_neg Hc1.out).trans ((if_neg (by rw [Hh.out]; simp)).trans (if_pos Hrd.out))]
             exact ⟨rfl, bvia e0 D5⟩
           · rw [hrd] at HY
             have Hrd := hid hrd
             clear hrd
             repeat' (first | ((with_reducible refine region_at 6 ?_); refine wp_region_order (rgl [0,4,8,12,16,21,24,28]) (by kernel_rfl) (by kernel_rfl) (by kernel_rfl) rfl rfl ?_) | (go_at_call 110; go_must ((with_reducible refine Calls.mono (HY.out _) ?_); rintro _ w5 ⟨rfl, hb5⟩; have D5 := bvia D6 hb5; dsimp only)) | (with_reducible refine stop_region 8 ?_) | (with_reducible refine Keep.below (by assumption) ?_) | ((with_reducible refine WpH.here ?_); first | (refine WpH.nil ?_; refine NoP.normal ?_) | ((first | refine WpH.load (by rfl) (by rfl) (by go_simp; rfl) ?_ | refine WpH.pure (by rfl) (fun w_ => by go_simp; (try go_bits); rfl) ?_); go_frame) | (refine WpH.wild1 (by rfl) (fun _ _ => ?_))) | go_step)
             refine Stop.go ?_
             have D8 := bvia D5 (drew_below w5)
             clear x0 x1 x2 x3 x4 x5 x6 x7 x8 x9 x10 x11 x12 xl
             clear hy g5 g6 g7 g8 g9 g10 g11 g12 gl D6 hb5 HY
             have hy := HX.out.step D8
             obtain ⟨x0, x1, x2, x3, x4, x5, x6, x7, x8, x9, x10, x11, x12⟩ := cl13 (w := w5.drew) (g := w.heap.size) hy; have xl := (hy).lt
             rcases hvo : validOp x.op (s.ctx x.clk) with _ | _
             · rw [hvo] at HO
               have Hvo := hid hvo
               clear hvo
               repeat' (first | ((with_reducible refine region_at 8 ?_); refine wp_region_order (rgl [0,4,8,12,16,21,25,28,32]) (by kernel_rfl) (by kernel_rfl) (by kernel_rfl) rfl rfl ?_) | (go_at_call 41; go_must ((with_reducible refine Calls.mono (HC.out _ D8) ?_); rintro _ w6 ⟨rfl, hb6⟩; have D7 := bvia D8 hb6; dsimp only)) | (go_at_call 111; go_must ((with_reducible refine Calls.mono (HO.out _) ?_); rintro _ w7 ⟨rfl, hb7⟩; have D9 := bvia D7 hb7; dsimp only)) | (with_reducible refine stop_region 9 ?_) | (with_reducible refine Keep.below (by assumption) ?_) | ((with_reducible refine WpH.here ?_); first | (refine WpH.nil ?_; refine NoP.normal ?_) | ((first | refine WpH.load (by rfl) (by rfl) (by go_simp; rfl) ?_ | refine WpH.pure (by rfl) (fun w_ => by go_simp; (try go_bits); rfl) ?_); go_frame) | (refine WpH.wild1 (by rfl) (fun _ _ => ?_))) | go_step)
               refine Stop.go ?_
               have sN := (HS.out.step D9).cell 2 (by omega) (by omega)
               simp only [gOf, reason] at sN
               repeat' (first | go_step)
               go_ret
               rw [show v = 2 from by rw [Hv.out]; exact (if_neg Hc1.out).trans ((if_neg (by rw [Hh.out]; simp)).trans ((if_neg (by rw [Hrd.out]; simp)).trans (if_pos Hvo.out)))]
               exact ⟨rfl, bvia e0 D9⟩
             · rw [hvo] at HO
               have Hvo := hid hvo
               clear hvo
               repeat' (first | ((with_reducible refine region_at 8 ?_); refine wp_region_order (rgl [0,4,8,12,16,21,25,28,32]) (by kernel_rfl) (by kernel_rfl) (by kernel_rfl) rfl rfl ?_) | (go_at_call 41; go_must ((with_reducible refine Calls.mono (HC.out _ D8) ?_); rintro _ w6 ⟨rfl, hb6⟩; have D7 := bvia D8 hb6; dsimp only)) | (go_at_call 111; go_must ((with_reducible refine Calls.mono (HO.out _) ?_); rintro _ w7 ⟨rfl, hb7⟩; have D9 := bvia D7 hb7; dsimp only)) | (with_reducible refine Keep.below (by assumption) ?_) | ((with_reducible refine WpH.here ?_); first | (refine WpH.nil ?_; refine NoP.normal ?_) | ((first | refine WpH.load (by rfl) (by rfl) (by go_simp; rfl) ?_ | refine WpH.pure (by rfl) (fun w_ => by go_simp; (try go_bits); rfl) ?_); go_frame) | (refine WpH.wild1 (by rfl) (fun _ _ => ?_))) | go_step)
               go_ret
               rw [show v = 0 from by rw [Hv.out]; exact (if_neg Hc1.out).trans ((if_neg (by rw [Hh.out]; simp)).trans ((if_neg (by rw [Hrd.out]; simp)).trans (if_neg (by rw [Hvo.out]; simp))))]
               exact ⟨rfl, bvia e0 D9⟩
         · have Hh := hid hh
           rw [hk] at hh
           rw [hh] at HH
           clear hh
           repeat' (first | ((with_reducible refine region_at 4 ?_); refine wp_region_order (rgl [0,4,8,12,16,20,24,29,32]) (by kernel_rfl) (by kernel_rfl) (by kernel_rfl) rfl rfl ?_) | (go_at_call 79; go_must ((with_reducible refine Calls.mono (HH.out _) ?_); rintro _ w3 ⟨rfl, hb3⟩; have D3 := bvia D4 hb3; dsimp only)) | (with_reducible refine stop_region 5 ?_) | (with_reducible refine Keep.below (by assumption) ?_) | ((with_reducible refine WpH.here ?_); first | (refine WpH.nil ?_; refine NoP.normal ?_) | ((first | refine WpH.load (by rfl) (by rfl) (by go_simp; rfl) ?_ | refine WpH.pure (by rfl) (fun w_ => by go_simp; (try go_bits); rfl) ?_); go_frame) | (refine WpH.wild1 (by rfl) (fun _ _ => ?_))) | go_step)
           refine Stop.go ?_
           have sN := (HS.out.step D3).cell 9 (by omega) (by omega)
           simp only [gOf, reason] at sN
           repeat' (first | go_step)
           go_ret
           rw [show v = 9 from by rw [Hv.out]; exact (if_neg Hc1.out).trans (if_pos Hh.out)]
           exact ⟨rfl, bvia e0 D3⟩
       · have hcd : (x.clk.get k != x.num - 1) = true := by simpa using hc
         have Hc := hid (show x.clk.get x.op.rep.toNat ≠ x.num - 1 by rw [hkt]; exact hc)
         clear hc hkt
         repeat' (first | ((with_reducible refine region_at 2 ?_); refine wp_region_ordT (fun _ => True) (rgo [0,4,9,12,16,20,24,28,32,36,40,44,49,52,56,60,64,68,72,76,80,84,88,92,96,100] .nil) (by kernel_rfl) (by kernel_rfl) (by kernel_rfl) rfl rfl ?_) | (go_at_call 64; go_must ((with_reducible refine Calls.mono (HR.out _) ?_); rintro _ w1 ⟨rfl, hb1⟩; have D1 := bvia D hb1; have hy := HX.out.step D1; clear x0 x1 x2 x3 x4 x5 x6 x7 x8 x9 x10 x11 x12 xl; obtain ⟨x0, x1, x2, x3, x4, x5, x6, x7, x8, x9, x10, x11, x12⟩ := cl13 (w := w1) (g := w.heap.size) hy; have xl := (hy).lt; dsimp only)) | (go_at_call 109; go_must ((with_reducible refine Calls.mono (HV.out _) ?_); rintro _ w2 ⟨rfl, hb2⟩; have D2 := bvia D1 hb2; have hy := HX.out.step D2; clear x0 x1 x2 x3 x4 x5 x6 x7 x8 x9 x10 x11 x12 xl; obtain ⟨x0, x1, x2, x3, x4, x5, x6, x7, x8, x9, x10, x11, x12⟩ := cl13 (w := w2) (g := w.heap.size) hy; have xl := (hy).lt; (try have xk : w2.cell? ⟨w.heap.size, 5 + k, none⟩ = some (.int .i64 (x.clk.get k)) := (hy.cell (5 + k)).trans (x.vals_clk hk8)); dsimp only)) | (with_reducible refine stop_region 3 ?_) | (with_reducible refine Keep.below (by assumption) ?_) | ((with_reducible refine WpO.here ?_); first | (refine WpO.done ?_; refine NoP.normal ?_) | ((first | refine WpO.load (by rfl) (by rfl) (by go_simp; rfl) ?_ | refine WpO.pure (by rfl) (fun w_ => by go_simp; (try go_bits); rfl) ?_); go_frame) | refine WpO.wild ?_) | ((with_reducible refine wildO.here ?_); (refine wildO.go (by rfl) (fun _ _ => ?_))) | go_step)
         refine Stop.go ?_
         have sN := (HS.out.step D2).cell 6 (by omega) (by omega)
         simp only [gOf, reason] at sN
         repeat' (first | go_step)
         go_ret
         rw [show v = 6 from by rw [Hv.out]; exact if_pos (.inr (.inr (.inr Hc.out)))]
         exact ⟨rfl, bvia e0 D2⟩
end Go.Proofs.YteggpddlkkjmjaaGreatDoor
namespace Go.Proofs.YteggpddlkkjmjaaGreatDoor
open Go Go.RowKit
def bix (acts : List Actn) (q : Clk) : List (Actn × Nat) := acts.zipIdx.filter fun p => ! hasC q p.1.op.rep p.1.num
theorem bix_snoc {acts : List Actn} {q : Clk} {k : Nat} {y : Actn} (h : acts[k]? = some y) : bix (acts.take (k + 1)) q = bix (acts.take k) q ++ if hasC q y.op.rep y.num = true then [] else [(y, k)] := by
 have hk := (List.getElem?_eq_some_iff.1 h).1
 unfold bix
 rw [List.take_add_one, h, List.zipIdx_append, List.filter_append]
 have hl : (acts.take k).length = k := by rw [List.length_take]; omega
 rw [hl]
 cases hh : hasC q y.op.rep y.num <;> simp [hh]
theorem bix_prefix (acts : List Actn) (q : Clk) (k : Nat) : bix (acts.take k) q <+: bix acts q := by
 have h : acts = acts.take k ++ acts.drop k := (List.take_append_drop k acts).symm
 conv => rhs; rw [h]
 unfold bix
 rw [List.zipIdx_append, List.filter_append]
 exact ⟨_, rfl⟩
theorem bix_fst (acts : List Actn) (q : Clk) : (bix acts q).map Prod.fst = besideC acts q := by
 unfold bix besideC
 generalize 0 = n
 induction acts generalizing n with
 | nil => rfl
 | cons y l ih =>
  rw [List.zipIdx_cons, List.filter_cons, List.filter_cons]
  cases hh : hasC q y.op.rep y.num <;> simp [hh, ih]
def actNum (x : Actn × Nat) : Array Value := #[.int .i64 x.2, x.1.agg]
structure KpX (X : Nat → Prop) (W W' : World) : Prop where
 size : W.heap.size ≤ W'.heap.size
 low : ∀ b, X b → b < W.heap.size → W'.heap[b]? = W.heap[b]?
section
variable {X : Nat → Prop} {A B C : World}
theorem KpX.refl (X : Nat → Prop) (A : World) : KpX X A A := ⟨Nat.le_refl _, fun _ _ _ => rfl⟩
theorem KpX.trans (h : KpX X A B) (k : KpX X B C) : KpX X A C := ⟨Nat.le_trans h.size k.size, fun b hb hl => (k.low b hb (Nat.lt_of_lt_of_le hl h.size)).trans (h.low b hb hl)⟩
theorem KpX.of_below (h : Below A.heap.size A B) : KpX X A B := ⟨h.size, fun b _ hl => h.block b hl⟩
theorem KpX.blk (h : KpX X A B) {g : Nat} {t : TypeId} {cs : Array Value} (hg : X g) (hb : Blk A g t cs) : Blk B g t cs := (h.low g hg hb.lt).trans hb
theorem KpX.same (h : KpX X A B) : Same X A B := fun b hb hl => h.low b hb hl
end
def BsX (lb cb gb : Nat) (A : Option Addr) (b : Nat) : Prop := b = lb ∨ b = cb ∨ b = gb ∨ ∃ a, A = some a ∧ b = a.block
theorem beside_any (gb : Nat) (q : Clk) (w : World) :
 Calls Tryz.prog 78 #[.pointer (some ⟨gb, 0, none⟩), q.agg] w fun e w' => e = .returned (.func (.func 115) #[] #[.pointer (some ⟨w.heap.size, 0, none⟩), .pointer (some ⟨w.heap.size + 1, 0, none⟩)]) ∧ w' = (w.alloc (.cells #[.pointer (some ⟨gb, 0, none⟩)] 30)).alloc (.cells q.vals 44) := by
 simp only [Clk.agg] at *
 unfold Clk.vals
 go_enter Tryz.func78, Tryz.ntmps78
 repeat' (first | go_step)
 go_ret
 exact ⟨rfl, rfl⟩
theorem calls_in_at {n : Nat} {P : Program} {f : FuncId} {args : Array Value} {w : World} {R : Ending → World → Prop} (h : Calls P f args w R) : Fence.wide.fn f ∧ Fence.wide.depth = none ∧ CallsIn Fence.wide n P f args w R := ⟨trivial, rfl, callsIn_wide.2 h⟩
theorem besideSeq {t : TypeId} (w : World) (lb cb gb bm mb c d K : Nat) (A B : Option Addr) (SM : Nat → Prop) (s : Lg) (q : Clk) (hl : Blk w lb 30 #[.pointer (some ⟨gb, 0, none⟩)]) (hc : Blk w cb 44 q.vals) (hg : Blk w gb 100 (lgVals s.ep bm mb A s.acts.length c B s.forms.length d s.clk)) (ha : GOwn 46 w 0 A s.acts.length c s.acts) (hn : s.acts.length ≤ 1048576) :
 SeqT Tryz.prog t 115 #[.pointer (some ⟨lb, 0, none⟩), .pointer (some ⟨cb, 0, none⟩)] actNum (KpX (BsX lb cb gb A)) (fun xs => xs = bix s.acts q) (fun pre x => pre ++ [x] <+: bix s.acts q) w := by
 intro l J Jx W hbW hJ hJx hY h0
 have xlb : BsX lb cb gb A lb := .inl rfl
 have xcb : BsX lb cb gb A cb := .inr (.inl rfl)
 have xgb : BsX lb cb gb A gb := .inr (.inr (.inl rfl))
 have HL := hid (hl.step hbW)
 have HC := hid (hc.step hbW)
 have HG := hid (hg.step hbW)
 have Ha := hid (ha.step hbW)
 have HY := hid hY
 have H0 := hid h0
 have HH := hid (fun (y : Actn) W => has_any q y.op.rep y.num W)
 have l0 := HL.out.cell 0
 have ll := HL.out.lt
 have g3 : W.cell? ⟨gb, 3, none⟩ = some (.slice A s.acts.length c) := HG.out.cell 3
 have gl := HG.out.lt
 simp at l0
 clear hl hc hg ha hY h0
 simp only [Clk.agg, List.append_toArray, List.cons_append, List.nil_append] at *
 unfold Clk.vals at *
 go_enter Tryz.func115, Tryz.ntmps115
 repeat' (first | go_step)
 go_loopw [11] (fun i wr => ∃ k : Nat, i = .int .i64 k ∧ k ≤ s.acts.length ∧ J (bix (s.acts.take k) q) wr ∧ KpX (BsX lb cb gb A) W wr) (fun i _ => s.acts.length - (intOf i).toNat)
 case atStart => exact ⟨0, rfl, Nat.zero_le _, H0.out, KpX.refl _ _⟩
 case round =>
  obtain ⟨k, rfl, hk, hj, hkx⟩ := hrel
  clear l0 ll g3 gl
  by_cases hlt : k < s.acts.length
  · have Har : GOwn 46 wr 0 A s.acts.length c s.acts := Ha.out.keep hkx.same fun a ha => .inr (.inr (.inr ⟨a, ha, rfl⟩))
    obtain ⟨b, off, y, rfl, -, hbl, hy, hcell⟩ := (Har.row (S := fun _ => True) fun _ _ _ => trivial).at_ hlt
    obtain ⟨c0, c1, c2, c3, c4, c5, c6, c7, c8, c9, c10, c11, c12⟩ := rc13 (w := wr) (b := b) (o := off + k * 13) y hcell
    have e1 : Below wr.heap.size wr (wr.alloc (.cells #[.int .i64 y.op.kind, .int .i64 y.op.at_, .int .i32 y.op.char, .int .i64 y.op.rep, .int .i64 y.num, .int .i64 y.clk.c0, .int .i64 y.clk.c1, .int .i64 y.clk.c2, .int .i64 y.clk.c3, .int .i64 y.clk.c4, .int .i64 y.clk.c5, .int .i64 y.clk.c6, .int .i64 y.clk.c7] 46)) := balloc (Below.refl _ _)
    have hyb := Blk.new wr 46 #[.int .i64 y.op.kind, .int .i64 y.op.at_, .int .i32 y.op.char, .int .i64 y.op.rep, .int .i64 y.num, .int .i64 y.clk.c0, .int .i64 y.clk.c1, .int .i64 y.clk.c2, .int .i64 y.clk.c3, .int .i64 y.clk.c4, .int .i64 y.clk.c5, .int .i64 y.clk.c6, .int .i64 y.clk.c7]
    have Hcb := hid ((hkx.blk xcb HC.out).step e1)
    have Hyb := hid hyb
    have HJ1 := hid (hJ _ _ _ hj (Turn.of_below e1))
    have Hk1 := hid (hkx.trans (KpX.of_below e1))
    have Hhy := hid (HH.out y)
    have Hs := hid (bix_snoc (q := q) hy)
    have Hpre := hid (bix_prefix s.acts q (k + 1))
    clear hcell hyb hj hkx hy Har
    repeat' (first | (with_reducible refine stop_region 3 ?_) | go_step)
    refine Stop.go ?_
    clear c0 c1 c2 c3 c4 c5 c6 c7 c8 c9 c10 c11 c12 hbl
    generalize wr.alloc (.cells #[.int .i64 y.op.kind, .int .i64 y.op.at_, .int .i32 y.op.char, .int .i64 y.op.rep, .int .i64 y.num, .int .i64 y.clk.c0, .int .i64 y.clk.c1, .int .i64 y.clk.c2, .int .i64 y.clk.c3, .int .i64 y.clk.c4, .int .i64 y.clk.c5, .int .i64 y.clk.c6, .int .i64 y.clk.c7] 46) = Y at *
    generalize wr.heap.size = yb at *
    obtain ⟨q0, q1, q2, q3, q4, q5, q6, q7⟩ := cl8 (w := Y) (g := cb) Hcb.out
    have cl := Hcb.out.lt
    have hyy := Hyb.out
    obtain ⟨d0, d1, d2, d3, d4, d5, d6, d7, d8, d9, d10, d11, d13⟩ := cl13 (w := Y) (g := yb) hyy; have dyl := (hyy).lt
    clear hyy
    rcases hh : hasC q y.op.rep y.num with _ | _
    · rw [hh] at Hhy Hs
      repeat' (first | ((with_reducible refine region_atW 3 ?_); refine (wpIn_wide (n := 0)).1 (wpIn_region_lit ?_)) | ((with_reducible refine calls_in_at ?_); go_at_call 79; go_must ((with_reducible refine Calls.mono (Hhy.out _) ?_); rintro _ w3 ⟨rfl, hb3⟩; (have hyy := Hyb.out.step hb3; have hG : bix (s.acts.take k) q ++ [(y, k)] <+: bix s.acts q := (show bix (s.acts.take (k + 1)) q = _ from Hs.out) ▸ Hpre.out; obtain ⟨fn, tmps, assign, body, hy, hR⟩ := HY.out _ (y, k) w3 (hJ _ _ _ HJ1.out (Turn.of_below hb3)) hG; simp only [actNum, Actn.agg, Actn.vals] at hy; clear d0 d1 d2 d3 d4 d5 d6 d7 d8 d9 d10 d11 d13 dyl); obtain ⟨d0, d1, d2, d3, d4, d5, d6, d7, d8, d9, d10, d11, d13⟩ := cl13 (w := w3) (g := yb) hyy; have dyl := (hyy).lt; clear hyy; all_goals dsimp only)) | ((with_reducible refine roundIn_at ?_); go_must (refine ⟨rfl, ?_⟩; refine RoundIn.mono hR ?_; clear hR; rintro _ W4 (⟨rfl, hJ4, hk4⟩ | ⟨rfl, hx4⟩); all_goals dsimp only)) | gi_guarded | gi_step | go_step)
      · go_roundw
        case rel => exact ⟨k + 1, by go_num, by omega, by rw [Hs.out]; exact hJ4, (Hk1.out.trans (KpX.of_below hb3)).trans hk4⟩
        case measure => simp [intOf]; omega
      · refine bodyPost_ret (v := .tuple #[]) (by simp [results, Tryz.results115, go_sem]) rfl ⟨⟨_, rfl⟩, .inr ⟨_, hx4⟩⟩
    · rw [hh] at Hhy Hs
      repeat' (first | (go_at_call 79; go_must ((with_reducible refine Calls.mono (Hhy.out _) ?_); rintro _ w3 ⟨rfl, hb3⟩; dsimp only)) | go_guarded | go_step)
      go_roundw
      case rel => exact ⟨k + 1, by go_num, by omega, by rw [Hs.out, if_pos rfl, List.append_nil]; exact hJ _ _ _ HJ1.out (Turn.of_below hb3), Hk1.out.trans (KpX.of_below hb3)⟩
      case measure => simp [intOf]; omega
  · obtain rfl : k = s.acts.length := by omega
    rw [List.take_length] at hj
    repeat' (first | go_step)
    go_end0
    exact ⟨⟨_, rfl⟩, .inl ⟨_, rfl, hj⟩⟩
end Go.Proofs.YteggpddlkkjmjaaGreatDoor
