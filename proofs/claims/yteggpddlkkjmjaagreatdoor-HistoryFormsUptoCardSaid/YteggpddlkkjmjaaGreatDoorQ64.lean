/- Part of a proof: what functions of the program compute. Conditions: as each theorem says. -/
import Derived.Maps.RangeWalk
import Derived.Test.YteggpddlkkjmjaaGreatDoorQ37
import Derived.Test.YteggpddlkkjmjaaGreatDoorQ57
set_option linter.unusedSimpArgs false
set_option linter.unusedVariables false
set_option maxHeartbeats 8000000
set_option maxRecDepth 200000
namespace Go.Proofs.YteggpddlkkjmjaaGreatDoor
open Go Go.RowKit
theorem box3 (w : World) (t u v : TypeId) (cs ds es : Array Value) : Blk (((w.alloc (.cells cs t)).alloc (.cells ds u)).alloc (.cells es v)) w.heap.size t cs ∧ Blk (((w.alloc (.cells cs t)).alloc (.cells ds u)).alloc (.cells es v)) (w.heap.size + 1) u ds ∧ Blk (((w.alloc (.cells cs t)).alloc (.cells ds u)).alloc (.cells es v)) (w.heap.size + 1 + 1) v es ∧ Below w.heap.size w (((w.alloc (.cells cs t)).alloc (.cells ds u)).alloc (.cells es v)) ∧ (((w.alloc (.cells cs t)).alloc (.cells ds u)).alloc (.cells es v)).heap.size = w.heap.size + 1 + 1 + 1 := by
 obtain ⟨h1, h2, h3⟩ := twoBoxes w t u cs ds
 have hs : ((w.alloc (.cells cs t)).alloc (.cells ds u)).heap.size = w.heap.size + 1 + 1 := by show Array.size ((Array.push _ _).push _) = _; simp
 refine ⟨h1.alloc _, h2.alloc _, ?_, balloc h3, ?_⟩
 · have := Blk.new ((w.alloc (.cells cs t)).alloc (.cells ds u)) v es
   rwa [hs] at this
 · rw [show (((w.alloc (.cells cs t)).alloc (.cells ds u)).alloc (.cells es v)).heap.size = ((w.alloc (.cells cs t)).alloc (.cells ds u)).heap.size + 1 from Array.size_push _, hs]
theorem pastC_snoc {acts : List Actn} {q : Clk} {k : Nat} {y : Actn} (h : acts[k]? = some y) : pastC (acts.take (k + 1)) q = pastC (acts.take k) q ++ if hasC q y.op.rep y.num = true then [y] else [] := by
 unfold pastC
 rw [List.take_add_one, h, Option.toList_some, List.filter_append]
 congr 1
 cases hh : hasC q y.op.rep y.num <;> simp [hh]
theorem besideC_snoc9 {acts : List Actn} {q : Clk} {k : Nat} {y : Actn} (h : acts[k]? = some y) : besideC (acts.take (k + 1)) q = besideC (acts.take k) q ++ if hasC q y.op.rep y.num = true then [] else [y] := by
 rw [List.take_add_one, h, Option.toList_some, besideC_snoc]
theorem formedOf_eq {n : Nat} {acts : List Actn} {x : Actn} (h : acts.length ≤ n) : formedOf n acts x = ((besideC acts x.clk).foldl (formStep (formedOf (n - 1))) (pastC acts x.clk, x.op)).2 := by
 cases n with
 | zero =>
  obtain rfl : acts = [] := List.eq_nil_of_length_eq_zero (by omega)
  rfl
 | succ n => rfl
theorem formed_any : ∀ (n : Nat) (w : World) (A : Option Addr) (m c : Nat) (acts : List Actn) (S : Nat → Prop) (x : Actn) (q : Int), GRow w S A m c acts → m ≤ n → n ≤ 100 → x.In → (∀ y ∈ acts, y.In) → 0 ≤ q → q + n ≤ 200 →
 Calls Tryz.prog 17 #[.slice A m c, x.agg, .int .i64 q] w fun e w' => e = .returned (formedOf n acts x).agg ∧ Below w.heap.size w w' := by
 intro n
 induction n using Nat.strongRecOn with
 | ind n ih =>
 intro w A m c acts S x q hr hmn hn hx hai hq0 hqn
 have ih := hid ih
 have hml : acts.length = m := hr.1
 have Hr := hid hr
 have Hx := hid hx
 have Hai := hid hai
 obtain ⟨h1, h2, h3, h0, hsz⟩ := box3 w 46 37 37 #[.int .i64 x.op.kind, .int .i64 x.op.at_, .int .i32 x.op.char, .int .i64 x.op.rep, .int .i64 x.num, .int .i64 x.clk.c0, .int .i64 x.clk.c1, .int .i64 x.clk.c2, .int .i64 x.clk.c3, .int .i64 x.clk.c4, .int .i64 x.clk.c5, .int .i64 x.clk.c6, .int .i64 x.clk.c7] #[.int .i64 0, .int .i64 0, .int .i32 0, .int .i64 0] #[.int .i64 x.op.kind, .int .i64 x.op.at_, .int .i32 x.op.char, .int .i64 x.op.rep]
 have hfo : formedOf n acts x = ((besideC acts x.clk).foldl (formStep (formedOf (n - 1))) (pastC acts x.clk, x.op)).2 := formedOf_eq (by omega)
 rw [hfo]
 clear hfo hr hx hai
 have hq2 : ¬ q > 200 := by omega
 simp only [Actn.agg, Opn.agg]
 unfold Actn.vals
 go_enter Tryz.func17, Tryz.ntmps17
 repeat' (first | (with_reducible refine stop_region 2 ?_) | go_step)
 refine Stop.go ?_
 generalize ((w.alloc (.cells #[.int .i64 x.op.kind, .int .i64 x.op.at_, .int .i32 x.op.char, .int .i64 x.op.rep, .int .i64 x.num, .int .i64 x.clk.c0, .int .i64 x.clk.c1, .int .i64 x.clk.c2, .int .i64 x.clk.c3, .int .i64 x.clk.c4, .int .i64 x.clk.c5, .int .i64 x.clk.c6, .int .i64 x.clk.c7] 46)).alloc (.cells #[.int .i64 0, .int .i64 0, .int .i32 0, .int .i64 0] 37)).alloc (.cells #[.int .i64 x.op.kind, .int .i64 x.op.at_, .int .i32 x.op.char, .int .i64 x.op.rep] 37) = X at *
 have H1 := hid h1
 have H2 := hid h2
 have H3 := hid h3
 clear h1 h2 h3
 repeat' (first | go_step)
 go_loopw [8, 9, 10] (fun p b i wr => ∃ (k n1 c1 n2 c2 : Nat) (A1 A2 : Option Addr), p = .slice A1 n1 c1 ∧ b = .slice A2 n2 c2 ∧ i = .int .i64 k ∧ k ≤ m ∧ GOwn 46 wr X.heap.size A1 n1 c1 (pastC (acts.take k) x.clk) ∧ GOwn 46 wr X.heap.size A2 n2 c2 (besideC (acts.take k) x.clk) ∧ (∀ x y, A1 = some x → A2 = some y → x.block ≠ y.block) ∧ Below X.heap.size X wr) (fun _ _ i _ => m - (intOf i).toNat)
 case atStart => exact ⟨0, 0, 0, 0, 0, none, none, rfl, rfl, rfl, Nat.zero_le _, GOwn.nil _ _ _, GOwn.nil _ _ _, fun x y hx => (by cases hx), Below.refl _ _⟩
 case round =>
  obtain ⟨k, n1, c1, n2, c2, A1, A2, rfl, rfl, rfl, hk, o1, o2, hap, hbr⟩ := hrel
  have hpl := part_length (acts.take k) x.clk
  rw [List.length_take] at hpl
  have hp1 := o1.1
  have hp2 := o2.1
  by_cases hlt : k < m
  · have hkm : (k : Int) < (m : Int) := by omega
    have hbd := hbr.drew
    obtain ⟨b, off, y, rfl, -, hbl, hy, hcell⟩ := (Hr.out.step (bvia h0 hbd)).at_ hlt
    have Hcell := hid hcell
    obtain ⟨ya0, ya1, ya2, ya3, ya4, ya5, ya6, ya7, ya8, ya9, ya10, ya11, ya12⟩ := rc13 (w := wr.drew) (b := b) (o := off + k * 13) y hcell
    have hqb := H1.out.step hbd
    have q0 : wr.drew.cell? ⟨w.heap.size, 5, none⟩ = some (.int .i64 x.clk.c0) := hqb.cell 5
    have q1 : wr.drew.cell? ⟨w.heap.size, 6, none⟩ = some (.int .i64 x.clk.c1) := hqb.cell 6
    have q2 : wr.drew.cell? ⟨w.heap.size, 7, none⟩ = some (.int .i64 x.clk.c2) := hqb.cell 7
    have q3 : wr.drew.cell? ⟨w.heap.size, 8, none⟩ = some (.int .i64 x.clk.c3) := hqb.cell 8
    have q4 : wr.drew.cell? ⟨w.heap.size, 9, none⟩ = some (.int .i64 x.clk.c4) := hqb.cell 9
    have q5 : wr.drew.cell? ⟨w.heap.size, 10, none⟩ = some (.int .i64 x.clk.c5) := hqb.cell 10
    have q6 : wr.drew.cell? ⟨w.heap.size, 11, none⟩ = some (.int .i64 x.clk.c6) := hqb.cell 11
    have q7 : wr.drew.cell? ⟨w.heap.size, 12, none⟩ = some (.int .i64 x.clk.c7) := hqb.cell 12
    have ql := hqb.lt
    have Hhx := hid (fun W => refHas_any x.clk y.op.rep y.num W)
    simp only [Clk.agg] at Hhx
    unfold Clk.vals at Hhx
    have HS1 := hid (pastC_snoc (q := x.clk) hy)
    have HS2 := hid (besideC_snoc9 (q := x.clk) hy)
    have Ho1 := hid (o1.step (bdrew (Below.refl _ wr)))
    have Ho2 := hid (o2.step (bdrew (Below.refl _ wr)))
    clear hcell hy hqb o1 o2
    rcases hhc : hasC x.clk y.op.rep y.num with _ | _
    · rw [hhc] at Hhx
      repeat' (first | ((with_reducible refine region_at 9 ?_); refine wp_region_ordT (fun _ => True) (rgo [0,4,8,12,16,20,24,28,32,36,40,44,48,53] .nil) (by kernel_rfl) (by kernel_rfl) (by kernel_rfl) rfl rfl ?_) | (go_at_call 52; go_must ((with_reducible refine Calls.mono (Hhx.out _) ?_); rintro _ w3 ⟨rfl, hb3⟩; dsimp only)) | (with_reducible refine stop_region 11 ?_) | (with_reducible refine Keep.below (by assumption) ?_) | ((with_reducible refine WpO.here ?_); first | (refine WpO.done ?_; refine NoP.normal ?_) | ((first | refine WpO.load (by rfl) (by rfl) (by go_simp; rfl) ?_ | refine WpO.pure (by rfl) (fun w_ => by go_simp; (try go_bits); rfl) ?_); go_frame) | refine WpO.wild ?_) | ((with_reducible refine wildO.here ?_); (refine wildO.go (by rfl) (fun _ _ => ?_))) | go_step)
      refine Stop.go ?_
      clear ya0 ya1 ya2 ya3 ya4 ya5 ya6 ya7 ya8 ya9 ya10 ya11 ya12
      have hz3 := hb3.size
      have hzr := hbr.size
      have hwd : wr.drew.heap.size = wr.heap.size := rfl
      have hcell3 : ∀ (i : Nat) (u : Value), (Enc.cells y)[i]? = some u → w3.cell? ⟨b, off + k * 13 + i, none⟩ = some u := fun i u h => kc hb3 (Hcell.out i u h)
      obtain ⟨ya0, ya1, ya2, ya3, ya4, ya5, ya6, ya7, ya8, ya9, ya10, ya11, ya12⟩ := rc13 (w := w3) (b := b) (o := off + k * 13) y hcell3
      have hbl3 := Nat.lt_of_lt_of_le hbl hb3.size
      have eK : Below w3.heap.size w3 (w3.alloc (.cells #[.int .i64 y.op.kind, .int .i64 y.op.at_, .int .i32 y.op.char, .int .i64 y.op.rep, .int .i64 y.num, .int .i64 y.clk.c0, .int .i64 y.clk.c1, .int .i64 y.clk.c2, .int .i64 y.clk.c3, .int .i64 y.clk.c4, .int .i64 y.clk.c5, .int .i64 y.clk.c6, .int .i64 y.clk.c7] 46)) := balloc (Below.refl _ _)
      have oI := (Ho2.out.step hb3).step eK
      have oJ := (Ho1.out.step hb3).step eK
      have rK := (GOwn.lit (t := 46) w3 #[.int .i64 y.op.kind, .int .i64 y.op.at_, .int .i32 y.op.char, .int .i64 y.op.rep, .int .i64 y.num, .int .i64 y.clk.c0, .int .i64 y.clk.c1, .int .i64 y.clk.c2, .int .i64 y.clk.c3, .int .i64 y.clk.c4, .int .i64 y.clk.c5, .int .i64 y.clk.c6, .int .i64 y.clk.c7] [y] 0 (Nat.zero_le _) (show 1 ≤ maxLen by decide) rfl).row (S := fun _ => True) fun _ _ _ => trivial
      have hzK := eK.size
      clear hcell3
      repeat' (first | ((with_reducible refine app_acts_here ?_); go_must (refine wp_append_acts X.heap.size _ _ _ _ 1 1 _ [y] (fun _ => True) (by rfl) (by rfl) oI rK (by omega) (by omega) ?_; intro A' c' w4 hA hb4 hsm hat hz4; try dsimp only)) | go_step)
      have hbb := (bvia (bvia hbd hb3) eK).trans hb4
      have hother := oJ.keep hsm fun x hx g hg => by first | exact fun e => hap _ _ hx hg e.symm | exact fun e => hap _ _ hg hx e
      go_roundw
      case rel =>
       refine ⟨k + 1, n1, c1, n2 + 1, c', A1, A', rfl, rfl, by go_num, by omega, ?_, ?_, ?_, hbb⟩
       · have h1 := HS1.out
         rw [hhc, if_neg (by simp), List.append_nil] at h1
         rw [h1]
         exact hother
       · have h1 := HS2.out
         rw [hhc, if_neg (by simp)] at h1
         rw [h1]
         exact hA
       · intro x y hx hy
         rcases hat with rfl | ⟨g, rfl, hg⟩
         · exact hap x y hx hy
         · cases hy
           have := (Ho1.out.block x hx).2
           have h9 : x.block < wr.heap.size := this
           show x.block ≠ g
           omega
      case measure => simp [intOf]; omega
    · rw [hhc] at Hhx
      repeat' (first | ((with_reducible refine region_at 9 ?_); refine wp_region_ordT (fun _ => True) (rgo [0,4,8,12,16,20,24,28,32,36,40,44,48,53] .nil) (by kernel_rfl) (by kernel_rfl) (by kernel_rfl) rfl rfl ?_) | (go_at_call 52; go_must ((with_reducible refine Calls.mono (Hhx.out _) ?_); rintro _ w3 ⟨rfl, hb3⟩; dsimp only)) | (with_reducible refine stop_region 10 ?_) | (with_reducible refine Keep.below (by assumption) ?_) | ((with_reducible refine WpO.here ?_); first | (refine WpO.done ?_; refine NoP.normal ?_) | ((first | refine WpO.load (by rfl) (by rfl) (by go_simp; rfl) ?_ | refine WpO.pure (by rfl) (fun w_ => by go_simp; (try go_bits); rfl) ?_); go_frame) | refine WpO.wild ?_) | ((with_reducible refine wildO.here ?_); (refine wildO.go (by rfl) (fun _ _ => ?_))) | go_step)
      refine Stop.go ?_
      clear ya0 ya1 ya2 ya3 ya4 ya5 ya6 ya7 ya8 ya9 ya10 ya11 ya12
      have hz3 := hb3.size
      have hzr := hbr.size
      have hwd : wr.drew.heap.size = wr.heap.size := rfl
      have hcell3 : ∀ (i : Nat) (u : Value), (Enc.cells y)[i]? = some u → w3.cell? ⟨b, off + k * 13 + i, none⟩ = some u := fun i u h => kc hb3 (Hcell.out i u h)
      obtain ⟨ya0, ya1, ya2, ya3, ya4, ya5, ya6, ya7, ya8, ya9, ya10, ya11, ya12⟩ := rc13 (w := w3) (b := b) (o := off + k * 13) y hcell3
      have hbl3 := Nat.lt_of_lt_of_le hbl hb3.size
      have eK : Below w3.heap.size w3 (w3.alloc (.cells #[.int .i64 y.op.kind, .int .i64 y.op.at_, .int .i32 y.op.char, .int .i64 y.op.rep, .int .i64 y.num, .int .i64 y.clk.c0, .int .i64 y.clk.c1, .int .i64 y.clk.c2, .int .i64 y.clk.c3, .int .i64 y.clk.c4, .int .i64 y.clk.c5, .int .i64 y.clk.c6, .int .i64 y.clk.c7] 46)) := balloc (Below.refl _ _)
      have oI := (Ho1.out.step hb3).step eK
      have oJ := (Ho2.out.step hb3).step eK
      have rK := (GOwn.lit (t := 46) w3 #[.int .i64 y.op.kind, .int .i64 y.op.at_, .int .i32 y.op.char, .int .i64 y.op.rep, .int .i64 y.num, .int .i64 y.clk.c0, .int .i64 y.clk.c1, .int .i64 y.clk.c2, .int .i64 y.clk.c3, .int .i64 y.clk.c4, .int .i64 y.clk.c5, .int .i64 y.clk.c6, .int .i64 y.clk.c7] [y] 0 (Nat.zero_le _) (show 1 ≤ maxLen by decide) rfl).row (S := fun _ => True) fun _ _ _ => trivial
      have hzK := eK.size
      clear hcell3
      repeat' (first | ((with_reducible refine app_acts_here ?_); go_must (refine wp_append_acts X.heap.size _ _ _ _ 1 1 _ [y] (fun _ => True) (by rfl) (by rfl) oI rK (by omega) (by omega) ?_; intro A' c' w4 hA hb4 hsm hat hz4; try dsimp only)) | go_step)
      have hbb := (bvia (bvia hbd hb3) eK).trans hb4
      have hother := oJ.keep hsm fun x hx g hg => by first | exact fun e => hap _ _ hx hg e.symm | exact fun e => hap _ _ hg hx e
      go_roundw
      case rel =>
       refine ⟨k + 1, n1 + 1, c', n2, c2, A', A2, rfl, rfl, by go_num, by omega, ?_, ?_, ?_, hbb⟩
       · have h1 := HS1.out
         rw [hhc, if_pos rfl] at h1
         rw [h1]
         exact hA
       · have h1 := HS2.out
         rw [hhc, if_pos rfl, List.append_nil] at h1
         rw [h1]
         exact hother
       · intro x y hx hy
         rcases hat with rfl | ⟨g, rfl, hg⟩
         · exact hap x y hx hy
         · cases hx
           have := (Ho2.out.block y hy).2
           have h9 : y.block < wr.heap.size := this
           show g ≠ y.block
           omega
      case measure => simp [intOf]; omega
  · obtain rfl : k = m := by omega
    rw [List.take_of_length_le (by omega)] at o1 o2 hpl
    obtain ⟨bs, hbs⟩ : ∃ bs, bs = besideC acts x.clk := ⟨_, rfl⟩
    obtain ⟨ps, hps⟩ : ∃ ps, ps = pastC acts x.clk := ⟨_, rfl⟩
    rw [← hbs] at o2 hpl
    rw [← hps] at o1 hpl
    have HBS := hid hbs
    have HPS := hid hps
    have hbi : ∀ y ∈ bs, y.In := fun y hy => Hai.out y (by rw [hbs] at hy; exact (List.mem_filter.1 hy).1)
    have hpi : ∀ y ∈ ps, y.In := fun y hy => Hai.out y (by rw [hps] at hy; exact (List.mem_filter.1 hy).1)
    have hbl2 : bs.length = n2 := o2.1
    have hpl2 : ps.length = n1 := o1.1
    have hb3 : Blk wr (w.heap.size + 1 + 1) 37 #[.int .i64 x.op.kind, .int .i64 x.op.at_, .int .i32 x.op.char, .int .i64 x.op.rep] := H3.out.step hbr
    have hb2 : Blk wr (w.heap.size + 1) 37 #[.int .i64 0, .int .i64 0, .int .i32 0, .int .i64 0] := H2.out.step hbr
    have Bw := bvia h0 hbr
    have Hbi := hid hbi
    have Hpi := hid hpi
    have O1 := hid o1
    have O2 := hid o2
    have HB3 := hid hb3
    have HB2 := hid hb2
    clear hbs hps hbi hpi o1 o2 hb3 hb2 H1 H2 H3
    repeat' (first | go_step)
    go_loopw [8, 11] (fun p i wr => ∃ (t c3 : Nat) (A3 : Option Addr) (o : Opn), p = .slice A3 (n1 + t) c3 ∧ i = .int .i64 t ∧ t ≤ n2 ∧ GOwn 46 wr X.heap.size A3 (n1 + t) c3 (ps ++ bs.take t) ∧ GOwn 46 wr X.heap.size A2 n2 c2 bs ∧ (∀ x y, A3 = some x → A2 = some y → x.block ≠ y.block) ∧ o = ((bs.take t).foldl (formStep (formedOf (n - 1))) (ps, x.op)).2 ∧ o.In ∧ Blk wr (w.heap.size + 1 + 1) 37 #[.int .i64 o.kind, .int .i64 o.at_, .int .i32 o.char, .int .i64 o.rep] ∧ Blk wr (w.heap.size + 1) 37 #[.int .i64 0, .int .i64 0, .int .i32 0, .int .i64 0] ∧ Below w.heap.size w wr ∧ X.heap.size ≤ wr.heap.size) (fun _ i _ => n2 - (intOf i).toNat)
    case atStart => exact ⟨0, c1, A1, x.op, rfl, rfl, Nat.zero_le _, by simpa using O1.out, O2.out, hap, rfl, Hx.out.op, HB3.out, HB2.out, Bw, hbr.size⟩
    case round =>
     clear O1 O2 HB3 HB2 Bw hap hbr
     obtain ⟨k, c3, A3, o, rfl, rfl, hk, o1, o2, hap, hoe, hoI, hb3, hb2, Bw, hzX⟩ := hrel
     have Hoe := hid hoe
     have HoI := hid hoI
     have HB3 := hid hb3
     have HB2 := hid hb2
     clear hoe hoI hb3 hb2
     by_cases hlt2 : k < n2
     · have hkm : (k : Int) < (n2 : Int) := by omega
       have hn1 : 1 ≤ n := by omega
       have D0 : Below wr.heap.size wr wr.drew := bdrew (Below.refl _ _)
       obtain ⟨b, off, y, hA2, -, hbl, hy, hcell⟩ := ((o2.row (S := fun _ => True) fun _ _ _ => trivial).step D0).at_ hlt2
       have hyI := Hbi.out y (List.mem_of_getElem? hy)
       have hrow := (o1.row (S := fun _ => True) fun _ _ _ => trivial).step D0
       have HF := hid (ih.out (n - 1) (by omega) wr.drew A3 (n1 + k) c3 (ps ++ bs.take k) _ y (q + 1) hrow (by omega) (by omega) hyI (fun u hu => by
        rcases List.mem_append.1 hu with hu | hu
        · exact Hpi.out u hu
        · exact Hbi.out u (List.mem_of_mem_take hu)) (by omega) (by omega))
       obtain ⟨Pf, hPf⟩ : ∃ Pf, Pf = formedOf (n - 1) (ps ++ bs.take k) y := ⟨_, rfl⟩
       rw [← hPf] at HF
       have HT := hid (fun W => refT_any o Pf W HoI.out)
       obtain ⟨o', ho'⟩ : ∃ o', o' = Tof o Pf := ⟨_, rfl⟩
       rw [← ho'] at HT
       have hoI' : o'.In := by rw [ho']; exact Tof_in8 HoI.out
       have hoe' : o' = ((bs.take (k + 1)).foldl (formStep (formedOf (n - 1))) (ps, x.op)).2 := by
        rw [List.take_add_one, hy, Option.toList_some, List.foldl_append, List.foldl_cons, List.foldl_nil]
        show o' = Tof _ (formedOf (n - 1) _ y)
        rw [formStep_fst, ← Hoe.out, ← hPf]
        exact ho'
       have Hoe' := hid hoe'
       have HoI' := hid hoI'
       simp only [Actn.agg, Opn.agg] at HF HT
       unfold Actn.vals at HF
       have Hcell := hid hcell
       have Hy := hid hy
       have O1 := hid o1
       have O2 := hid o2
       subst hA2
       obtain ⟨ya0, ya1, ya2, ya3, ya4, ya5, ya6, ya7, ya8, ya9, ya10, ya11, ya12⟩ := rc13 (w := wr.drew) (b := b) (o := off + k * 13) y hcell
       have hbd := HB3.out.drew
       obtain ⟨p0, p1, p2, p3⟩ := cl4 (w := wr.drew) (g := w.heap.size + 1 + 1) hbd
       have pl := hbd.lt
       have hq1 : ¬ q + 1 > 9223372036854775807 := by omega
       clear hPf ho' hoe' hoI' hcell hy o1 o2 hbd hrow hyI
       repeat' (first | (with_reducible refine stop_region 15 ?_) | go_step)
       refine Stop.go ?_
       repeat' (first | ((with_reducible refine region_at 15 ?_); refine wp_region_ordT (fun _ => True) (rgo [0,4,8,12,16,20,24,28,33,37,43] .nil) (by kernel_rfl) (by kernel_rfl) (by kernel_rfl) rfl rfl ?_) | (with_reducible refine Keep.last ?_) | (go_at_call 17; go_must ((with_reducible refine Calls.mono HF.out ?_); rintro _ w7 ⟨rfl, hb7⟩; have hk7 := KeepT.of_below (T := fun _ => True) hb7; dsimp only)) | (go_at_call 53; go_must ((with_reducible refine Calls.mono (HT.out _) ?_); rintro _ w8 ⟨rfl, hb8⟩; have hk8 := KeepT.of_below (T := fun _ => True) hb8; have hz := HB3.out.drew.step (bvia hb7 hb8); obtain ⟨zl, z0, z1, z2, z3, f0, f1, f2, f3⟩ := bl4 hz; clear hz; dsimp only)) | (with_reducible refine stop_region 16 ?_) | (with_reducible refine Keep.below (by assumption) ?_) | ((with_reducible refine WpO.here ?_); first | (refine WpO.done ?_; refine NoP.normal ?_) | ((first | refine WpO.load (by rfl) (by rfl) (by go_simp; rfl) ?_ | refine WpO.pure (by rfl) (fun w_ => by go_simp; (try go_bits); rfl) ?_); go_frame) | refine WpO.wild ?_) | ((with_reducible refine wildO.here ?_); (refine wildO.go (by rfl) (fun _ _ => ?_))) | go_step)
       refine Stop.go ?_
       rw [sets4]
       clear ya0 ya1 ya2 ya3 ya4 ya5 ya6 ya7 ya8 ya9 ya10 ya11 ya12
       clear p0 p1 p2 p3 pl z0 f0 z1 f1 z2 f2 z3 f3 zl
       try clear hk7 hk8
       have D8 := bvia D0 (bvia hb7 hb8)
       have hB7 : Blk (setsAt (w.heap.size + 1 + 1) (op4 o') w8) (w.heap.size + 1 + 1) 37 #[.int .i64 o'.kind, .int .i64 o'.at_, .int .i32 o'.char, .int .i64 o'.rep] := by
        have := (HB3.out.step D8).sets (op4 o')
        rwa [op4_cells _ _ rfl] at this
       have hB6 : Blk (setsAt (w.heap.size + 1 + 1) (op4 o') w8) (w.heap.size + 1) 37 #[.int .i64 0, .int .i64 0, .int .i32 0, .int .i64 0] := (HB2.out.step D8).setsO (by omega) _
       have hsm8 : Same (fun b => b ≠ w.heap.size + 1 + 1) w8 (setsAt (w.heap.size + 1 + 1) (op4 o') w8) := fun b hs _ => setsAt_heap _ _ hs
       have oZ1 := (O1.out.step D8).keep hsm8 fun g hg => by have := (O1.out.block g hg).1; omega
       have oZ2 := (O2.out.step D8).keep hsm8 fun g hg => by have := (O2.out.block g hg).1; omega
       have BZ : Below w.heap.size w (setsAt (w.heap.size + 1 + 1) (op4 o') w8) := Below.sets _ (bvia Bw D8) (by omega)
       have hzZ : X.heap.size ≤ (setsAt (w.heap.size + 1 + 1) (op4 o') w8).heap.size := by rw [setsAt_size]; exact Nat.le_trans hzX D8.size
       clear hsm8 D8 hb7 hb8 HF HT
       generalize setsAt (w.heap.size + 1 + 1) (op4 o') w8 = Z at *
       obtain ⟨b', off', y', hA', -, hbl', hy', hcell'⟩ := (oZ2.row (S := fun _ => True) fun _ _ _ => trivial).at_ hlt2
       cases hA'
       obtain rfl : y = y' := Option.some.inj (Hy.out.symm.trans hy')
       have ya0 : Z.cell? ⟨b, off + k * 13, none⟩ = some (.int .i64 y.op.kind) := hcell' 0 _ rfl; have ya1 : Z.cell? ⟨b, off + k * 13 + 1, none⟩ = some (.int .i64 y.op.at_) := hcell' 1 _ rfl; have ya2 : Z.cell? ⟨b, off + k * 13 + 2, none⟩ = some (.int .i32 y.op.char) := hcell' 2 _ rfl; have ya3 : Z.cell? ⟨b, off + k * 13 + 3, none⟩ = some (.int .i64 y.op.rep) := hcell' 3 _ rfl; have ya4 : Z.cell? ⟨b, off + k * 13 + 4, none⟩ = some (.int .i64 y.num) := hcell' 4 _ rfl; have ya5 : Z.cell? ⟨b, off + k * 13 + 5, none⟩ = some (.int .i64 y.clk.c0) := hcell' 5 _ rfl; have ya6 : Z.cell? ⟨b, off + k * 13 + 6, none⟩ = some (.int .i64 y.clk.c1) := hcell' 6 _ rfl; have ya7 : Z.cell? ⟨b, off + k * 13 + 7, none⟩ = some (.int .i64 y.clk.c2) := hcell' 7 _ rfl; have ya8 : Z.cell? ⟨b, off + k * 13 + 8, none⟩ = some (.int .i64 y.clk.c3) := hcell' 8 _ rfl; have ya9 : Z.cell? ⟨b, off + k * 13 + 9, none⟩ = some (.int .i64 y.clk.c4) := hcell' 9 _ rfl; have ya10 : Z.cell? ⟨b, off + k * 13 + 10, none⟩ = some (.int .i64 y.clk.c5) := hcell' 10 _ rfl; have ya11 : Z.cell? ⟨b, off + k * 13 + 11, none⟩ = some (.int .i64 y.clk.c6) := hcell' 11 _ rfl; have ya12 : Z.cell? ⟨b, off + k * 13 + 12, none⟩ = some (.int .i64 y.clk.c7) := hcell' 12 _ rfl
       have eK : Below Z.heap.size Z (Z.alloc (.cells #[.int .i64 y.op.kind, .int .i64 y.op.at_, .int .i32 y.op.char, .int .i64 y.op.rep, .int .i64 y.num, .int .i64 y.clk.c0, .int .i64 y.clk.c1, .int .i64 y.clk.c2, .int .i64 y.clk.c3, .int .i64 y.clk.c4, .int .i64 y.clk.c5, .int .i64 y.clk.c6, .int .i64 y.clk.c7] 46)) := balloc (Below.refl _ _)
       have oI := oZ1.step eK
       have oJ := oZ2.step eK
       have rK := (GOwn.lit (t := 46) Z #[.int .i64 y.op.kind, .int .i64 y.op.at_, .int .i32 y.op.char, .int .i64 y.op.rep, .int .i64 y.num, .int .i64 y.clk.c0, .int .i64 y.clk.c1, .int .i64 y.clk.c2, .int .i64 y.clk.c3, .int .i64 y.clk.c4, .int .i64 y.clk.c5, .int .i64 y.clk.c6, .int .i64 y.clk.c7] [y] 0 (Nat.zero_le _) (show 1 ≤ maxLen by decide) rfl).row (S := fun _ => True) fun _ _ _ => trivial
       have hzK := eK.size
       have HoZ1 := hid oZ1
       clear hcell' hy' oZ1 oZ2
       repeat' (first | ((with_reducible refine app_acts_here ?_); go_must (refine wp_append_acts X.heap.size _ _ _ _ 1 1 _ [y] (fun _ => True) (by rfl) (by rfl) oI rK (by omega) (by omega) ?_; intro A' c' w4 hA hb4 hsm hat hz4; try dsimp only)) | go_step)
       have hother := oJ.keep hsm fun x hx g hg => fun e => hap _ _ hg hx e
       have hB7' : Blk w4 (w.heap.size + 1 + 1) 37 #[.int .i64 o'.kind, .int .i64 o'.at_, .int .i32 o'.char, .int .i64 o'.rep] := (hb4.block _ (by omega)).trans (hB7.step eK)
       have hB6' : Blk w4 (w.heap.size + 1) 37 #[.int .i64 0, .int .i64 0, .int .i32 0, .int .i64 0] := (hb4.block _ (by omega)).trans (hB6.step eK)
       go_roundw
       case rel =>
        refine ⟨k + 1, c', A', o', rfl, by go_num, by omega, ?_, hother, ?_, Hoe'.out, HoI'.out, hB7', hB6', (balloc BZ).trans (hb4.mono (by omega)), Nat.le_trans hzZ (Nat.le_trans hzK hz4)⟩
        · rw [List.take_add_one, Hy.out, Option.toList_some, ← List.append_assoc]
          exact hA
        · intro x y hx hy
          rcases hat with rfl | ⟨g, rfl, hg⟩
          · exact hap x y hx hy
          · cases hx
            have := (oJ.block y hy).2
            show g ≠ y.block
            omega
       case measure => simp [intOf]; omega
     · obtain rfl : k = n2 := by omega
       have hoe := Hoe.out
       rw [List.take_of_length_le (by omega)] at hoe
       have hoe2 : o = ((besideC acts x.clk).foldl (formStep (formedOf (n - 1))) (pastC acts x.clk, x.op)).2 := by rw [← HBS.out, ← HPS.out]; exact hoe
       have Hoe2 := hid hoe2
       obtain ⟨p0, p1, p2, p3⟩ := cl4 (w := wr) (g := w.heap.size + 1 + 1) HB3.out
       have pl := HB3.out.lt
       have hz := HB2.out
       obtain ⟨zl, z0, z1, z2, z3, f0, f1, f2, f3⟩ := bl4 hz
       clear hz hoe hoe2
       repeat' (first | go_step)
       have hz4 : Blk (setsAt (w.heap.size + 1) (op4 o) wr) (w.heap.size + 1) 37 #[.int .i64 o.kind, .int .i64 o.at_, .int .i32 o.char, .int .i64 o.rep] := by
        have := (HB2.out).sets (op4 o)
        rwa [op4_cells _ _ rfl] at this
       have v0 := hz4.cell 0
       have v1 := hz4.cell 1
       have v2 := hz4.cell 2
       have v3 := hz4.cell 3
       simp at v0 v1 v2 v3
       refine bodyPost_ret (w := setsAt (w.heap.size + 1) (op4 o) wr) (v := .agg #[.int .i64 o.kind, .int .i64 o.at_, .int .i32 o.char, .int .i64 o.rep]) (by simp [results, Tryz.results17, go_sem, v0, v1, v2, v3]) rfl ⟨by rw [← Hoe2.out], ?_⟩
       exact Below.sets _ Bw (by omega)
end Go.Proofs.YteggpddlkkjmjaaGreatDoor
