/- The document's Cross: its walk. Conditions: the rows lie in memory, the numbers fit their kinds. -/
import Derived.Test.YtogkbddniacgiaaDoorOps4
namespace Go.Proofs.YtogkbddniacgiaaDoor
set_option linter.unusedSimpArgs false
set_option linter.unusedVariables false
open Go Go.RowKit
theorem stop_ops {ac : Act} {K : Act → World → Prop} {Q : Exit → Act → World → Prop} {w : World} {dst : Option Tmp} {s x : Operand} {ty : TypeId} {pos : String} {after : Array Edge} {guard : Option (Nat × Bool)}
    (h : Stop (Oper.wp Tryd.prog ⟨dst, .call ⟨.builtin .append, #[s, x], #[56, 56]⟩, ty, pos, after, guard⟩ ac w K Q)) : Oper.wp Tryd.prog ⟨dst, .call ⟨.builtin .append, #[s, x], #[56, 56]⟩, ty, pos, after, guard⟩ ac w K Q := by unfold Stop at h; exact h
set_option maxRecDepth 50000 in
set_option maxHeartbeats 4000000 in
theorem refCross_any (w : World) (A0 B0 : Option Addr) (n c m d : Nat) (xs bs : List Opn) (hx : GRow w (fun b => b < w.heap.size) A0 n c xs) (hb : GRow w (fun b => b < w.heap.size) B0 m d bs) (hn : n ≤ 1000) (hm : m ≤ 1000) (ix : ∀ o ∈ xs, o.In) (ib : ∀ o ∈ bs, o.In) :
    Calls Tryd.prog 50 #[.slice A0 n c, .slice B0 m d] w fun e w' => ∃ A c' B d', e = .returned (.tuple #[.slice A n c', .slice B m d']) ∧ GOwn 58 w' w.heap.size A n c' (crossOf xs bs).1 ∧ GOwn 58 w' w.heap.size B m d' (crossOf xs bs).2 ∧ Below w.heap.size w w' := by
  have Hx := hid hx
  have Hb := hid hb
  have Ix := hid ix
  have Ib := hid ib
  have hxl := hx.1
  have hbl := hb.1
  clear hx hb ix ib
  have hE := GOwn.lit (t := 58) w #[] ([] : List Opn) w.heap.size (Nat.le_refl _) (Nat.zero_le _) rfl
  have eE : Below w.heap.size w (w.alloc (.cells #[] 58)) := balloc (Below.refl _ _)
  go_enter Tryd.func50, Tryd.ntmps50
  repeat' (first | ((with_reducible refine app_ops_here ?_); refine wp_append_ops w.heap.size _ A0 0 0 n c [] xs (fun b => b < w.heap.size) (by rfl) (by rfl) hE (Hx.out.step eE) eE.size (by omega) ?_; intro A c' w1 hA hb1 hsm1 hat1 hz1) | (with_reducible refine Keep.last ?_) | (with_reducible refine Keep.below (by assumption) ?_) | (with_reducible refine Keep.kept (by assumption) ?_) | (with_reducible refine Keep.alloc ?_) | (with_reducible refine Keep.same ?_) | ((with_reducible refine WpH.here ?_); first | (refine WpH.nil ?_; refine NoP.normal ?_) | (refine WpH.load (by rfl) (by rfl) (by go_simp; rfl) ?_; simp only [Act.put, List.setIfInBounds_toArray, List.set_cons_zero, List.set_cons_succ]) | (refine WpH.loadT (by rfl) (by rfl) (by go_simp; rfl) (by rintro _ _ ⟨⟩; exact ⟨_, _, _, _, _, _, by rfl, by assumption, by assumption⟩) ?_; simp only [Act.put, List.setIfInBounds_toArray, List.set_cons_zero, List.set_cons_succ]) | (refine WpH.pure (by rfl) (fun w_ => by go_simp; (try go_bits); rfl) ?_; simp only [Act.put, List.setIfInBounds_toArray, List.set_cons_zero, List.set_cons_succ]) | (refine WpH.wild1 (by rfl) (fun _ _ => ?_)) | (refine WpH.skip (by rfl) ?_; simp only [Act.put, List.setIfInBounds_toArray, List.set_cons_zero, List.set_cons_succ])) | go_values | go_skip | go_guarded | go_step | go_upon | go_back)
  rw [Nat.zero_add, List.nil_append] at hA
  have HT := hid (fun x y W (h : Opn.In x) => refT_any x y W h)
  unfold Opn.agg at HT
  have hb1 := eE.trans hb1
  clear hsm1 hat1 hE eE hz1
  go_loopw [6, 7] (fun s i wr => ∃ (k : Nat) (B : Option Addr) (d' : Nat), s = .slice B k d' ∧ i = .int .i64 k ∧ k ≤ m ∧ GOwn 58 wr w.heap.size A n c' (crossOf xs (bs.take k)).1 ∧ GOwn 58 wr w.heap.size B k d' (crossOf xs (bs.take k)).2 ∧ (∀ a b, A = some a → B = some b → a.block ≠ b.block) ∧ Below w.heap.size w wr) (fun _ i _ => m - (intOf i).toNat)
  case atStart => exact ⟨0, none, 0, rfl, rfl, Nat.zero_le _, hA, GOwn.nil _ _ _, fun a b _ h => (by cases h), hb1⟩
  case round =>
    obtain ⟨k, B, d', rfl, rfl, hk, gA, gB, hap, hbr⟩ := hrel
    by_cases hlt : k < m
    · obtain ⟨b', off', b, hB0, hSb, hbl', hbk, hcell⟩ := (Hb.out.step hbr).at_ hlt
      subst hB0
      have c0 : wr.cell? ⟨b', off' + k * 4, none⟩ = some (.int .i64 b.kind) := hcell 0 _ rfl
      have c1 : wr.cell? ⟨b', off' + k * 4 + 1, none⟩ = some (.int .i64 b.at_) := hcell 1 _ rfl
      have c2 : wr.cell? ⟨b', off' + k * 4 + 2, none⟩ = some (.int .i32 b.char) := hcell 2 _ rfl
      have c3 : wr.cell? ⟨b', off' + k * 4 + 3, none⟩ = some (.int .i64 b.rep) := hcell 3 _ rfl
      have hL : (crossOf xs (bs.take k)).1.length = n := by rw [(crossOf_length _ _).1, hxl]
      have eX : Below wr.heap.size wr (wr.alloc (.cells #[.int .i64 b.kind, .int .i64 b.at_, .int .i32 b.char, .int .i64 b.rep] 58)) := balloc (Below.refl _ _)
      have gX := Blk.new wr 58 #[.int .i64 b.kind, .int .i64 b.at_, .int .i32 b.char, .int .i64 b.rep]
      have xA := gA.step eX
      have xB := gB.step eX
      have hbX := bvia hbr eX
      have hXl := gX.lt
      have Hap := hid hap
      have hzr := hbr.size
      clear hcell
      repeat' (first | (with_reducible refine Keep.last ?_) | (with_reducible refine Keep.below (by assumption) ?_) | (with_reducible refine Keep.kept (by assumption) ?_) | (with_reducible refine Keep.alloc ?_) | (with_reducible refine Keep.same ?_) | ((with_reducible refine WpH.here ?_); first | (refine WpH.nil ?_; refine NoP.normal ?_) | (refine WpH.load (by rfl) (by rfl) (by go_simp; rfl) ?_; simp only [Act.put, List.setIfInBounds_toArray, List.set_cons_zero, List.set_cons_succ]) | (refine WpH.loadT (by rfl) (by rfl) (by go_simp; rfl) (by rintro _ _ ⟨⟩; exact ⟨_, _, _, _, _, _, by rfl, by assumption, by assumption⟩) ?_; simp only [Act.put, List.setIfInBounds_toArray, List.set_cons_zero, List.set_cons_succ]) | (refine WpH.pure (by rfl) (fun w_ => by go_simp; (try go_bits); rfl) ?_; simp only [Act.put, List.setIfInBounds_toArray, List.set_cons_zero, List.set_cons_succ]) | (refine WpH.wild1 (by rfl) (fun _ _ => ?_)) | (refine WpH.skip (by rfl) ?_; simp only [Act.put, List.setIfInBounds_toArray, List.set_cons_zero, List.set_cons_succ])) | go_values | go_skip | go_guarded | go_step | go_upon | go_back)
      clear c0 c1 c2 c3
      generalize wr.alloc (.cells #[.int .i64 b.kind, .int .i64 b.at_, .int .i32 b.char, .int .i64 b.rep] 58) = X at *
      have HbA := hid (show ∀ a, A = some a → a.block < wr.heap.size from fun a h => (gA.block a h).2)
      have HbB := hid (show ∀ a, B = some a → a.block < wr.heap.size from fun a h => (gB.block a h).2)
      generalize hq : wr.heap.size = q at *
      go_loopw [9] (fun i wq => ∃ j : Nat, i = .int .i64 j ∧ j ≤ n ∧ GOwn 58 wq w.heap.size A n c' (leftAt (crossOf xs (bs.take k)).1 b j) ∧ GOwn 58 wq w.heap.size B k d' (crossOf xs (bs.take k)).2 ∧ Blk wq q 58 (opCells (crossIn ((crossOf xs (bs.take k)).1.take j) b).2) ∧ Below w.heap.size w wq) (fun i _ => n - (intOf i).toNat)
      case atStart => exact ⟨0, rfl, Nat.zero_le _, by rw [leftAt_zero]; exact xA, xB, gX, hbX⟩
      case round =>
        obtain ⟨j, rfl, hj, qA, qB, qX, hbq⟩ := hrel
        by_cases hlj : j < n
        · obtain ⟨g, o, hAe, ho, hg1, hg2, a0, a1, a2, a3, f0, f1, f2, f3⟩ := own_op qA hlj
          rw [leftAt_get (by omega)] at ho
          subst hAe
          have hgq := HbA.out _ rfl
          dsimp only at hgq
          have hpb := hid (bIn_succ (b := b) ho)
          have hls := hid (leftAt_succ (b := b) ho)
          obtain ⟨io, ip⟩ : o.In ∧ (crossIn (List.take j (crossOf xs (List.take k bs)).1) b).2.In := by
            have hc := crossOf_in (bs.take k) xs (fun x h => Ib.out x (List.mem_of_mem_take h)) Ix.out
            exact ⟨hc.1 o (List.mem_of_getElem? ho), (crossIn_in _ b (Ib.out b (List.mem_of_getElem? hbk)) (fun x h => hc.1 x (List.mem_of_mem_take h))).2⟩
          generalize (crossIn (List.take j (crossOf xs (List.take k bs)).1) b).2 = p at *
          have eY : Below wr.heap.size wr (wr.alloc (.cells #[.int .i64 o.kind, .int .i64 o.at_, .int .i32 o.char, .int .i64 o.rep] 58)) := balloc (Below.refl _ _)
          have gY := Blk.new wr 58 #[.int .i64 o.kind, .int .i64 o.at_, .int .i32 o.char, .int .i64 o.rep]
          have yA := qA.step eY
          have yB := qB.step eY
          have yX := qX.step eY
          have hbY := bvia hbq eY
          have hql := qX.lt
          unfold opCells at qX yX
          obtain ⟨x0, x1, x2, x3, -, -, -, -, xl⟩ := Blk.four qX
          have HTk := hid (fun W => HT.out o p W io)
          have HTl := hid (fun W => HT.out p o W ip)
          repeat' (first | (with_reducible refine stop_region 11 ?_) | (with_reducible refine Keep.last ?_) | (with_reducible refine Keep.below (by assumption) ?_) | (with_reducible refine Keep.kept (by assumption) ?_) | (with_reducible refine Keep.alloc ?_) | (with_reducible refine Keep.same ?_) | ((with_reducible refine WpH.here ?_); first | (refine WpH.nil ?_; refine NoP.normal ?_) | (refine WpH.load (by rfl) (by rfl) (by go_simp; rfl) ?_; simp only [Act.put, List.setIfInBounds_toArray, List.set_cons_zero, List.set_cons_succ]) | (refine WpH.loadT (by rfl) (by rfl) (by go_simp; rfl) (by rintro _ _ ⟨⟩; exact ⟨_, _, _, _, _, _, by rfl, by assumption, by assumption⟩) ?_; simp only [Act.put, List.setIfInBounds_toArray, List.set_cons_zero, List.set_cons_succ]) | (refine WpH.pure (by rfl) (fun w_ => by go_simp; (try go_bits); rfl) ?_; simp only [Act.put, List.setIfInBounds_toArray, List.set_cons_zero, List.set_cons_succ]) | (refine WpH.wild1 (by rfl) (fun _ _ => ?_)) | (refine WpH.skip (by rfl) ?_; simp only [Act.put, List.setIfInBounds_toArray, List.set_cons_zero, List.set_cons_succ])) | go_values | go_skip | go_guarded | go_step | go_upon | go_back)
          refine Stop.go ?_
          clear a0 a1 a2 a3 f0 f1 f2 f3 x0 x1 x2 x3
          generalize wr.alloc (.cells #[.int .i64 o.kind, .int .i64 o.at_, .int .i32 o.char, .int .i64 o.rep] 58) = Y at *
          obtain ⟨x0, x1, x2, x3, -, -, -, -, xl⟩ := Blk.four yX
          obtain ⟨t0, t1, t2, t3, -, -, -, -, tl⟩ := Blk.four gY
          generalize hv : wr.heap.size = v at *
          repeat' (first | (go_at_call 31; go_must ((with_reducible refine Calls.mono (HTk.out _) ?_); rintro _ w3 ⟨rfl, hb3⟩; have zA := yA.step hb3; have zB := yB.step hb3; have zX := yX.step hb3; have zY := gY.step hb3; obtain ⟨a0, a1, a2, a3, f0, f1, f2, f3, gg1, gg2⟩ := own_op' zA hlj (by rw [leftAt_get (by omega)]; exact ho); dsimp only)) | (with_reducible refine stop_region 12 ?_) | (with_reducible refine Keep.last ?_) | (with_reducible refine Keep.below (by assumption) ?_) | (with_reducible refine Keep.kept (by assumption) ?_) | (with_reducible refine Keep.alloc ?_) | (with_reducible refine Keep.same ?_) | ((with_reducible refine WpH.here ?_); first | (refine WpH.nil ?_; refine NoP.normal ?_) | (refine WpH.load (by rfl) (by rfl) (by go_simp; rfl) ?_; simp only [Act.put, List.setIfInBounds_toArray, List.set_cons_zero, List.set_cons_succ]) | (refine WpH.loadT (by rfl) (by rfl) (by go_simp; rfl) (by rintro _ _ ⟨⟩; exact ⟨_, _, _, _, _, _, by rfl, by assumption, by assumption⟩) ?_; simp only [Act.put, List.setIfInBounds_toArray, List.set_cons_zero, List.set_cons_succ]) | (refine WpH.pure (by rfl) (fun w_ => by go_simp; (try go_bits); rfl) ?_; simp only [Act.put, List.setIfInBounds_toArray, List.set_cons_zero, List.set_cons_succ]) | (refine WpH.wild1 (by rfl) (fun _ _ => ?_)) | (refine WpH.skip (by rfl) ?_; simp only [Act.put, List.setIfInBounds_toArray, List.set_cons_zero, List.set_cons_succ])) | go_values | go_skip | go_guarded | go_step | go_upon | go_back)
          refine Stop.go ?_
          have uA := zA.set4 (Tof o p) hlj
          have uB := zB.keep (set4_same (w := w3) (g := g) (a := j * 4) (b := j * 4 + 1) (c := j * 4 + 2) (d := j * 4 + 3) (x := .int .i64 (Tof o p).kind) (y := .int .i64 (Tof o p).at_) (z := .int .i32 (Tof o p).char) (u := .int .i64 (Tof o p).rep)) (fun a ha => fun e => Hap.out _ _ rfl ha e.symm)
          have uX := zX.keepS (set4_same (w := w3) (g := g) (a := j * 4) (b := j * 4 + 1) (c := j * 4 + 2) (d := j * 4 + 3) (x := .int .i64 (Tof o p).kind) (y := .int .i64 (Tof o p).at_) (z := .int .i32 (Tof o p).char) (u := .int .i64 (Tof o p).rep)) (fun e => by omega)
          have uY := zY.keepS (set4_same (w := w3) (g := g) (a := j * 4) (b := j * 4 + 1) (c := j * 4 + 2) (d := j * 4 + 3) (x := .int .i64 (Tof o p).kind) (y := .int .i64 (Tof o p).at_) (z := .int .i32 (Tof o p).char) (u := .int .i64 (Tof o p).rep)) (fun e => by omega)
          have hbU : Below w.heap.size w ((((w3.setCell ⟨g, j * 4, none⟩ (.int .i64 (Tof o p).kind)).setCell ⟨g, j * 4 + 1, none⟩ (.int .i64 (Tof o p).at_)).setCell ⟨g, j * 4 + 2, none⟩ (.int .i32 (Tof o p).char)).setCell ⟨g, j * 4 + 3, none⟩ (.int .i64 (Tof o p).rep)) := by (repeat' (first | (with_reducible exact Below.refl _ _) | (with_reducible assumption) | (with_reducible refine balloc ?_) | (with_reducible refine bdrew ?_) | (with_reducible refine bset ?_ (by (try dsimp only); omega)) | (with_reducible refine bvia ?_ (by assumption))))
          rw [← hls.out] at uA
          clear a0 a1 a2 a3 f0 f1 f2 f3 x0 x1 x2 x3 t0 t1 t2 t3 zA zB zX zY yA yB yX gY
          generalize ((((w3.setCell ⟨g, j * 4, none⟩ (.int .i64 (Tof o p).kind)).setCell ⟨g, j * 4 + 1, none⟩ (.int .i64 (Tof o p).at_)).setCell ⟨g, j * 4 + 2, none⟩ (.int .i32 (Tof o p).char)).setCell ⟨g, j * 4 + 3, none⟩ (.int .i64 (Tof o p).rep)) = V at *
          obtain ⟨x0, x1, x2, x3, -, -, -, -, xl'⟩ := Blk.four uX
          obtain ⟨t0, t1, t2, t3, -, -, -, -, tl'⟩ := Blk.four uY
          repeat' (first | (go_at_call 31; go_must ((with_reducible refine Calls.mono (HTl.out _) ?_); rintro _ w4 ⟨rfl, hb4⟩; have vA := uA.step hb4; have vB := uB.step hb4; have vX := uX.step hb4; obtain ⟨x0, x1, x2, x3, h0, h1, h2, h3, xl⟩ := Blk.four vX; dsimp only)) | (with_reducible refine Keep.last ?_) | (with_reducible refine Keep.below (by assumption) ?_) | (with_reducible refine Keep.kept (by assumption) ?_) | (with_reducible refine Keep.alloc ?_) | (with_reducible refine Keep.same ?_) | ((with_reducible refine WpH.here ?_); first | (refine WpH.nil ?_; refine NoP.normal ?_) | (refine WpH.load (by rfl) (by rfl) (by go_simp; rfl) ?_; simp only [Act.put, List.setIfInBounds_toArray, List.set_cons_zero, List.set_cons_succ]) | (refine WpH.loadT (by rfl) (by rfl) (by go_simp; rfl) (by rintro _ _ ⟨⟩; exact ⟨_, _, _, _, _, _, by rfl, by assumption, by assumption⟩) ?_; simp only [Act.put, List.setIfInBounds_toArray, List.set_cons_zero, List.set_cons_succ]) | (refine WpH.pure (by rfl) (fun w_ => by go_simp; (try go_bits); rfl) ?_; simp only [Act.put, List.setIfInBounds_toArray, List.set_cons_zero, List.set_cons_succ]) | (refine WpH.wild1 (by rfl) (fun _ _ => ?_)) | (refine WpH.skip (by rfl) ?_; simp only [Act.put, List.setIfInBounds_toArray, List.set_cons_zero, List.set_cons_succ])) | go_values | go_skip | go_guarded | go_step | go_upon | go_back)
          have sA := vA.keep (set4_same (w := w4) (g := q) (a := 0) (b := 1) (c := 2) (d := 3) (x := .int .i64 (Tof p o).kind) (y := .int .i64 (Tof p o).at_) (z := .int .i32 (Tof p o).char) (u := .int .i64 (Tof p o).rep)) (fun a ha => by injection ha with ha; rw [← ha]; exact Nat.ne_of_lt hgq)
          have sB := vB.keep (set4_same (w := w4) (g := q) (a := 0) (b := 1) (c := 2) (d := 3) (x := .int .i64 (Tof p o).kind) (y := .int .i64 (Tof p o).at_) (z := .int .i32 (Tof p o).char) (u := .int .i64 (Tof p o).rep)) (fun a ha => Nat.ne_of_lt (HbB.out a ha))
          refine ⟨⟨j + 1, by go_num, by omega, sA, sB, ?_, by (repeat' (first | (with_reducible exact Below.refl _ _) | (with_reducible assumption) | (with_reducible refine balloc ?_) | (with_reducible refine bdrew ?_) | (with_reducible refine bset ?_ (by (try dsimp only); omega)) | (with_reducible refine bvia ?_ (by assumption))))⟩, by simp [intOf]; omega⟩
          rw [hpb.out]
          exact Blk.all4 vX
        · obtain rfl : j = n := by omega
          have hle := leftAt_end (crossOf xs (bs.take k)).1 b
          rw [hL] at hle
          rw [hle, ← crossLeft_next hbk] at qA
          have htk : (crossOf xs (bs.take k)).1.take j = (crossOf xs (bs.take k)).1 := List.take_of_length_le (by omega)
          rw [htk] at qX
          have hout : (crossOf xs (bs.take (k + 1))).2 = (crossOf xs (bs.take k)).2 ++ [(crossIn (crossOf xs (bs.take k)).1 b).2] := by rw [take_snoc_g hbk, crossOf_snoc]
          generalize (crossIn (crossOf xs (bs.take k)).1 b).2 = p at *
          unfold opCells at qX
          obtain ⟨x0, x1, x2, x3, -, -, -, -, xl⟩ := Blk.four qX
          have hlit := (GOwn.lit (t := 58) wr #[.int .i64 p.kind, .int .i64 p.at_, .int .i32 p.char, .int .i64 p.rep] [p] 0 (Nat.zero_le _) (show 1 ≤ maxLen by decide) rfl).row (S := fun _ => True) fun _ _ _ => trivial
          have eZ : Below wr.heap.size wr (wr.alloc (.cells #[.int .i64 p.kind, .int .i64 p.at_, .int .i32 p.char, .int .i64 p.rep] 58)) := balloc (Below.refl _ _)
          have zA := qA.step eZ
          have zB := qB.step eZ
          have hbZ := bvia hbq eZ
          have hzZ := hbZ.size
          repeat' (first | ((with_reducible refine app_ops_here ?_); refine wp_append_ops w.heap.size B _ k d' 1 1 (crossOf xs (bs.take k)).2 [p] (fun _ => True) (by rfl) (by rfl) zB hlit hzZ (by omega) ?_; intro B' d2 w5 hB5 hb5 hsm5 hat5 hz5) | (with_reducible refine Keep.last ?_) | (with_reducible refine Keep.below (by assumption) ?_) | (with_reducible refine Keep.kept (by assumption) ?_) | (with_reducible refine Keep.alloc ?_) | (with_reducible refine Keep.same ?_) | ((with_reducible refine WpH.here ?_); first | (refine WpH.nil ?_; refine NoP.normal ?_) | (refine WpH.load (by rfl) (by rfl) (by go_simp; rfl) ?_; simp only [Act.put, List.setIfInBounds_toArray, List.set_cons_zero, List.set_cons_succ]) | (refine WpH.loadT (by rfl) (by rfl) (by go_simp; rfl) (by rintro _ _ ⟨⟩; exact ⟨_, _, _, _, _, _, by rfl, by assumption, by assumption⟩) ?_; simp only [Act.put, List.setIfInBounds_toArray, List.set_cons_zero, List.set_cons_succ]) | (refine WpH.pure (by rfl) (fun w_ => by go_simp; (try go_bits); rfl) ?_; simp only [Act.put, List.setIfInBounds_toArray, List.set_cons_zero, List.set_cons_succ]) | (refine WpH.wild1 (by rfl) (fun _ _ => ?_)) | (refine WpH.skip (by rfl) ?_; simp only [Act.put, List.setIfInBounds_toArray, List.set_cons_zero, List.set_cons_succ])) | go_values | go_skip | go_guarded | go_step | go_upon | go_back)
          have zA5 := zA.keep hsm5 (fun a ha b hb e => Hap.out a b ha hb e.symm)
          refine ⟨⟨k + 1, B', d2, rfl, by go_num, by omega, zA5, by rw [hout]; exact hB5, ?_, hbZ.trans hb5⟩, by simp [intOf]; omega⟩
          intro a b ha hb
          rcases hat5 with e | ⟨g, e, hg⟩
          · rw [e] at hb
            exact Hap.out a b ha hb
          · rw [e] at hb
            injection hb with hb
            subst hb
            have := (zA.block a ha).2
            dsimp only
            omega
    · obtain rfl : k = m := by omega
      have ht : bs.take k = bs := List.take_of_length_le (by omega)
      rw [ht] at gA gB
      repeat' (first | (with_reducible refine Keep.last ?_) | (with_reducible refine Keep.below (by assumption) ?_) | (with_reducible refine Keep.kept (by assumption) ?_) | (with_reducible refine Keep.alloc ?_) | (with_reducible refine Keep.same ?_) | ((with_reducible refine WpH.here ?_); first | (refine WpH.nil ?_; refine NoP.normal ?_) | (refine WpH.load (by rfl) (by rfl) (by go_simp; rfl) ?_; simp only [Act.put, List.setIfInBounds_toArray, List.set_cons_zero, List.set_cons_succ]) | (refine WpH.loadT (by rfl) (by rfl) (by go_simp; rfl) (by rintro _ _ ⟨⟩; exact ⟨_, _, _, _, _, _, by rfl, by assumption, by assumption⟩) ?_; simp only [Act.put, List.setIfInBounds_toArray, List.set_cons_zero, List.set_cons_succ]) | (refine WpH.pure (by rfl) (fun w_ => by go_simp; (try go_bits); rfl) ?_; simp only [Act.put, List.setIfInBounds_toArray, List.set_cons_zero, List.set_cons_succ]) | (refine WpH.wild1 (by rfl) (fun _ _ => ?_)) | (refine WpH.skip (by rfl) ?_; simp only [Act.put, List.setIfInBounds_toArray, List.set_cons_zero, List.set_cons_succ])) | go_values | go_skip | go_guarded | go_step | go_upon | go_back)
      go_ret2
      exact ⟨A, c', B, d', rfl, gA, gB, hbr⟩
end Go.Proofs.YtogkbddniacgiaaDoor
