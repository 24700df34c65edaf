/- Part of a proof: what functions of the program compute. Conditions: as each theorem says. -/
import Derived.Maps.RangeWalk
import Derived.Test.YteggpddlkkjmjaaGreatDoorQ48
import Derived.Test.YteggpddlkkjmjaaGreatDoorQ49
import Derived.Test.YteggpddlkkjmjaaGreatDoorQ7
set_option linter.unusedSimpArgs false
set_option linter.unusedVariables false
set_option maxHeartbeats 4000000
set_option maxRecDepth 50000
namespace Go.Proofs.YteggpddlkkjmjaaGreatDoor
open Go Go.RowKit
def pastI (acts : List Actn) (q : Clk) : List Int := (acts.zipIdx.filter fun p => hasC q p.1.op.rep p.1.num).map fun p => (p.2 : Int)
def besI (acts : List Actn) (q : Clk) : List Int := (bix acts q).map fun p => (p.2 : Int)
theorem pastI_snoc {acts : List Actn} {q : Clk} {k : Nat} {y : Actn} (h : acts[k]? = some y) : pastI (acts.take (k + 1)) q = pastI (acts.take k) q ++ if hasC q y.op.rep y.num = true then [(k : Int)] else [] := by
 have hk : k < acts.length := (List.getElem?_eq_some_iff.1 h).1
 have hl : (acts.take k).length = k := by rw [List.length_take]; omega
 unfold pastI
 rw [List.take_add_one, h, Option.toList_some, List.zipIdx_append, List.filter_append, List.map_append, hl]
 congr 1
 cases hh : hasC q y.op.rep y.num <;> simp [hh]
theorem besI_snoc {acts : List Actn} {q : Clk} {k : Nat} {y : Actn} (h : acts[k]? = some y) : besI (acts.take (k + 1)) q = besI (acts.take k) q ++ if hasC q y.op.rep y.num = true then [] else [(k : Int)] := by
 unfold besI
 rw [bix_snoc h, List.map_append]
 split <;> rfl
theorem pastI_length (acts : List Actn) (q : Clk) : (pastI acts q).length ≤ acts.length := by
 unfold pastI
 rw [List.length_map]
 have := List.length_filter_le (fun p : Actn × Nat => hasC q p.1.op.rep p.1.num) acts.zipIdx
 rw [List.length_zipIdx] at this
 exact this
theorem besI_length (acts : List Actn) (q : Clk) : (besI acts q).length ≤ acts.length := by
 unfold besI
 rw [List.length_map]
 exact bix_length acts q
theorem parts_length (acts : List Actn) (q : Clk) : (pastI acts q).length + (besI acts q).length = acts.length := by
 unfold pastI besI bix
 rw [List.length_map, List.length_map]
 have h1 : ∀ l : List (Actn × Nat), (l.filter fun p => hasC q p.1.op.rep p.1.num).length + (l.filter fun p => ! hasC q p.1.op.rep p.1.num).length = l.length := fun l => by
  induction l with
  | nil => rfl
  | cons p l ih => cases hh : hasC q p.1.op.rep p.1.num <;> simp [List.filter_cons, hh] <;> omega
 rw [h1, List.length_zipIdx]
theorem rsplit_any (w : World) (rb : Nat) (S : Nat → Prop) (s : Lg) (q : Clk) (h : RLogAt w S rb s) (ha : s.acts.length ≤ 1048576) :
 Calls Tryz.prog 39 #[.pointer (some ⟨rb, 0, none⟩), q.agg] w fun e w' => ∃ A1 n1 c1 A2 n2 c2, e = .returned (.tuple #[.slice A1 n1 c1, .slice A2 n2 c2]) ∧ GOwn 3 w' w.heap.size A1 n1 c1 (pastI s.acts q) ∧ GOwn 3 w' w.heap.size A2 n2 c2 (besI s.acts q) ∧ Below w.heap.size w w' := by
 obtain ⟨E, ce, A, c, B, d, L, cl, SR, h, -⟩ := h
 have e0 : Below w.heap.size w (w.alloc (.cells q.vals 44)) := balloc (Below.refl _ _)
 have hq := Blk.new w 44 q.vals
 have hX := h.step e0
 have HX := hid hX
 have Hrow := hid (hX.a.row (S := fun _ => True) fun _ _ _ => trivial)
 have Hq := hid hq
 have Hh := hid (fun (x : Actn) W => refHas_any q x.op.rep x.num W)
 clear h hX hq
 simp only [Clk.agg] at *
 unfold Clk.vals at *
 go_enter Tryz.func39, Tryz.ntmps39
 repeat' (first | (with_reducible refine stop_region 1 ?_) | go_step)
 refine Stop.go ?_
 generalize w.alloc (.cells #[.int .i64 q.c0, .int .i64 q.c1, .int .i64 q.c2, .int .i64 q.c3, .int .i64 q.c4, .int .i64 q.c5, .int .i64 q.c6, .int .i64 q.c7] 44) = X at *
 repeat' (first | go_step)
 go_loopw [6, 7, 8] (fun p b i wr => ∃ (k n1 c1 n2 c2 : Nat) (A1 A2 : Option Addr), p = .slice A1 n1 c1 ∧ b = .slice A2 n2 c2 ∧ i = .int .i64 k ∧ k ≤ s.acts.length ∧ GOwn 3 wr X.heap.size A1 n1 c1 (pastI (s.acts.take k) q) ∧ GOwn 3 wr X.heap.size A2 n2 c2 (besI (s.acts.take k) q) ∧ (∀ x y, A1 = some x → A2 = some y → x.block ≠ y.block) ∧ Below X.heap.size X wr) (fun _ _ i _ => s.acts.length - (intOf i).toNat)
 case atStart => exact ⟨0, 0, 0, 0, 0, none, none, rfl, rfl, rfl, Nat.zero_le _, GOwn.nil _ _ _, GOwn.nil _ _ _, fun x y hx => (by cases hx), Below.refl _ _⟩
 case round =>
  obtain ⟨k, n1, c1, n2, c2, A1, A2, rfl, rfl, rfl, hk, o1, o2, hap, hbr⟩ := hrel
  have g2 : wr.cell? ⟨rb, 2, none⟩ = some (.slice A s.acts.length c) := (HX.out.step hbr).g.cell 2
  have gl := (HX.out.step hbr).g.lt
  by_cases hlt : k < s.acts.length
  · have hbd := hbr.drew
    obtain ⟨b, off, x, rfl, -, hbl, hx, hcell⟩ := (Hrow.out.step hbd).at_ hlt
    have c3 : wr.drew.cell? ⟨b, off + k * 13 + 3, none⟩ = some (.int .i64 x.op.rep) := hcell 3 _ rfl
    have c4 : wr.drew.cell? ⟨b, off + k * 13 + 4, none⟩ = some (.int .i64 x.num) := hcell 4 _ rfl
    have hqb := (Hq.out.step hbd)
    obtain ⟨q0, q1, q2, q3, q4, q5, q6, q7⟩ := cl8 (w := wr.drew) (g := w.heap.size) hqb
    have ql := hqb.lt
    have Hhx := hid (Hh.out x)
    have hp1 := o1.1
    have hp2 := o2.1
    have hn1 : n1 ≤ 1048576 := by
     have := pastI_length (s.acts.take k) q
     have := List.length_take_le k s.acts
     omega
    have hn2 : n2 ≤ 1048576 := by
     have := besI_length (s.acts.take k) q
     have := List.length_take_le k s.acts
     omega
    have HS1 := hid (pastI_snoc (q := q) hx)
    have HS2 := hid (besI_snoc (q := q) hx)
    have Ho1 := hid (o1.step (bdrew (Below.refl _ wr)))
    have Ho2 := hid (o2.step (bdrew (Below.refl _ wr)))
    clear hcell hx hqb o1 o2
    rcases hhc : hasC q x.op.rep x.num with _ | _
    · rw [hhc] at Hhx
      repeat' (first | ((with_reducible refine region_at 5 ?_); refine wp_region_ordT (fun _ => True) (rgo [0,4,8,12,16,20,24,28,32,36,40,44,48,52,56,60,64,68,73] .nil) (by kernel_rfl) (by kernel_rfl) (by kernel_rfl) rfl rfl ?_) | (go_at_call 52; go_must ((with_reducible refine Calls.mono (Hhx.out _) ?_); rintro _ w3 ⟨rfl, hb3⟩; dsimp only)) | (with_reducible refine stop_region 7 ?_) | (with_reducible refine Keep.below (by assumption) ?_) | ((with_reducible refine WpO.here ?_); first | (refine WpO.done ?_; refine NoP.normal ?_) | ((first | refine WpO.load (by rfl) (by rfl) (by go_simp; rfl) ?_ | refine WpO.pure (by rfl) (fun w_ => by go_simp; (try go_bits); rfl) ?_); go_frame) | refine WpO.wild ?_) | ((with_reducible refine wildO.here ?_); (refine wildO.go (by rfl) (fun _ _ => ?_))) | go_step)
      refine Stop.go ?_
      have hz3 := hb3.size
      have hzr := hbr.size
      have hwd : wr.drew.heap.size = wr.heap.size := rfl
      have eK : Below w3.heap.size w3 (w3.alloc (.cells #[.int .i64 k] 3)) := balloc (Below.refl _ _)
      have oI := (Ho2.out.step hb3).step eK
      have oJ := (Ho1.out.step hb3).step eK
      have rK := (GOwn.lit (t := 3) w3 #[.int .i64 k] [(k : Int)] 0 (Nat.zero_le _) (show 1 ≤ maxLen by decide) rfl).row (S := fun _ => True) fun _ _ _ => trivial
      have hzK := eK.size
      repeat' (first | ((with_reducible refine app_ints_here ?_); go_must (refine wp_append_ints X.heap.size _ _ _ _ 1 1 _ [(k : Int)] (fun _ => True) (by rfl) (by rfl) oI rK (by omega) (by omega) ?_; intro A' c' w4 hA hb4 hsm hat hz4; try dsimp only)) | go_step)
      have hbb := (bvia (bvia hbd hb3) eK).trans hb4
      have hother := oJ.keep hsm fun x hx g hg => by first | exact fun e => hap _ _ hx hg e.symm | exact fun e => hap _ _ hg hx e
      go_roundw
      case rel =>
       refine ⟨k + 1, n1, c1, n2 + 1, c', A1, A', rfl, rfl, by go_num, by omega, ?_, ?_, ?_, hbb⟩
       · have h1 := HS1.out
         rw [hhc, if_neg (by simp), List.append_nil] at h1
         rw [h1]
         exact hother
       · have h1 := HS2.out
         rw [hhc, if_neg (by simp)] at h1
         rw [h1]
         exact hA
       · intro x y hx hy
         rcases hat with rfl | ⟨g, rfl, hg⟩
         · exact hap x y hx hy
         · cases hy
           have := (Ho1.out.block x hx).2
           have h9 : x.block < wr.heap.size := this
           show x.block ≠ g
           omega
      case measure => simp [intOf]; omega
    · rw [hhc] at Hhx
      repeat' (first | ((with_reducible refine region_at 5 ?_); refine wp_region_ordT (fun _ => True) (rgo [0,4,8,12,16,20,24,28,32,36,40,44,48,52,56,60,64,68,73] .nil) (by kernel_rfl) (by kernel_rfl) (by kernel_rfl) rfl rfl ?_) | (go_at_call 52; go_must ((with_reducible refine Calls.mono (Hhx.out _) ?_); rintro _ w3 ⟨rfl, hb3⟩; dsimp only)) | (with_reducible refine stop_region 6 ?_) | (with_reducible refine Keep.below (by assumption) ?_) | ((with_reducible refine WpO.here ?_); first | (refine WpO.done ?_; refine NoP.normal ?_) | ((first | refine WpO.load (by rfl) (by rfl) (by go_simp; rfl) ?_ | refine WpO.pure (by rfl) (fun w_ => by go_simp; (try go_bits); rfl) ?_); go_frame) | refine WpO.wild ?_) | ((with_reducible refine wildO.here ?_); (refine wildO.go (by rfl) (fun _ _ => ?_))) | go_step)
      refine Stop.go ?_
      have hz3 := hb3.size
      have hzr := hbr.size
      have hwd : wr.drew.heap.size = wr.heap.size := rfl
      have eK : Below w3.heap.size w3 (w3.alloc (.cells #[.int .i64 k] 3)) := balloc (Below.refl _ _)
      have oI := (Ho1.out.step hb3).step eK
      have oJ := (Ho2.out.step hb3).step eK
      have rK := (GOwn.lit (t := 3) w3 #[.int .i64 k] [(k : Int)] 0 (Nat.zero_le _) (show 1 ≤ maxLen by decide) rfl).row (S := fun _ => True) fun _ _ _ => trivial
      have hzK := eK.size
      repeat' (first | ((with_reducible refine app_ints_here ?_); go_must (refine wp_append_ints X.heap.size _ _ _ _ 1 1 _ [(k : Int)] (fun _ => True) (by rfl) (by rfl) oI rK (by omega) (by omega) ?_; intro A' c' w4 hA hb4 hsm hat hz4; try dsimp only)) | go_step)
      have hbb := (bvia (bvia hbd hb3) eK).trans hb4
      have hother := oJ.keep hsm fun x hx g hg => by first | exact fun e => hap _ _ hx hg e.symm | exact fun e => hap _ _ hg hx e
      go_roundw
      case rel =>
       refine ⟨k + 1, n1 + 1, c', n2, c2, A', A2, rfl, rfl, by go_num, by omega, ?_, ?_, ?_, hbb⟩
       · have h1 := HS1.out
         rw [hhc, if_pos rfl] at h1
         rw [h1]
         exact hA
       · have h1 := HS2.out
         rw [hhc, if_pos rfl, List.append_nil] at h1
         rw [h1]
         exact hother
       · intro x y hx hy
         rcases hat with rfl | ⟨g, rfl, hg⟩
         · exact hap x y hx hy
         · cases hx
           have := (Ho2.out.block y hy).2
           have h9 : y.block < wr.heap.size := this
           show g ≠ y.block
           omega
      case measure => simp [intOf]; omega
  · obtain rfl : k = s.acts.length := by omega
    rw [List.take_length] at o1 o2
    repeat' (first | go_step)
    go_ret2
    have hz := e0.size
    exact ⟨A1, n1, c1, A2, n2, c2, rfl, o1.mono hz, o2.mono hz, bvia e0 hbr⟩
theorem GOwn.dodge {α : Type} [Enc α] {t : TypeId} {V : World} {base n c D : Nat} {A : Option Addr} {es : List α} (h : GOwn t V base A n c es) (hD : V.heap[D]? = some (.deferred (some []))) : ∀ a, A = some a → a.block ≠ D := by
 intro a ha e
 rcases h.2.2 with h0 | ⟨g', cap, cur, e', hbg, hh, r⟩
 · injection h0.1 with h0
   rw [ha] at h0
   cases h0
 · injection e' with e1 e2 e3
   rw [ha] at e1
   injection e1 with e1
   subst e1
   have e : g' = D := e
   subst e
   rw [hh] at hD
   cases hD
theorem besI_at {acts : List Actn} {q : Clk} {n j : Nat} {y : Actn} (hy : acts[n]? = some y) (hh : hasC q y.op.rep y.num = false) (hj : j = (besI (acts.take n) q).length) : (besI acts q)[j]? = some (n : Int) := by
 obtain ⟨r, hr⟩ := bix_prefix acts q (n + 1)
 have h1 : besI acts q = besI (acts.take (n + 1)) q ++ r.map fun p => (p.2 : Int) := by unfold besI; rw [← hr, List.map_append]
 have h2 := besI_snoc (q := q) hy
 rw [hh, if_neg (by simp)] at h2
 rw [h1, h2, List.append_assoc, List.getElem?_append_right (by omega), hj, Nat.sub_self]
 rfl
theorem besI_not {acts : List Actn} {q : Clk} {n j : Nat} {y : Actn} (hy : acts[n]? = some y) (hh : hasC q y.op.rep y.num = true) : (besI acts q)[j]? ≠ some (n : Int) := fun h => by
 have hm := List.mem_of_getElem? h
 unfold besI bix at hm
 obtain ⟨⟨z, k⟩, hz, hk⟩ := List.mem_map.1 hm
 rw [List.mem_filter] at hz
 have hk' : k = n := by
  have h2 : (k : Int) = (n : Int) := hk
  omega
 subst hk'
 have h2 : acts[k]? = some z := List.mk_mem_zipIdx_iff_getElem?.1 hz.1
 rw [h2] at hy
 cases hy
 have := hz.2
 simp [hh] at this
def BesAt (Z V : World) (nb : Nat) (xs : List (Actn × Nat)) : Prop := ∃ A c, Blk V nb 60 #[.slice A xs.length c] ∧ GOwn 3 V Z.heap.size A xs.length c (xs.map fun p => (p.2 : Int)) ∧ Out (fun b => b = nb) Z V
theorem hsplit_any (w : World) (gb K : Nat) (S : Nat → Prop) (s : Lg) (q : Clk) (h : LogAt w S gb s K) (ha : s.acts.length ≤ 1048576) :
 Calls Tryz.prog 38 #[.pointer (some ⟨gb, 0, none⟩), q.agg] w fun e w' => ∃ A1 n1 c1 A2 n2 c2, e = .returned (.tuple #[.slice A1 n1 c1, .slice A2 n2 c2]) ∧ GOwn 3 w' w.heap.size A1 n1 c1 (pastI s.acts q) ∧ GOwn 3 w' w.heap.size A2 n2 c2 (besI s.acts q) ∧ Below w.heap.size w w' := by
 obtain ⟨bm, mb, A, c, B, d, SM, h, -⟩ := h
 have hgl0 := h.g.lt
 have hal0 := fun x hx => (h.a.block x hx).2
 obtain ⟨hq, hn, e0⟩ := twoBoxes w 44 60 q.vals #[.slice none 0 0]
 have Hg := hid (h.step e0)
 have HBs := hid (fun W => beside_any gb q W)
 have HQ := hid hq
 have HN := hid hn
 have HE := hid e0
 clear h hq hn e0
 simp only [Clk.agg] at *
 unfold Clk.vals at *
 refine calls_of_marks Tryz.func38 rfl ?_
 simp only [Tryz.ntmps38, List.size_toArray, List.length_cons, List.length_nil, Nat.reduceAdd, Nat.reduceSub, Array.replicate_succ, Array.replicate_zero, List.push_toArray, List.append_toArray, List.nil_append, List.cons_append]
 repeat' (first | (with_reducible refine stop_region 1 ?_) | go_step)
 refine Stop.go ?_
 generalize (w.alloc (.cells #[.int .i64 q.c0, .int .i64 q.c1, .int .i64 q.c2, .int .i64 q.c3, .int .i64 q.c4, .int .i64 q.c5, .int .i64 q.c6, .int .i64 q.c7] 44)).alloc (.cells #[.slice none 0 0] 60) = X at *
 have hqX := HQ.out
 obtain ⟨q0, q1, q2, q3, q4, q5, q6, q7⟩ := cl8 (w := X) (g := w.heap.size) hqX
 have ql := hqX.lt
 clear hqX
 repeat' (first | (go_at_call 78; go_must ((with_reducible refine Calls.mono (HBs.out _) ?_); rintro _ _ ⟨rfl, rfl⟩; dsimp only)) | (with_reducible refine stop_block 0 ?_) | go_step)
 refine Stop.go ?_
 clear q0 q1 q2 q3 q4 q5 q6 q7 ql HBs
 obtain ⟨hl2, hc2, eZ⟩ := twoBoxes X 30 44 #[.pointer (some ⟨gb, 0, none⟩)] #[.int .i64 q.c0, .int .i64 q.c1, .int .i64 q.c2, .int .i64 q.c3, .int .i64 q.c4, .int .i64 q.c5, .int .i64 q.c6, .int .i64 q.c7]
 have hnZ := HN.out.step eZ
 have hgZ := Hg.out.step eZ
 have hbZ := bvia HE.out eZ
 have hnl := HN.out.lt
 have hgl := Hg.out.g.lt
 have sA : (X.alloc (.cells #[.pointer (some ⟨gb, 0, none⟩)] 30)).heap.size = X.heap.size + 1 := Array.size_push _
 have sZ : ((X.alloc (.cells #[.pointer (some ⟨gb, 0, none⟩)] 30)).alloc (.cells #[.int .i64 q.c0, .int .i64 q.c1, .int .i64 q.c2, .int .i64 q.c3, .int .i64 q.c4, .int .i64 q.c5, .int .i64 q.c6, .int .i64 q.c7] 44)).heap.size = X.heap.size + 1 + 1 := by rw [← sA]; exact Array.size_push _
 clear sA
 generalize (X.alloc (.cells #[.pointer (some ⟨gb, 0, none⟩)] 30)).alloc (.cells #[.int .i64 q.c0, .int .i64 q.c1, .int .i64 q.c2, .int .i64 q.c3, .int .i64 q.c4, .int .i64 q.c5, .int .i64 q.c6, .int .i64 q.c7] 44) = Z at *
 have hXlt : ∀ b, BsX X.heap.size (X.heap.size + 1) gb A b → b < Z.heap.size ∧ b ≠ w.heap.size + 1 := by
  rintro b (rfl | rfl | rfl | ⟨x, hx, rfl⟩)
  · omega
  · omega
  · omega
  · have := hal0 x hx
    omega
 have HXlt := hid hXlt
 refine wp_rangeFunc_block 4 (gf := 115) (lb := #[.pointer (some ⟨X.heap.size, 0, none⟩), .pointer (some ⟨X.heap.size + 1, 0, none⟩)]) rfl (enters_fn Tryz.func115 (by kernel_rfl) rfl)
  (besideSeq Z _ _ gb bm mb c d K A B SM s q hl2 (by exact hc2) hgZ.g hgZ.a ha) (fun h k => h.trans k) (fun V l o o' hl h hc => ⟨by simp, fun b hb hlt => World.putObj_heap_other (by have := (hXlt b hb).1; omega)⟩) (fun _ => rfl)
  (fun pre V => BesAt Z V (w.heap.size + 1) pre) (fun V => BesAt Z V (w.heap.size + 1) (bix s.acts q))
  ?ab1 ?ab2 ⟨none, 0, hnZ, GOwn.nil _ _ _, Out.refl _ _⟩ ?round ?done ?end_
 case ab1 =>
  rintro xs V V' ⟨A', c', h1, h2, h3⟩ hT
  exact ⟨A', c', h1.turn hT (by omega), h2.turnT hT (by decide), h3.turn8 hT (Nat.le_refl _)⟩
 case ab2 =>
  rintro _ V V' ⟨A', c', h1, h2, h3⟩ hT
  exact ⟨A', c', h1.turn hT (by omega), h2.turnT hT (by decide), h3.turn8 hT (Nat.le_refl _)⟩
 case round =>
  rintro ll pre ⟨y, i0⟩ V hll ⟨rc, hrc⟩ ⟨A', c', h1, h2, h3⟩ hG
  simp only [actNum, Actn.agg, Actn.vals, putArgs2, List.setIfInBounds_toArray, List.set_cons_zero, List.set_cons_succ]
  repeat' (first | ((with_reducible refine regionIn_ff ?_); refine wpIn_region_r rfl ?_) | go_step | (with_reducible refine NoO.normal ?_))
  refine ⟨KeepN.refl _ _, KpX.refl _ _, fun W2 hB2 => ?_⟩
  have k1 := hB2.blk h1
  have k2 := h2.begunT hB2
  have k3 := h3.begun8 hB2 hll
  have hlen : pre.length ≤ 1048576 := by
   have h5 := hG.length_le
   have h6 := bix_length s.acts q
   rw [List.length_append] at h5
   omega
  have hpre : (pre ++ [(y, i0)]).length = pre.length + 1 := by simp
  have hmap : (pre ++ [(y, i0)]).map (fun p => (p.2 : Int)) = pre.map (fun p => (p.2 : Int)) ++ [(i0 : Int)] := by simp
  have Hpre := hid (And.intro hpre hmap)
  clear hG h1 h2 h3 hB2 hrc hpre hmap
  generalize pre.length = m at *
  generalize pre.map (fun p => (p.2 : Int)) = es at *
  have l0 := k1.cell 0
  simp at l0
  have ll0 := k1.lt
  have eX : Below W2.heap.size W2 (W2.alloc (.cells #[.int .i64 i0] 3)) := balloc (Below.refl _ _)
  have rK := (GOwn.lit (t := 3) W2 #[.int .i64 i0] [(i0 : Int)] 0 (Nat.zero_le _) (show 1 ≤ maxLen by decide) rfl).row (S := fun _ => True) fun _ _ _ => trivial
  have k2x := k2.step eX
  have k1x := k1.step eX
  have hsx := Nat.le_trans k3.size eX.size
  repeat' (first | ((with_reducible refine app_ints_here ?_); go_must (refine wp_append_ints Z.heap.size _ _ _ _ 1 1 es [(i0 : Int)] (fun _ => True) (by rfl) (by rfl) k2x rK hsx (by omega) ?_; intro A4 c4 w4 hown4 hb4 hsm4 hat4 hz4; have hl4 := k1x.below hb4 (by omega); obtain ⟨-, l4, f4⟩ := bl1 hl4; have hll4 := hl4.lt; try dsimp only)) | ((with_reducible refine regionIn_ff ?_); refine wpIn_region_r rfl ?_) | go_step | (with_reducible refine NoO.normal ?_) | gi_step)
  have keep : ∀ b o, Z.heap.size ≤ b → W2.heap[b]? = some o → (∀ cs z, o ≠ .cells cs 3 z) → (w4.setCell ⟨w.heap.size + 1, 0, none⟩ (.slice A4 (m + 1) c4)).heap[b]? = some o := fun b o hb ho hn =>
   (Below.heap_setCell _ _ _ _ (show b ≠ w.heap.size + 1 by omega)).trans (k2x.otherT hsm4 ((eX.block b (lt_of_heap ho)).trans ho) hn)
  have hbelow : Below Z.heap.size W2 w4 := (eX.mono k3.size).trans hb4
  refine ⟨fun b o hb ho hc => keep b o hb ho (fun cs z e => by subst e; cases hc), ⟨by have := hbelow.size; simpa [World.setCell] using this, fun b hb hl => (Below.heap_setCell _ _ _ _ (HXlt.out b hb).2).trans (hbelow.block b (HXlt.out b hb).1)⟩, ?_⟩
  refine ⟨A4, c4, ?_, ?_, ?_⟩
  · rw [Hpre.out.1]
    exact hl4.set_ 0 _
  · rw [Hpre.out.1, Hpre.out.2]
    exact hown4.keep (S := fun b => b ≠ w.heap.size + 1) (Same.setCell _ (fun h => h rfl) _) fun a ha => by have := (hown4.block a ha).1; omega
  · have h1 : Out (fun b => b = w.heap.size + 1) Z w4 := ⟨hbelow.os.trans k3.os, hbelow.tape.trans k3.tape, hbelow.output.trans k3.output, Nat.le_trans k3.size hbelow.size, fun b hb hn => (hbelow.block b hb).trans (k3.block b hb hn)⟩
    exact h1.trans (Out.setCell (S := fun b => b = w.heap.size + 1) (p := ⟨w.heap.size + 1, 0, none⟩) rfl _) fun _ _ h => h
 case done =>
  rintro xs V rfl h
  exact h
 case end_ =>
  rintro D V hD ⟨A2, c2, hn2, ho2, hO⟩ hK
  have hlb : (bix s.acts q).length = (besI s.acts q).length := by unfold besI; rw [List.length_map]
  have ho2 : GOwn 3 V Z.heap.size A2 (besI s.acts q).length c2 (besI s.acts q) := hlb ▸ ho2
  rw [hlb] at hn2
  clear hlb
  have Hn2 := hid hn2
  have Ho2 := hid ho2
  have HgV := hid (hO.blk hgZ.g (by show ¬ gb = w.heap.size + 1; omega))
  have HaV := hid (hgZ.a.keep (S := fun b => b ≠ w.heap.size + 1) (fun b hb hl => hO.block b hl hb) fun x hx => by have := hal0 x hx; omega)
  have HK := hid hK
  have HO := hid hO
  have hbl := besI_length s.acts q
  obtain ⟨m, hm⟩ : ∃ m, m = (besI s.acts q).length := ⟨_, rfl⟩
  rw [← hm] at Hn2 Ho2 hbl
  have Hm := hid hm
  clear hn2 ho2 hK hO hgZ hl2 hc2 hnZ hm
  repeat' (first | go_step)
  go_loopw [4, 7, 8] (fun p i k wr => ∃ (n j n1 c1 : Nat) (A1 : Option Addr), p = .slice A1 n1 c1 ∧ i = .int .i64 n ∧ k = .int .i64 j ∧ n ≤ s.acts.length ∧ j = (besI (s.acts.take n) q).length ∧ GOwn 3 wr V.heap.size A1 n1 c1 (pastI (s.acts.take n) q) ∧ Below V.heap.size V wr) (fun _ i _ _ => s.acts.length - (intOf i).toNat)
  case atStart => exact ⟨0, 0, 0, 0, none, rfl, rfl, rfl, Nat.zero_le _, rfl, GOwn.nil _ _ _, Below.refl _ _⟩
  case round =>
   obtain ⟨n, j, n1, c1, A1, rfl, rfl, rfl, hn, hj, o1, hbr⟩ := hrel
   have g3 : wr.cell? ⟨gb, 3, none⟩ = some (.slice A s.acts.length c) := (HgV.out.step hbr).cell 3
   have gl := (HgV.out.step hbr).lt
   have hnb := Hn2.out.step hbr
   have b0 := hnb.cell 0
   simp at b0
   have b0l := hnb.lt
   clear hnb
   by_cases hlt : n < s.acts.length
   · have hjb : j ≤ 1048576 := by
      have := besI_length (s.acts.take n) q
      have := List.length_take_le n s.acts
      omega
     have hp1 := o1.1
     have hn1 : n1 ≤ 1048576 := by
      have := pastI_length (s.acts.take n) q
      have := List.length_take_le n s.acts
      omega
     obtain ⟨y, hy⟩ : ∃ y, s.acts[n]? = some y := ⟨_, List.getElem?_eq_getElem hlt⟩
     have HP := hid (pastI_snoc (q := q) hy)
     have HB := hid (besI_snoc (q := q) hy)
     have Ho1 := hid o1
     have Hj := hid hj
     rcases hh : hasC q y.op.rep y.num with _ | _
     · -- it is one of the others
       have hat : (besI s.acts q)[j]? = some (n : Int) := besI_at hy hh hj
       have hjm : j < m := by rw [Hm.out]; exact (List.getElem?_eq_some_iff.1 hat).1
       obtain ⟨b, off, e, hA2, -, hbl', he, hcell⟩ := ((Ho2.out.row (S := fun _ => True) fun _ _ _ => trivial).step hbr).at_ hjm
       obtain rfl : e = (n : Int) := Option.some.inj (he.symm.trans hat)
       have p0 : wr.cell? ⟨b, off + j * 1, none⟩ = some (.int .i64 n) := hcell 0 _ rfl
       rw [Nat.mul_one] at p0
       rw [hA2] at b0
       clear hcell o1 hj hy hat he
       repeat' (first | go_guarded | go_step)
       go_roundw
       case rel =>
        refine ⟨n + 1, j + 1, n1, c1, A1, rfl, by go_num, by go_num, by omega, ?_, ?_, hbr⟩
        · have h1 := HB.out
          rw [hh, if_neg (by simp)] at h1
          rw [h1, List.length_append, ← Hj.out]
          rfl
        · have h1 := HP.out
          rw [hh, if_neg (by simp), List.append_nil] at h1
          rw [h1]
          exact Ho1.out
       case measure => simp [intOf]; omega
     · have hnot : ∀ e, (besI s.acts q)[j]? = some e → e ≠ (n : Int) := fun e he hc => besI_not hy hh (hc ▸ he)
       have eK : Below wr.heap.size wr (wr.alloc (.cells #[.int .i64 n] 3)) := balloc (Below.refl _ _)
       have oK := o1.step eK
       have rK := (GOwn.lit (t := 3) wr #[.int .i64 n] [(n : Int)] 0 (Nat.zero_le _) (show 1 ≤ maxLen by decide) rfl).row (S := fun _ => True) fun _ _ _ => trivial
       have hzr := hbr.size
       have hzK := eK.size
       by_cases hjm : j < m
       · obtain ⟨b, off, e, hA2, -, hbl', he, hcell⟩ := ((Ho2.out.row (S := fun _ => True) fun _ _ _ => trivial).step hbr).at_ hjm
         have hne : e ≠ (n : Int) := hnot e he
         have hne' : (e == (n : Int)) = false := by simpa using hne
         have p0 : wr.cell? ⟨b, off + j * 1, none⟩ = some (.int .i64 e) := hcell 0 _ rfl
         rw [Nat.mul_one] at p0
         rw [hA2] at b0
         clear hcell o1 hj hy he hnot hne
         repeat' (first | ((with_reducible refine app_ints_here ?_); go_must (refine wp_append_ints V.heap.size _ _ _ _ 1 1 _ [(n : Int)] (fun _ => True) (by rfl) (by rfl) oK rK (by omega) (by omega) ?_; intro A' c' w4 hA hb4 hsm hat hz4; try dsimp only)) | go_guarded | go_step)
         go_roundw
         case rel =>
          refine ⟨n + 1, j, n1 + 1, c', A', rfl, by go_num, rfl, by omega, ?_, ?_, (bvia hbr eK).trans hb4⟩
          · have h1 := HB.out
            rw [hh, if_pos rfl, List.append_nil] at h1
            rw [h1]
            exact Hj.out
          · have h1 := HP.out
            rw [hh, if_pos rfl] at h1
            rw [h1]
            exact hA
         case measure => simp [intOf]; omega
       · have hmj : m ≤ j := by omega
         clear o1 hj hy hnot
         repeat' (first | ((with_reducible refine app_ints_here ?_); go_must (refine wp_append_ints V.heap.size _ _ _ _ 1 1 _ [(n : Int)] (fun _ => True) (by rfl) (by rfl) oK rK (by omega) (by omega) ?_; intro A' c' w4 hA hb4 hsm hat hz4; try dsimp only)) | go_guarded | go_step)
         go_roundw
         case rel =>
          refine ⟨n + 1, j, n1 + 1, c', A', rfl, by go_num, rfl, by omega, ?_, ?_, (bvia hbr eK).trans hb4⟩
          · have h1 := HB.out
            rw [hh, if_pos rfl, List.append_nil] at h1
            rw [h1]
            exact Hj.out
          · have h1 := HP.out
            rw [hh, if_pos rfl] at h1
            rw [h1]
            exact hA
         case measure => simp [intOf]; omega
   · obtain rfl : n = s.acts.length := by omega
     rw [List.take_length] at o1
     have hnb := Hn2.out.step hbr
     have d0 : wr.drew.cell? ⟨w.heap.size + 1, 0, none⟩ = some (.slice A2 m c2) := b0
     have f0 := hnb.frozen 0
     have fd0 := hnb.drew.frozen 0
     repeat' (first | ((with_reducible refine region_at 10 ?_); refine wp_region_order (rgl [0,4,8,15]) (by kernel_rfl) (by kernel_rfl) (by kernel_rfl) rfl rfl ?_) | (with_reducible refine Keep.last ?_) | ((with_reducible refine WpH.here ?_); first | (refine WpH.nil ?_; refine NoP.normal ?_) | ((first | refine WpH.load (by rfl) (by rfl) (by go_simp; rfl) ?_ | refine WpH.pure (by rfl) (fun w_ => by go_simp; (try go_bits); rfl) ?_); go_frame) | (refine WpH.wild1 (by rfl) (fun _ _ => ?_))) | go_step)
     have hz := (hnb.set_ 0 (.slice A2 m c2)).drew
     have hDl := lt_of_heap' HK.out
     have hVz := hbr.size
     have hZV := HO.out.size
     have oth : ∀ b, b ≠ w.heap.size + 1 → (wr.setCell ⟨w.heap.size + 1, 0, none⟩ (.slice A2 m c2)).drew.heap[b]? = wr.heap[b]? := fun b hb => Below.heap_setCell _ _ _ _ hb
     have hK5 := (oth D (by omega)).trans ((hbr.block D hDl).trans HK.out)
     have hbw : Below w.heap.size w (wr.setCell ⟨w.heap.size + 1, 0, none⟩ (.slice A2 m c2)).drew := by
      have h1 : Below w.heap.size w V := HO.out.below hbZ (Nat.le_refl _) (fun b hb => by rw [hb]; omega)
      exact bdrew (bset (bvia h1 hbr) (by show w.heap.size ≤ w.heap.size + 1; omega))
     have dg := Ho2.out.dodge HK.out
     generalize (wr.setCell ⟨w.heap.size + 1, 0, none⟩ (.slice A2 m c2)).drew = W5 at *
     have hz5 : Blk (W5.putObj D (.deferred none)) (w.heap.size + 1) 60 _ := (World.putObj_heap_other (show w.heap.size + 1 ≠ D by omega)).trans hz
     have v0 := hz5.cell 0
     simp at v0
     refine leaves1 hK5 (v := .tuple #[.slice A1 n1 c1, .slice A2 m c2]) (by rintro w' rfl; simp [results, Tryz.results38, go_sem, v0]) ⟨A1, n1, c1, A2, m, c2, rfl, ?_, ?_, ?_⟩
     · refine (o1.keep (S := fun b => b ≠ w.heap.size + 1 ∧ b ≠ D) (fun b hb _ => (World.putObj_heap_other hb.2).trans (oth b hb.1)) fun x hx => ?_).mono (by omega)
       have := (o1.block x hx).1
       exact ⟨by omega, by omega⟩
     · refine ((Ho2.out.step hbr).keep (S := fun b => b ≠ w.heap.size + 1 ∧ b ≠ D) (fun b hb _ => (World.putObj_heap_other hb.2).trans (oth b hb.1)) fun x hx => ?_).mono (by omega)
       have := (Ho2.out.block x hx).1
       exact ⟨by omega, dg x hx⟩
     · exact ⟨hbw.os, hbw.tape, hbw.output, by simpa using hbw.size, fun k hk => (World.putObj_heap_other (by omega)).trans (hbw.block k hk)⟩
end Go.Proofs.YteggpddlkkjmjaaGreatDoor
