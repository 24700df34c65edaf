/- Part of a proof: what functions of the program compute. Conditions: as each theorem says. -/
import Derived.Maps.RangeWalk
import Derived.Test.YteggpddlkkjmjaaGreatDoorQ18
import Derived.Test.YteggpddlkkjmjaaGreatDoorQ19
import Derived.Test.YteggpddlkkjmjaaGreatDoorQ6
set_option linter.unusedSimpArgs false
set_option linter.unusedVariables false
set_option maxHeartbeats 4000000
set_option maxRecDepth 50000
namespace Go.Proofs.YteggpddlkkjmjaaGreatDoor
open Go Go.RowKit
theorem bvia8 {base : Nat} {w A B : World} (h : Below base w A) (hz : base ≤ w.heap.size) (k : Below A.heap.size A B) : Below base w B := h.trans (k.mono (Nat.le_trans hz h.size))
theorem foldl_set_off (off : Nat) : ∀ (cs : List Value) (n : Nat) (L : List Value), off + n + cs.length ≤ L.length → (cs.zipIdx n).foldl (fun c p => c.set (off + p.2) p.1) L = L.take (off + n) ++ cs ++ L.drop (off + n + cs.length)
 | [], n, L, h => by simp
 | u :: cs, n, L, h => by
  rw [List.length_cons] at h
  rw [List.zipIdx_cons, List.foldl_cons, foldl_set_off off cs (n + 1) _ (by rw [List.length_set]; omega)]
  have h1 : (L.set (off + n) u).take (off + (n + 1)) = L.take (off + n) ++ [u] := by
   rw [show off + (n + 1) = (off + n) + 1 from rfl, List.take_add_one, List.take_set_of_le (Nat.le_refl _), List.getElem?_set_self (by omega)]
   rfl
  have h2 : (L.set (off + n) u).drop (off + (n + 1) + cs.length) = L.drop (off + n + (u :: cs).length) := by
   rw [List.drop_set_of_lt (by omega), List.length_cons]
   congr 1
   omega
  rw [h1, h2, List.append_assoc, List.append_assoc, List.append_assoc]
  rfl
def cellsAt {α : Type} [Enc α] (i : Nat) (x : α) : List (Nat × Value) := (Enc.cells x).zipIdx.map fun p => (i * Enc.k α + p.2, p.1)
theorem gcells_sets {α : Type} [Enc α] (es : List α) (i : Nat) (x : α) (hi : i < es.length) : (cellsAt i x).foldl (fun c p => c.set p.1 p.2) (gcells es) = gcells (es.set i x) := by
 have hm : (i + 1) * Enc.k α = i * Enc.k α + Enc.k α := Nat.succ_mul _ _
 have hle : (i + 1) * Enc.k α ≤ es.length * Enc.k α := Nat.mul_le_mul_right _ hi
 have h1 := foldl_set_off (i * Enc.k α) (Enc.cells x) 0 (gcells es) (by rw [Enc.len, gcells_length]; omega)
 unfold cellsAt
 rw [List.foldl_map, h1, Nat.add_zero, Enc.len, ← hm, gcells_take, gcells_drop, List.set_eq_take_append_cons_drop, if_pos hi, gcells_append, gcells_cons, List.append_assoc]
theorem toList_sets : ∀ (l : List (Nat × Value)) (c : Array Value), (l.foldl (fun c p => c.setIfInBounds p.1 p.2) c).toList = l.foldl (fun c p => c.set p.1 p.2) c.toList
 | [], _ => rfl
 | p :: l, c => by rw [List.foldl_cons, List.foldl_cons, toList_sets l, Array.toList_setIfInBounds]
theorem take_sets (m : Nat) : ∀ (l : List (Nat × Value)) (L : List Value), (l.foldl (fun c p => c.set p.1 p.2) L).take m = l.foldl (fun c p => c.set p.1 p.2) (L.take m)
 | [], _ => rfl
 | p :: l, L => by rw [List.foldl_cons, List.foldl_cons, take_sets m l, List.take_set]
theorem size_sets : ∀ (l : List (Nat × Value)) (c : Array Value), (l.foldl (fun c p => c.setIfInBounds p.1 p.2) c).size = c.size
 | [], _ => rfl
 | p :: l, c => by rw [List.foldl_cons, size_sets l, Array.size_setIfInBounds]
theorem GOwn.setsG {α : Type} [Enc α] {t : TypeId} {w : World} {base g n c i : Nat} {es : List α} (h : GOwn t w base (some ⟨g, 0, none⟩) n c es) (x : α) (hi : i < n) : GOwn t (setsAt g (cellsAt i x) w) base (some ⟨g, 0, none⟩) n c (es.set i x) := by
 have hc := h.cap_le
 obtain ⟨g', cur, e1, hbg, hb, hs, hnc, ht⟩ := gown_at h (by omega)
 injection e1 with e1
 injection e1 with e1
 subst e1
 refine ⟨by simpa using h.1, by rw [gcells_length, List.length_set, h.1], .inr ⟨g, c, _, rfl, hbg, hb.sets (cellsAt i x), hnc, hc.2, by rw [size_sets]; exact hs, ?_⟩⟩
 rw [toList_sets, take_sets, ht, gcells_sets es i x (by rw [h.1]; exact hi)]
theorem acts_eq (A : Option Addr) (n c : Nat) (B : Option Addr) (d : Nat) (ch : List Actn) (S S' : Nat → Prop) (w : World) (h1 : GRow w S A n c ch) (h2 : GRow w S' B n d ch) :
 Calls Tryz.prog 70 #[.slice A n c, .slice B n d] w fun e w' => e = .returned (.bool true) ∧ Below w.heap.size w w' := by
 have hn := h1.len_le
 have hm : maxLen = 9223372036854775807 := rfl
 have hnc := h1.2.1
 have hnd := h2.2.1
 have H1 := hid h1
 have H2 := hid h2
 clear h1 h2
 go_enter Tryz.func70, Tryz.ntmps70
 repeat' (first | go_step)
 go_loopw [5] (fun i wr => ∃ k : Nat, i = .int .i64 k ∧ k ≤ n ∧ Below w.heap.size w wr) (fun i _ => n - (intOf i).toNat)
 case atStart => exact ⟨0, rfl, Nat.zero_le _, Below.refl _ _⟩
 case round =>
  obtain ⟨k, rfl, hk, hb⟩ := hrel
  by_cases e : k < n
  · obtain ⟨b, off, x, rfl, -, hlt1, he1, hc1⟩ := ((H1.out.step hb).drew).at_ e
    obtain ⟨b2, o2, x2, rfl, -, hlt2, he2, hc2⟩ := ((H2.out.step hb).drew).at_ e
    obtain rfl : x = x2 := Option.some.inj (he1.symm.trans he2)
    obtain ⟨c0, c1, c2, c3, c4, c5, c6, c7, c8, c9, c10, c11, c12⟩ := rc13 (w := wr.drew) (b := b) (o := off + k * 13) x hc1
    obtain ⟨e0, e1, e2, e3, e4, e5, e6, e7, e8, e9, e10, e11, e12⟩ := rc13 (w := wr.drew) (b := b2) (o := o2 + k * 13) x hc2
    clear hc1 hc2
    repeat' (first | ((with_reducible refine region_at 6 ?_); refine wp_region_order (rgl [0,4,8,12,16,20,24,28,32]) (by kernel_rfl) (by kernel_rfl) (by kernel_rfl) rfl rfl ?_) | ((with_reducible refine WpH.here ?_); first | (refine WpH.nil ?_; refine NoP.normal ?_) | ((first | refine WpH.load (by rfl) (by rfl) (by go_simp; rfl) ?_ | refine WpH.pure (by rfl) (fun w_ => by go_simp; (try go_bits); rfl) ?_); go_frame)) | go_step)
    go_roundw
    case rel => exact ⟨k + 1, by go_num, by omega, hb.drew⟩
    case measure => simp [intOf]; omega
  · obtain rfl : k = n := by omega
    repeat' (first | go_step)
    go_ret
    exact ⟨rfl, hb⟩
theorem kact_any (i : Int) (w : World) (h0 : 0 ≤ i) (h1 : i ≤ 1000) : Calls Tryz.prog 106 #[.int .i64 i] w fun e w' => e = .returned (.agg #[.int .i64 0, .int .i64 0, .int .i32 0, .int .i64 0, .int .i64 (-7 - i), .int .i64 0, .int .i64 0, .int .i64 0, .int .i64 0, .int .i64 0, .int .i64 0, .int .i64 0, .int .i64 0]) ∧ Below w.heap.size w w' := by
 have e0 : Below w.heap.size w (w.alloc (.cells #[.int .i64 0, .int .i64 0, .int .i32 0, .int .i64 0, .int .i64 (-7 - i), .int .i64 0, .int .i64 0, .int .i64 0, .int .i64 0, .int .i64 0, .int .i64 0, .int .i64 0, .int .i64 0] 46)) := balloc (Below.refl _ _)
 have hx := Blk.new w 46 #[.int .i64 0, .int .i64 0, .int .i32 0, .int .i64 0, .int .i64 (-7 - i), .int .i64 0, .int .i64 0, .int .i64 0, .int .i64 0, .int .i64 0, .int .i64 0, .int .i64 0, .int .i64 0]
 go_enter Tryz.func106, Tryz.ntmps106
 repeat' (first | go_step)
 generalize w.alloc (.cells #[.int .i64 0, .int .i64 0, .int .i32 0, .int .i64 0, .int .i64 (-7 - i), .int .i64 0, .int .i64 0, .int .i64 0, .int .i64 0, .int .i64 0, .int .i64 0, .int .i64 0, .int .i64 0] 46) = X at *
 obtain ⟨v0, v1, v2, v3, v4, v5, v6, v7, v8, v9, v10, v11, v12⟩ := cl13 hx
 exact bodyPost_ret (v := .agg #[.int .i64 0, .int .i64 0, .int .i32 0, .int .i64 0, .int .i64 (-7 - i), .int .i64 0, .int .i64 0, .int .i64 0, .int .i64 0, .int .i64 0, .int .i64 0, .int .i64 0, .int .i64 0]) (by simp [results, Tryz.results106, go_sem, v0, v1, v2, v3, v4, v5, v6, v7, v8, v9, v10, v11, v12]) rfl ⟨rfl, e0⟩
def markA (i : Int) : Actn := ⟨noOpn, i, Clk.zero⟩
theorem own_blk13 {w : World} {base g n c k : Nat} {es : List Actn} (h : GOwn 46 w base (some ⟨g, 0, none⟩) n c es) (hk : k < n) : base ≤ g ∧ g < w.heap.size ∧ ∀ j, j < 13 → w.frozen? ⟨g, k * 13 + j, none⟩ = false ∧ ∃ u, w.cell? ⟨g, k * 13 + j, none⟩ = some u := by
 obtain ⟨g', cur, e1, hbg, hb, hs, hnc, ht⟩ := gown_at h (by omega)
 injection e1 with e1
 injection e1 with e1
 subst e1
 refine ⟨hbg, hb.lt, fun j hj => ⟨hb.frozen _, ?_⟩⟩
 rw [hb.cell]
 have hs' : cur.size = c * 13 := hs
 exact ⟨_, Array.getElem?_eq_getElem (by omega)⟩
theorem spoilActs_any (w : World) (base : Nat) (A : Option Addr) (n c : Nat) (es : List Actn) (h : GOwn 46 w base A n c es) (hb : base ≤ w.heap.size) (hn : n ≤ 1048576) :
 Calls Tryz.prog 71 #[.slice A n c] w fun e w' => e = .returned (.tuple #[]) ∧ Below base w w' := by
 have HM := hid (fun i W h0 h1 => kact_any i W h0 h1)
 have Hw := hid h
 clear h
 go_enter Tryz.func71, Tryz.ntmps71
 repeat' (first | go_step)
 go_loopw [2] (fun i wr => ∃ (k : Nat) (es' : List Actn), i = .int .i64 k ∧ k ≤ n ∧ GOwn 46 wr base A n c es' ∧ Below base w wr) (fun i _ => n - (intOf i).toNat)
 case atStart => exact ⟨0, es, rfl, Nat.zero_le _, Hw.out, Below.refl _ _⟩
 case round =>
  obtain ⟨k, es', rfl, hk, hown, hbr⟩ := hrel
  by_cases hlt : k < n
  · obtain ⟨g, cur, rfl, hbg, hbk, -, -, -⟩ := gown_at hown (by omega)
    have hll : g < wr.heap.size := hbk.lt
    have hkn : (k : Int) < n := by omega
    have Hown := hid hown
    clear hbk hown
    repeat' (first | (go_at_call 106; go_must ((with_reducible refine Calls.mono (HM.out _ _ (by omega) (by omega)) ?_); rintro _ w2 ⟨rfl, hb2⟩; have hown2 := Hown.out.step hb2; have hbb2 := bvia8 hbr hb hb2; have hq := (own_blk13 hown2 hlt).2.2; have hgl2 := (own_blk13 hown2 hlt).2.1; have f0 : w2.frozen? ⟨g, k * 13, none⟩ = false := (hq 0 (by omega)).1; have z00 : ∃ u, w2.cell? ⟨g, k * 13, none⟩ = some u := (hq 0 (by omega)).2; obtain ⟨y0, z0⟩ := z00; have f1 := (hq 1 (by omega)).1; obtain ⟨y1, z1⟩ := (hq 1 (by omega)).2; have f2 := (hq 2 (by omega)).1; obtain ⟨y2, z2⟩ := (hq 2 (by omega)).2; have f3 := (hq 3 (by omega)).1; obtain ⟨y3, z3⟩ := (hq 3 (by omega)).2; have f4 := (hq 4 (by omega)).1; obtain ⟨y4, z4⟩ := (hq 4 (by omega)).2; have f5 := (hq 5 (by omega)).1; obtain ⟨y5, z5⟩ := (hq 5 (by omega)).2; have f6 := (hq 6 (by omega)).1; obtain ⟨y6, z6⟩ := (hq 6 (by omega)).2; have f7 := (hq 7 (by omega)).1; obtain ⟨y7, z7⟩ := (hq 7 (by omega)).2; have f8 := (hq 8 (by omega)).1; obtain ⟨y8, z8⟩ := (hq 8 (by omega)).2; have f9 := (hq 9 (by omega)).1; obtain ⟨y9, z9⟩ := (hq 9 (by omega)).2; have f10 := (hq 10 (by omega)).1; obtain ⟨y10, z10⟩ := (hq 10 (by omega)).2; have f11 := (hq 11 (by omega)).1; obtain ⟨y11, z11⟩ := (hq 11 (by omega)).2; have f12 := (hq 12 (by omega)).1; obtain ⟨y12, z12⟩ := (hq 12 (by omega)).2; clear hq; have Hown2 := hid hown2; clear hown2; dsimp only)) | go_step)
    go_roundw
    case rel => exact ⟨k + 1, _, by go_num, by omega, Hown2.out.setsG (markA (-8)) hlt, Below.sets (cellsAt k (markA (-8))) hbb2 hbg⟩
    case measure => simp [intOf]; omega
  · obtain rfl : k = n := by omega
    have Hw2 := hid hown
    have hbr2 := hbr
    clear hown hbr Hw
    repeat' (first | go_step)
    go_loopw [0, 3] (fun o i wr => ∃ (j m : Nat) (A' : Option Addr) (c' : Nat) (es' : List Actn), i = .int .i64 j ∧ o = .slice A' m c' ∧ j ≤ 40 ∧ m = k + j ∧ GOwn 46 wr base A' m c' es' ∧ Below base w wr) (fun _ i _ => 40 - (intOf i).toNat)
    case atStart => exact ⟨0, k, A, c, _, rfl, rfl, Nat.zero_le _, rfl, Hw2.out, hbr2⟩
    case round =>
     clear hbr2 Hw2
     obtain ⟨j, m, A', c', es2, rfl, rfl, hj, hm, hown, hbr⟩ := hrel
     by_cases hlt2 : j < 40
     · have hj4 : (j : Int) < 40 := by omega
       have hmb : m ≤ 1048616 := by omega
       have Hm := hid hm
       clear hm
       repeat' (first | (go_at_call 106; go_must ((with_reducible refine Calls.mono (HM.out _ _ (by omega) (by omega)) ?_); rintro _ w2 ⟨rfl, hb2⟩; have eX := balloc (o := .cells #[.int .i64 0, .int .i64 0, .int .i32 0, .int .i64 0, .int .i64 (-9), .int .i64 0, .int .i64 0, .int .i64 0, .int .i64 0, .int .i64 0, .int .i64 0, .int .i64 0, .int .i64 0] 46) (Below.refl _ w2); have hownX := (hown.step hb2).step eX; have hrow1 := (GOwn.lit (t := 46) w2 #[.int .i64 0, .int .i64 0, .int .i32 0, .int .i64 0, .int .i64 (-9), .int .i64 0, .int .i64 0, .int .i64 0, .int .i64 0, .int .i64 0, .int .i64 0, .int .i64 0, .int .i64 0] [markA (-9)] 0 (Nat.zero_le _) (show 1 ≤ maxLen by decide) rfl).row (S := fun _ => True) (fun _ _ _ => trivial); have hbX := bvia8 (bvia8 hbr hb hb2) hb eX; dsimp only)) | ((with_reducible refine app_acts_here ?_); go_must (refine wp_append_acts base A' _ m c' 1 1 es2 [markA (-9)] (fun _ => True) (by rfl) (by rfl) hownX hrow1 (by have := hbX.size; omega) (by omega) ?_; intro A2 c2' w4 hown4 hb4 hsm4 hat4 hz4)) | go_step)
       go_roundw
       case rel => exact ⟨j + 1, m + 1, A2, c2', _, by go_num, rfl, by omega, by have := Hm.out; omega, hown4, hbX.trans hb4⟩
       case measure => simp [intOf]; omega
     · obtain rfl : j = 40 := by omega
       have hj4 : ¬ ((40 : Nat) : Int) < 40 := by omega
       repeat' (first | go_step)
       go_end0
       exact ⟨rfl, hbr⟩
end Go.Proofs.YteggpddlkkjmjaaGreatDoor
