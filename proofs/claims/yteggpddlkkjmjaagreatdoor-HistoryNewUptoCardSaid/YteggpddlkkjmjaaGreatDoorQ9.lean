/- Part of a proof: what functions of the program compute. Conditions: as each theorem says. -/
import Derived.Maps.RangeWalk
import Derived.Test.YteggpddlkkjmjaaGreatDoorQ1
import Derived.Test.YteggpddlkkjmjaaGreatDoorQ5
set_option linter.unusedSimpArgs false
set_option linter.unusedVariables false
set_option maxHeartbeats 4000000
set_option maxRecDepth 200000
namespace Go.Proofs.YteggpddlkkjmjaaGreatDoor
open Go Go.RowKit
variable {S : Nat → Prop} {a : Nat → Addr}
theorem kc {w w' : World} (hb : Below w.heap.size w w') {x : Addr} {v : Value} (h : w.cell? x = some v) : w'.cell? x = some v := (Same.of_below (S := fun _ => True) hb).cell trivial h
def highAt (v : Value) (w : World) : Nat :=
 match v with
 | .pointer (some x) => match w.cell? ⟨x.block, 4, none⟩ with
  | some (.int _ h) => h.toNat
  | _ => 0
 | _ => 0
theorem highAt_tree {w : World} {t : Tr} {p : Option Addr} (h : IsTree w S t p) : highAt (.pointer p) w = t.high := by
 cases t with
 | nil => obtain rfl := h; rfl
 | node l row r =>
  obtain ⟨_, b, A, n, c, pl, pr, rfl, _, _, _, _, _, _, _, _, c4, _⟩ := h
  simp only [highAt, c4]
  exact Int.toNat_natCast _
theorem at_mid (X L R Q Y : List El) (j : Nat) (h : j < R.length) : (X ++ (L ++ R ++ Q) ++ Y)[X.length + L.length + j]? = R[j]? := by
 rw [List.getElem?_append_left (by simp; omega), List.getElem?_append_right (by omega), List.getElem?_append_left (by simp; omega), List.getElem?_append_right (by omega)]
 congr 1
 omega
end Go.Proofs.YteggpddlkkjmjaaGreatDoor
namespace Go.Proofs.YteggpddlkkjmjaaGreatDoor
open Go Go.RowKit
variable {S : Nat → Prop} {a : Nat → Addr}
def El.agg (e : El) : Value := .agg #[.int .i64 e.epoch, .int .i64 e.rep, .int .i64 e.num, .int .i32 e.char, .int .i64 e.hides]
theorem at_ok (T : Tr) (p : Option Addr) (bt chunk k : Nat) (S : Nat → Prop) (w : World) (hblk : Blk w bt 157 #[.int .i64 chunk, .pointer p]) (hT : IsTree w S T p) (hbd : T.all.length ≤ 1073741824) (hk : k < T.all.length) :
 Calls Tryz.prog 152 #[.pointer (some ⟨bt, 0, none⟩), .int .i64 k] w fun e w' => (∃ e0, e = .returned (.tuple #[e0.agg, .nilIface]) ∧ T.all[k]? = some e0) ∧ Below w.heap.size w w' := by
 have b1 : Below w.heap.size w (w.alloc (.cells #[.int .i64 0, .int .i64 0, .int .i64 0, .int .i32 0, .int .i64 0] 113)) := (Below.refl _ _).alloc (Nat.le_refl _) _
 have b2 := b1.alloc b1.size (.cells #[.int .i64 0, .int .i64 0, .int .i64 0, .int .i32 0, .int .i64 0] 113)
 have hblk1 := hblk.step b2
 have hT1 := hT.step b2
 have c1 := hblk1.cell 1
 simp at c1
 have hB := (Blk.new w 113 #[.int .i64 0, .int .i64 0, .int .i64 0, .int .i32 0, .int .i64 0]).alloc (.cells #[.int .i64 0, .int .i64 0, .int .i64 0, .int .i32 0, .int .i64 0] 113)
 have i1 : ¬ (k : Int) ≥ T.all.length := by omega
 go_enter Tryz.func152, Tryz.ntmps152
 repeat' (first | (go_at_call 80; go_must ((with_reducible refine (tlen_any T p bt chunk _ hblk1 hT1).mono ?_); rintro _ _ ⟨rfl, rfl⟩; dsimp only)) | go_guarded | go_step)
 clear c1 i1 hblk hblk1 b1 hT
 go_loopw [1, 7] (fun i n wr => ∃ (t : Tr) (q : Option Addr) (X Y : List El) (ii : Nat), i = .int .i64 ii ∧ n = .pointer q ∧ IsTree wr S t q ∧ T.all = X ++ t.all ++ Y ∧ X.length + ii = k ∧ ii < t.all.length ∧ Blk wr w.heap.size 113 #[.int .i64 0, .int .i64 0, .int .i64 0, .int .i32 0, .int .i64 0] ∧ Below w.heap.size w wr) (fun _ n wr => highAt n wr)
 case atStart => exact ⟨T, p, [], [], k, rfl, rfl, hT1, by simp, by simp, hk, hB, b2⟩
 case round =>
  obtain ⟨t, q, X, Y, ii, rfl, rfl, ht, hall, hsum, hlt, hblkr, hbel⟩ := hrel
  have hhi := highAt_tree ht
  cases t with
  | nil => exact absurd hlt (by simp [Tr.all])
  | node l row r =>
   have hlen := congrArg List.length hall
   simp only [Tr.all, List.length_append] at hlen hlt
   obtain ⟨hne, b, A, n, c, pl, pr, rfl, hsb, hrow, hl, hr, c0, c1, c2, c3, c4, c5, c6⟩ := ht
   have hbl := lt_of_cell' c0
   have Hall := hid hall
   have Hhi := hid hhi
   have hnl := hrow.1
   have hrlen := hlt
   clear hall hhi c3 c4 c5 c6
   by_cases hc1 : ii < l.all.length
   · have j1 : (ii : Int) < l.all.length := by omega
     repeat' (first | (go_at_call 117; go_must ((with_reducible refine (size_any l pl S _ hl).mono ?_); rintro _ _ ⟨rfl, rfl⟩; dsimp only)) | go_step)
     go_roundw
     case rel => exact ⟨l, pl, X, row ++ (r.all ++ Y), ii, rfl, rfl, hl, by rw [Hall.out]; simp [Tr.all], hsum, hc1, hblkr, hbel⟩
     case measure => rw [highAt_tree hl, Hhi.out]; simp only [Tr.high]; omega
   · obtain ⟨j, rfl⟩ := Nat.exists_eq_add_of_le (Nat.le_of_not_lt hc1)
     by_cases hc2 : j < n
     · have j1 : ¬ (l.all.length : Int) + j < l.all.length := by omega
       have j2 : (l.all.length : Int) + j < l.all.length + n := by omega
       obtain ⟨b1, off, e, rfl, hS, he, e0, e1, e2, e3, e4⟩ := hrow.at_ hc2
       have He := hid he
       clear he
       have g0 := hblkr.cell 0
       have g1 := hblkr.cell 1
       have g2 := hblkr.cell 2
       have g3 := hblkr.cell 3
       have g4 := hblkr.cell 4
       have f0 := hblkr.frozen 0
       have f1 := hblkr.frozen 1
       have f2 := hblkr.frozen 2
       have f3 := hblkr.frozen 3
       have f4 := hblkr.frozen 4
       repeat' (first | (go_at_call 117; go_must ((with_reducible refine (size_any l pl S _ hl).mono ?_); rintro _ _ ⟨rfl, rfl⟩; dsimp only)) | go_step)
       refine bodyPost_ret (v := .tuple #[.agg #[.int .i64 e.epoch, .int .i64 e.rep, .int .i64 e.num, .int .i32 e.char, .int .i64 e.hides], .nilIface]) (by simp [results, Tryz.results152, go_sem, g0, g1, g2, g3, g4]) rfl ⟨⟨e, rfl, ?_⟩, ?_⟩
       · rw [Hall.out, ← hsum, ← Nat.add_assoc]; exact (at_mid X l.all row r.all Y j (by omega)).trans He.out
       · exact ((((hbel.setCell (Nat.le_refl _) _).setCell (Nat.le_refl _) _).setCell (Nat.le_refl _) _).setCell (Nat.le_refl _) _).setCell (Nat.le_refl _) _
     · obtain ⟨j', rfl⟩ := Nat.exists_eq_add_of_le (Nat.le_of_not_lt hc2)
       have j1 : ¬ (l.all.length : Int) + (n + j') < l.all.length := by omega
       have j2 : ¬ (l.all.length : Int) + (n + j') < l.all.length + n := by omega
       repeat' (first | (go_at_call 117; go_must ((with_reducible refine (size_any l pl S _ hl).mono ?_); rintro _ _ ⟨rfl, rfl⟩; dsimp only)) | go_step)
       go_roundw
       case rel => exact ⟨r, pr, X ++ (l.all ++ row), Y, j', congrArg _ (by omega), rfl, hr, by rw [Hall.out]; simp [Tr.all], by simp; omega, by omega, hblkr, hbel⟩
       case measure => rw [highAt_tree hr, Hhi.out]; simp only [Tr.high]; omega
end Go.Proofs.YteggpddlkkjmjaaGreatDoor
namespace Go.Proofs.YteggpddlkkjmjaaGreatDoor
open Go Go.RowKit Go.Maps
structure Nm where
 epoch : Int
 rep : Int
 num : Int
deriving DecidableEq
def Nm.val (i : Nm) : Value := .agg #[.int .i64 i.epoch, .int .i64 i.rep, .int .i64 i.num]
def I64 (n : Int) : Prop := -9223372036854775808 ≤ n ∧ n ≤ 9223372036854775807
def Nm.In (i : Nm) : Prop := I64 i.epoch ∧ I64 i.rep ∧ I64 i.num
def El.nm (e : El) : Nm := ⟨e.epoch, e.rep, e.num⟩
theorem I64.wf {n : Int} (h : I64 n) : (Lit.int .i64 n).wf = true := by
 simp only [Lit.wf, Bool.and_eq_true, decide_eq_true_eq, show IntKind.i64.min = -9223372036854775808 from by decide, show IntKind.i64.max = 9223372036854775807 from by decide]
 exact h
theorem Tryz.idKeyType : Tryz.prog.keyType 70 = true := by kernel_rfl
theorem Tryz.idLaw : WideMaps.KeyLaw Tryz.prog 70 := deep_law_laid laidOut (m := 2) (by omega) (of_decide_eq_true (by kernel_rfl)) (by kernel_rfl) (by kernel_rfl)
theorem Tryz.idKeyed : Keyed Tryz.prog 70 := Keyed.of_law Tryz.idLaw
theorem nm_key (i : Nm) (h : i.In) : ∃ l, keyOf Tryz.prog 70 i.val = some l := by
 have hf : i.val.formed Tryz.prog 70 = true := by kernel_rfl
 obtain ⟨n, hn⟩ : ∃ n, Tryz.prog.types.size = n + 1 := ⟨Tryz.prog.types.size - 1, by
  have h0 : 0 < Tryz.prog.types.size := of_decide_eq_true (by kernel_rfl)
  omega⟩
 have c34 : Tryz.prog.cellsOf 70 = 3 := by kernel_rfl
 have c3 : Tryz.prog.cellsOf 3 = 1 := by kernel_rfl
 have hl : ∃ ls, Tryz.prog.keyLits (Tryz.prog.types.size + 1) 70 i.val.cells.toList = some ls := by
  rw [hn]
  simp [Program.keyLits, Tryz.underlying70, Tryz.underlying3, c34, c3, Nm.val, Value.cells, h.1.wf, h.2.1.wf, h.2.2.wf, List.mapM_cons, List.mapM_nil]
 obtain ⟨ls, hls⟩ := hl
 unfold keyOf
 rw [Tryz.underlying70]
 refine ⟨.string (keyBytes ls), ?_⟩
 show (if (Tryz.prog.keyType 70 && i.val.formed Tryz.prog 70) = true then _ else _) = _
 rw [Tryz.idKeyType, hf, if_pos (by rfl), hls]
 rfl
noncomputable def Nm.lit (i : Nm) (h : i.In) : Lit := (nm_key i h).choose
theorem Nm.lit_key (i : Nm) (h : i.In) : keyOf Tryz.prog 70 i.val = some (i.lit h) := (nm_key i h).choose_spec
theorem Nm.lit_inj {i j : Nm} {hi : i.In} {hj : j.In} (h : i.lit hi = j.lit hj) : i = j := by
 have h1 := i.lit_key hi
 rw [h] at h1
 have h2 := Tryz.idKeyed.inj h1 (j.lit_key hj)
 cases i
 cases j
 simp only [Nm.val, Value.agg.injEq, Array.mk.injEq, List.cons.injEq, Value.int.injEq, true_and, and_true] at h2
 obtain ⟨rfl, rfl, rfl⟩ := h2
 rfl
theorem Nm.lit_isKey (i : Nm) (h : i.In) : WideAt.IsKeyLit (i.lit h) := Tryz.idKeyed.key (i.lit_key h)
def IsIds (w : World) (b K : Nat) (s : List Nm) : Prop := ∃ (n : Nat) (D : DataW Unit), w.ownsMap Tryz.prog 70 unitElem b n D ∧ n ≤ K ∧ (∀ (i : Nm) (h : i.In), has D (i.lit h) = decide (i ∈ s))
theorem IsIds.lt {w : World} {b K : Nat} {s : List Nm} (h : IsIds w b K s) : b < w.heap.size := by
 obtain ⟨n, D, h, _⟩ := h
 exact h.lt
theorem IsIds.heap {w w' : World} {b K : Nat} {s : List Nm} (h : IsIds w b K s) (hb : w'.heap[b]? = w.heap[b]?) : IsIds w' b K s := by
 obtain ⟨n, D, ⟨es, clock, h1, r⟩, h2⟩ := h
 exact ⟨n, D, ⟨es, clock, hb.trans h1, r⟩, h2⟩
theorem IsIds.made (w : World) : IsIds (w.alloc (.map #[] 0)) w.heap.size 0 [] :=
 ⟨0, .map [], World.ownsMap_made w _ _ _, Nat.zero_le _, fun i h => by simp [has]⟩
theorem IsIds.ask {w : World} {b K : Nat} {s : List Nm} (h : IsIds w b K s) (i : Nm) (hi : i.In) : (Instr.lookup 98 (.map (some b)) i.val true).run Tryz.prog w = .ok (.tuple #[.agg #[], .bool (decide (i ∈ s))]) w := by
 obtain ⟨n, D, ho, _, hs⟩ := h
 obtain ⟨v, ps, hrun, hv⟩ := ho.look_ok Tryz.idKeyed Tryz.underlying98 (z := .agg #[]) (by kernel_rfl) unitElem_mk (i.lit_key hi)
 obtain ⟨rfl, _⟩ := unitElem_inv hv
 rw [hrun, hs i hi]
theorem IsIds.put {w : World} {b K : Nat} {s : List Nm} (h : IsIds w b K s) (i : Nm) (hi : i.In) (hK : K ≤ 1099511627776) : ∃ w', (Instr.mapUpdate 98 (.map (some b)) i.val (.agg #[])).run Tryz.prog w = .ok () w' ∧ IsIds w' b (K + 1) (i :: s) ∧ w.mapTurned w' b := by
 obtain ⟨n, D, ho, hn, hs⟩ := h
 obtain ⟨w', hrun, ho', hT⟩ := ho.store Tryz.idKeyed Tryz.underlying98 (by have : maxLen = 9223372036854775807 := rfl; omega) (i.lit_key hi) unitElem_mk
 refine ⟨w', hrun, ⟨n + 1, _, ho', by omega, fun j hj => ?_⟩, hT⟩
 by_cases e : j = i
 · subst e
   rw [has_put_same ho.isMap (Nm.lit_isKey _ _)]
   simp
 · rw [has_put_other (fun h => e (Nm.lit_inj h)), hs j hj]
   simp [e]
theorem But.of_turned {w w' : World} {b : Nat} (h : w.mapTurned w' b) : But b w w' := by
 have g := h.grown
 exact ⟨g.os, g.tape, g.output, g.size, fun k hk hne => g.block k hk (fun e => hne (Option.some.inj e))⟩
end Go.Proofs.YteggpddlkkjmjaaGreatDoor
namespace Go.Proofs.YteggpddlkkjmjaaGreatDoor
open Go Go.RowKit
theorem cellsOf_set (es : List El) (i : Nat) (e : El) (hi : i < es.length) : cellsOf (es.set i e) = (((((cellsOf es).set (i * 5) (.int .i64 e.epoch)).set (i * 5 + 1) (.int .i64 e.rep)).set (i * 5 + 2) (.int .i64 e.num)).set (i * 5 + 3) (.int .i32 e.char)).set (i * 5 + 4) (.int .i64 e.hides) := by
 induction es generalizing i with
 | nil => simp at hi
 | cons x es ih =>
  cases i with
  | zero =>
   simp only [List.set_cons_zero, cellsOf_cons, El.cells, Nat.zero_mul, Nat.zero_add, List.cons_append, List.nil_append]
   rfl
  | succ i =>
   have hi' : i < es.length := by simpa using hi
   simp only [List.set_cons_succ, cellsOf_cons]
   rw [ih i hi']
   simp only [El.cells, List.cons_append, List.nil_append]
   rw [show (i + 1) * 5 = i * 5 + 1 + 1 + 1 + 1 + 1 from by omega]
   rw [show i * 5 + 1 + 1 + 1 + 1 + 1 + 1 = (i * 5 + 1) + 1 + 1 + 1 + 1 + 1 from by omega, show i * 5 + 1 + 1 + 1 + 1 + 1 + 2 = (i * 5 + 2) + 1 + 1 + 1 + 1 + 1 from by omega, show i * 5 + 1 + 1 + 1 + 1 + 1 + 3 = (i * 5 + 3) + 1 + 1 + 1 + 1 + 1 from by omega, show i * 5 + 1 + 1 + 1 + 1 + 1 + 4 = (i * 5 + 4) + 1 + 1 + 1 + 1 + 1 from by omega]
   simp only [List.set_cons_succ]
theorem own_at {w : World} {base : Nat} {A : Option Addr} {n c : Nat} {es : List El} (h : Own w base A n c es) (hn : 0 < n) : ∃ g cur, A = some ⟨g, 0, none⟩ ∧ base ≤ g ∧ Blk w g 113 cur ∧ cur.size = c * 5 ∧ n ≤ c ∧ cur.toList.take (n * 5) = cellsOf es := by
 rcases h.2.2 with ⟨_, h0⟩ | ⟨g, cap, cur, e, hbg, hh, h1, h2, h3, h4⟩
 · omega
 · injection e with e1 e2 e3
   subst e3
   exact ⟨g, cur, e1, hbg, hh, h3, h1, h4⟩
theorem Own.set5 {w : World} {base g n c i : Nat} {es : List El} (h : Own w base (some ⟨g, 0, none⟩) n c es) (e : El) (hi : i < n) :
 Own (((((w.setCell ⟨g, i * 5, none⟩ (.int .i64 e.epoch)).setCell ⟨g, i * 5 + 1, none⟩ (.int .i64 e.rep)).setCell ⟨g, i * 5 + 2, none⟩ (.int .i64 e.num)).setCell ⟨g, i * 5 + 3, none⟩ (.int .i32 e.char)).setCell ⟨g, i * 5 + 4, none⟩ (.int .i64 e.hides)) base (some ⟨g, 0, none⟩) n c (es.set i e) := by
 have hc := h.cap_le
 obtain ⟨g', cur, e1, hbg, hb, hs, hnc, ht⟩ := own_at h (by omega)
 injection e1 with e1
 injection e1 with e1
 subst e1
 have hb' := ((((hb.set_ (i * 5) (.int .i64 e.epoch)).set_ (i * 5 + 1) (.int .i64 e.rep)).set_ (i * 5 + 2) (.int .i64 e.num)).set_ (i * 5 + 3) (.int .i32 e.char)).set_ (i * 5 + 4) (.int .i64 e.hides)
 refine ⟨by simpa using h.1, by rw [cellsOf_length, List.length_set, h.1], .inr ⟨g, c, _, rfl, hbg, hb', hnc, hc.2, by simp [hs], ?_⟩⟩
 rw [cellsOf_set es i e (by rw [h.1]; exact hi), ← ht]
 simp only [Array.toList_setIfInBounds, List.take_set]
theorem with_any (e : El) (t : Tr) : ∀ (i : Nat) (p : Option Addr) (S : Nat → Prop) (w : World), IsTree w S t p → t.all.length ≤ 1099511627776 → i < t.all.length →
 Calls Tryz.prog 158 #[.pointer p, .int .i64 i, .agg #[.int .i64 e.epoch, .int .i64 e.rep, .int .i64 e.num, .int .i32 e.char, .int .i64 e.hides]] w (TreeRet w S (fun t' => t'.all = t.all.set i e ∧ t'.rows.map List.length = t.rows.map List.length)) := by
 induction t with
 | nil => intro i p S w _ _ hi; simp [Tr.all] at hi
 | node l row r ihl ihr =>
  intro i p S w h hbd hi
  obtain ⟨ne, b, A, n, c, pl, pr, rfl, bS, hrow, hl, hr, c0, c1, c2, c3, c4, c5, c6⟩ := h
  obtain rfl : n = row.length := hrow.1.symm
  rw [all_node] at hbd hi
  have b1 : Below w.heap.size w (w.alloc (.cells #[.int .i64 e.epoch, .int .i64 e.rep, .int .i64 e.num, .int .i32 e.char, .int .i64 e.hides] 113)) := (Below.refl _ _).alloc (Nat.le_refl _) _
  have hx := Blk.new w 113 #[.int .i64 e.epoch, .int .i64 e.rep, .int .i64 e.num, .int .i32 e.char, .int .i64 e.hides]
  clear c3 c4 c5 c6
  have hbl : b < w.heap.size := lt_of_cell' c0
  have bD := b1.drew
  by_cases h1 : i < l.all.length
  · have j1 : (i : Int) < l.all.length := by omega
    have IH := hid (ihl i pl S _ ((hl.step b1).drew) (by omega) h1)
    clear ihl ihr
    have hrow1 := (hrow.step b1).drew
    have hr1 := (hr.step b1).drew
    go_enter Tryz.func158, Tryz.ntmps158
    repeat' (first | (go_at_call 117; (with_reducible refine (size_any l pl S _ (hl.step b1)).mono ?_); rintro _ _ ⟨rfl, rfl⟩; dsimp only) | (go_at_call 158; go_must ((with_reducible refine Calls.mono IH.out ?_); rintro _ w2 ⟨p2, t2, rfl, ht2, ⟨hq2, hs2⟩, hb2⟩; have hal := hid hq2; have hsl := hid hs2; clear hq2 hs2; dsimp only)) | ((with_reducible refine region_at 3 ?_); refine wp_region_order (rgl [0,4,8,12,16,20,28,32,36,40,44,48,52,56,25,61,64]) (by kernel_rfl) (by kernel_rfl) (by kernel_rfl) rfl rfl ?_) | (go_at_call 163; go_must ((with_reducible refine (made_any t2 r p2 pr A _ c row (Fr _ S) w2 ht2 (hr1.step hb2).fr (hrow1.step hb2).fr ne (by rw [hal.out]; simp only [List.length_set]; omega)).mono ?_); rintro _ w3 ⟨p3, t3, rfl, ht3, rfl, hb3⟩; dsimp only)) | (with_reducible refine Keep.below (by assumption) ?_) | ((with_reducible refine WpH.here ?_); first | (refine WpH.nil ?_; refine NoP.normal ?_) | ((first | refine WpH.load (by rfl) (by rfl) (by go_simp; rfl) ?_ | refine WpH.pure (by rfl) (fun w_ => by go_simp; (try go_bits); rfl) ?_); go_frame) | (refine WpH.wild1 (by rfl) (fun _ _ => ?_))) | go_step)
    go_ret
    have hb2' := bD.trans (hb2.mono bD.size)
    refine TreeRet.of (ht3.more fun b _ h => ?_) ⟨?_, ?_⟩ (hb2'.trans (hb3.mono hb2'.size))
    · rcases h with (h | h) | h
      · exact .inl h
      · exact .inr (Nat.le_trans bD.size h)
      · exact .inr (Nat.le_trans hb2'.size h)
    · simp only [Tr.all]
      rw [hal.out, List.append_assoc, List.append_assoc, List.set_append_left _ _ h1]
    · simp only [Tr.rows, List.map_append, List.map_cons]
      rw [hsl.out]
  · by_cases h2 : i < l.all.length + row.length
    · have j1 : ¬ (i : Int) < l.all.length := by omega
      have j2 : (i : Int) < l.all.length + row.length := by omega
      obtain ⟨q, hq⟩ := Nat.exists_eq_add_of_le (Nat.le_of_not_lt h1)
      subst hq
      have hqr : q < row.length := by omega
      have j3 : ((l.all.length + q : Nat) : Int) - l.all.length = q := by omega
      clear ihl ihr
      have hrow1 := hrow.step b1
      go_enter Tryz.func158, Tryz.ntmps158
      repeat' (first | (go_at_call 117; (with_reducible refine (size_any l pl S _ (hl.step b1)).mono ?_); rintro _ _ ⟨rfl, rfl⟩; dsimp only) | ((with_reducible refine append_here ?_); refine wp_append_nil A row.length c row S (by rfl) (by rfl) hrow1 (by omega) ?_; intro A' c' w2 hown2 hb2) | (with_reducible refine stop_region 6 ?_) | go_step)
      refine Stop.go ?_
      obtain ⟨g, cur, rfl, hgb, hgk, hcs, hnc, _⟩ := own_at hown2 (by omega)
      have kc : ∀ k, k < 5 → ∃ u, w2.cell? ⟨g, q * 5 + k, none⟩ = some u := fun k hk => ⟨_, (hgk.cell _).trans (Array.getElem?_eq_getElem (by omega))⟩
      obtain ⟨u0, g0⟩ := kc 0 (by omega)
      obtain ⟨u1, g1⟩ := kc 1 (by omega)
      obtain ⟨u2, g2⟩ := kc 2 (by omega)
      obtain ⟨u3, g3⟩ := kc 3 (by omega)
      obtain ⟨u4, g4⟩ := kc 4 (by omega)
      have f0 := hgk.frozen (q * 5)
      have f1 := hgk.frozen (q * 5 + 1)
      have f2 := hgk.frozen (q * 5 + 2)
      have f3 := hgk.frozen (q * 5 + 3)
      have f4 := hgk.frozen (q * 5 + 4)
      have hx2 := hx.step hb2
      have x0 := hx2.cell 0
      have x1 := hx2.cell 1
      have x2 := hx2.cell 2
      have x3 := hx2.cell 3
      have x4 := hx2.cell 4
      rw [Nat.add_zero] at g0
      simp at x0 x1 x2 x3 x4
      have ho3 := hown2.set5 e hqr
      have hgl := hgk.lt
      have Hb2 := hid (And.intro hb2 (And.intro ho3 hgb))
      clear ho3 kc hown2 hgk hcs hnc
      repeat' (first | (with_reducible refine stop_region 7 ?_) | go_step)
      refine Stop.go ?_
      obtain ⟨hb2', ho3, hgb'⟩ := Hb2.out
      have hsm : ∀ k, k ≠ g → (((((w2.setCell ⟨g, q * 5, none⟩ (.int .i64 e.epoch)).setCell ⟨g, q * 5 + 1, none⟩ (.int .i64 e.rep)).setCell ⟨g, q * 5 + 2, none⟩ (.int .i64 e.num)).setCell ⟨g, q * 5 + 3, none⟩ (.int .i32 e.char)).setCell ⟨g, q * 5 + 4, none⟩ (.int .i64 e.hides)).heap[k]? = w2.heap[k]? := fun k hk => by
       rw [Below.heap_setCell _ _ _ _ hk, Below.heap_setCell _ _ _ _ hk, Below.heap_setCell _ _ _ _ hk, Below.heap_setCell _ _ _ _ hk, Below.heap_setCell _ _ _ _ hk]
      have hbw : Below w.heap.size w (((((w2.setCell ⟨g, q * 5, none⟩ (.int .i64 e.epoch)).setCell ⟨g, q * 5 + 1, none⟩ (.int .i64 e.rep)).setCell ⟨g, q * 5 + 2, none⟩ (.int .i64 e.num)).setCell ⟨g, q * 5 + 3, none⟩ (.int .i32 e.char)).setCell ⟨g, q * 5 + 4, none⟩ (.int .i64 e.hides)) := by
       have hh := b1.trans (hb2'.mono b1.size)
       have hg' : w.heap.size ≤ g := Nat.le_trans b1.size hgb'
       exact ((((hh.setCell hg' _).setCell hg' _).setCell hg' _).setCell hg' _).setCell hg' _
      generalize ((((w2.setCell ⟨g, q * 5, none⟩ (.int .i64 e.epoch)).setCell ⟨g, q * 5 + 1, none⟩ (.int .i64 e.rep)).setCell ⟨g, q * 5 + 2, none⟩ (.int .i64 e.num)).setCell ⟨g, q * 5 + 3, none⟩ (.int .i32 e.char)).setCell ⟨g, q * 5 + 4, none⟩ (.int .i64 e.hides) = w3 at *
      have hl3 := hl.step hbw
      have hr3 := hr.step hbw
      have c13 := kc hbw c1
      have c23 := kc hbw c2
      have hbl3 := lt_of_cell' c13
      have hrow3 : Row w3 (Fr w S) (some ⟨g, 0, none⟩) row.length c' (row.set q e) := ho3.row fun b h _ => .inr (Nat.le_trans b1.size h)
      have hne3 : row.set q e ≠ [] := by
       intro h0
       have := congrArg List.length h0
       simp at this
       exact ne this
      have Hf := hid hbw
      clear hsm hb2' ho3 g0 g1 g2 g3 g4 f0 f1 f2 f3 f4 hx2 x0 x1 x2 x3 x4 hbw
      repeat' (first | ((with_reducible refine region_at 7 ?_); refine wp_region_order (rgl [0,4,8,12,16,20,24,28,32,37,40]) (by kernel_rfl) (by kernel_rfl) (by kernel_rfl) rfl rfl ?_) | (go_at_call 163; go_must ((with_reducible refine (made_any l r pl pr (some ⟨g, 0, none⟩) _ c' (row.set q e) (Fr w S) w3.drew hl3.drew.fr hr3.drew.fr hrow3.drew hne3 (by simp only [List.length_set]; omega)).mono ?_); rintro _ w4 ⟨p4, t4, rfl, ht4, rfl, hb4⟩; dsimp only)) | (with_reducible refine Keep.below (by assumption) ?_) | ((with_reducible refine WpH.here ?_); first | (refine WpH.nil ?_; refine NoP.normal ?_) | ((first | refine WpH.load (by rfl) (by rfl) (by go_simp; rfl) ?_ | refine WpH.pure (by rfl) (fun w_ => by go_simp; (try go_bits); rfl) ?_); go_frame) | (refine WpH.wild1 (by rfl) (fun _ _ => ?_))) | go_step)
      go_ret
      have hB := Hf.out.drew
      refine TreeRet.of (ht4.more fun b _ h => Fr.shrink hB.size b h) ⟨?_, ?_⟩ (hB.trans (hb4.mono hB.size))
      · simp only [Tr.all]
        rw [List.append_assoc, List.append_assoc, List.set_append_right _ _ (by omega), show l.all.length + q - l.all.length = q from by omega, List.set_append_left _ _ hqr]
      · simp [Tr.rows]
    · have j1 : ¬ (i : Int) < l.all.length := by omega
      have j2 : ¬ (i : Int) < l.all.length + row.length := by omega
      have hcast : ((i : Int) - l.all.length - row.length) = ((i - l.all.length - row.length : Nat) : Int) := by omega
      have IH := hid (ihr (i - l.all.length - row.length) pr S _ ((hr.step b1).drew) (by omega) (by omega))
      rw [← hcast] at IH
      clear ihl ihr hcast
      have hrow1 := (hrow.step b1).drew
      have hl1 := (hl.step b1).drew
      go_enter Tryz.func158, Tryz.ntmps158
      repeat' (first | (go_at_call 117; (with_reducible refine (size_any l pl S _ (hl.step b1)).mono ?_); rintro _ _ ⟨rfl, rfl⟩; dsimp only) | (go_at_call 158; go_must ((with_reducible refine Calls.mono IH.out ?_); rintro _ w2 ⟨p2, t2, rfl, ht2, ⟨hq2, hs2⟩, hb2⟩; have hal := hid hq2; have hsl := hid hs2; clear hq2 hs2; dsimp only)) | ((with_reducible refine region_at 8 ?_); refine wp_region_order (rgl [0,4,8,12,16,20,24,28,32,36,40,44,48,52,56,60,64,68,72,76,80,84,89,93,96]) (by kernel_rfl) (by kernel_rfl) (by kernel_rfl) rfl rfl ?_) | (go_at_call 163; go_must ((with_reducible refine (made_any l t2 pl p2 A _ c row (Fr _ S) w2 (hl1.step hb2).fr ht2 (hrow1.step hb2).fr ne (by rw [hal.out]; simp only [List.length_set]; omega)).mono ?_); rintro _ w3 ⟨p3, t3, rfl, ht3, rfl, hb3⟩; dsimp only)) | (with_reducible refine Keep.below (by assumption) ?_) | ((with_reducible refine WpH.here ?_); first | (refine WpH.nil ?_; refine NoP.normal ?_) | ((first | refine WpH.load (by rfl) (by rfl) (by go_simp; rfl) ?_ | refine WpH.pure (by rfl) (fun w_ => by go_simp; (try go_bits); rfl) ?_); go_frame) | (refine WpH.wild1 (by rfl) (fun _ _ => ?_))) | go_step)
      go_ret
      have hb2' := bD.trans (hb2.mono bD.size)
      refine TreeRet.of (ht3.more fun b _ h => ?_) ⟨?_, ?_⟩ (hb2'.trans (hb3.mono hb2'.size))
      · rcases h with (h | h) | h
        · exact .inl h
        · exact .inr (Nat.le_trans bD.size h)
        · exact .inr (Nat.le_trans hb2'.size h)
      · simp only [Tr.all]
        rw [hal.out, List.set_append_right _ _ (by simp; omega)]
        congr 2
        simp
        omega
      · simp only [Tr.rows, List.map_append, List.map_cons]
        rw [hsl.out]
theorem tset_ok (T : Tr) (p : Option Addr) (bt chunk i : Nat) (e : El) (S : Nat → Prop) (w : World) (hblk : Blk w bt 157 #[.int .i64 chunk, .pointer p]) (hT : IsTree w S T p) (hbt : ¬ S bt) (hbd : T.all.length ≤ 1073741824) (hi : i < T.all.length) :
 Calls Tryz.prog 153 #[.pointer (some ⟨bt, 0, none⟩), .int .i64 i, .agg #[.int .i64 e.epoch, .int .i64 e.rep, .int .i64 e.num, .int .i32 e.char, .int .i64 e.hides]] w (SetRet w S bt chunk (fun T' => T'.all = T.all.set i e ∧ T'.rows.map List.length = T.rows.map List.length) .nilIface) := by
 have j1 : ¬ (i : Int) ≥ T.all.length := by omega
 have b1 : Below w.heap.size w (w.alloc (.cells #[.int .i64 e.epoch, .int .i64 e.rep, .int .i64 e.num, .int .i32 e.char, .int .i64 e.hides] 113)) := (Below.refl _ _).alloc (Nat.le_refl _) _
 have hx := Blk.new w 113 #[.int .i64 e.epoch, .int .i64 e.rep, .int .i64 e.num, .int .i32 e.char, .int .i64 e.hides]
 have hb1 := hblk.step b1
 have c1 := hb1.cell 1
 simp at c1
 have HL := hid (tlen_any T p bt chunk _ hb1 (hT.step b1))
 have HW := hid (with_any e T i p S _ (hT.step b1).drew (by omega) hi)
 have hbl := hblk.lt
 have hbl1 := hb1.lt
 go_enter Tryz.func153, Tryz.ntmps153
 repeat' (first | (go_at_call 80; go_must ((with_reducible refine Calls.mono HL.out ?_); rintro _ _ ⟨rfl, rfl⟩; dsimp only)) | ((with_reducible refine region_at 3 ?_); refine wp_region_order (rgl [0,4,8,12,16,20,24,29,32,36,43]) (by kernel_rfl) (by kernel_rfl) (by kernel_rfl) rfl rfl ?_) | (go_at_call 158; go_must ((with_reducible refine Calls.mono HW.out ?_); rintro _ w2 ⟨p2, t2, rfl, ht2, ⟨hq2, hs2⟩, hb2⟩; have hbk2 := hb1.drew.step hb2; have d1 := hbk2.cell 1; have df := hbk2.frozen 1; simp at d1; have dl := hbk2.lt; have H2 := hid (And.intro hq2 hs2); clear hq2 hs2; dsimp only)) | (with_reducible first | refine Keep.last ?_ | refine Keep.below (by assumption) ?_) | ((with_reducible refine WpH.here ?_); first | (refine WpH.nil ?_; refine NoP.normal ?_) | ((first | refine WpH.load (by rfl) (by rfl) (by go_simp; rfl) ?_ | refine WpH.pure (by rfl) (fun w_ => by go_simp; (try go_bits); rfl) ?_); go_frame) | (refine WpH.wild1 (by rfl) (fun _ _ => ?_))) | go_guarded | go_step)
 go_ret
 have hB := b1.drew.trans (hb2.mono b1.size)
 have ht2' : IsTree w2 (Fr w S) t2 p2 := ht2.more fun b _ h => by
  rcases h with h | h
  · exact .inl h
  · exact .inr (Nat.le_trans b1.size h)
 refine ⟨p2, t2, rfl, ht2'.keep (Same.setCell _ (fun h => ?_) _), hbk2.set_ 1 _, H2.out, (But.of_below hB).setCell _ _⟩
 rcases h with h | h
 · exact hbt h
 · have h' : w.heap.size ≤ bt := h
   omega
theorem Row.lit (w : World) (cs : Array Value) (es : List El) (n : Nat) (S : Nat → Prop) (hS : S w.heap.size) (hn : es.length = n) (hm : n ≤ maxLen) (hc : cs.toList = cellsOf es) : Row (w.alloc (.cells cs 113)) S (some ⟨w.heap.size, 0, none⟩) n n es := by
 refine ⟨hn, Nat.le_refl _, hm, fun _ => ⟨w.heap.size, 0, rfl, hS, fun j u hu => ?_⟩⟩
 rw [Nat.zero_add, (Blk.new w 113 cs).cell j, ← hu, ← hc]
 simp
@[go_sem] theorem field_w0 (x y : Value) (w : World) : (Instr.field 146 (.agg #[x, y]) 0).run Tryz.prog w = .ok x w := by kernel_rfl
theorem But.blk {w w' : World} {bt g : Nat} {t : TypeId} {cs : Array Value} (h : But bt w w') (hb : Blk w g t cs) (hne : g ≠ bt) : Blk w' g t cs := (h.block g hb.lt hne).trans hb
def rightC (c : Int) : Bool := decide (0 ≤ c ∧ c ≤ 1114111 ∧ (c < 55296 ∨ 57343 < c))
def fairH (n : Int) : Bool := decide (-1099511627776 ≤ n ∧ n ≤ 1099511627776)
structure El.Good (e : El) : Prop where
 char : rightC e.char = true
 hides : fairH e.hides = true
 nm : e.nm.In
structure Out (S : Nat → Prop) (w w' : World) : Prop where
 os : w'.os = w.os
 tape : w'.tape = w.tape
 output : w'.output = w.output
 size : w.heap.size ≤ w'.heap.size
 block : ∀ k, k < w.heap.size → ¬ S k → w'.heap[k]? = w.heap[k]?
section
variable {S S' : Nat → Prop} {w w' w'' : World}
theorem Out.refl (S : Nat → Prop) (w : World) : Out S w w := ⟨rfl, rfl, rfl, Nat.le_refl _, fun _ _ _ => rfl⟩
theorem Out.of_below (h : Below w.heap.size w w') : Out S w w' := ⟨h.os, h.tape, h.output, h.size, fun k hk _ => h.block k hk⟩
theorem Out.of_but {x : Nat} (h : But x w w') (hx : S x) : Out S w w' := ⟨h.os, h.tape, h.output, h.size, fun k hk hn => h.block k hk (fun e => hn (e ▸ hx))⟩
theorem Out.trans (h : Out S w w') (k : Out S' w' w'') (hs : ∀ b, b < w.heap.size → S' b → S b) : Out S w w'' :=
 ⟨k.os.trans h.os, k.tape.trans h.tape, k.output.trans h.output, Nat.le_trans h.size k.size, fun b hb hn => (k.block b (Nat.lt_of_lt_of_le hb h.size) (fun h' => hn (hs b hb h'))).trans (h.block b hb hn)⟩
theorem Out.blk {g : Nat} {t : TypeId} {cs : Array Value} (h : Out S w w') (hb : Blk w g t cs) (hg : ¬ S g) : Blk w' g t cs := (h.block g hb.lt hg).trans hb
theorem Out.below {base : Nat} (h : Out S w' w'') (hb : Below base w w') (hbs : base ≤ w.heap.size) (hS : ∀ b, S b → base ≤ b) : Below base w w'' :=
 ⟨h.os.trans hb.os, h.tape.trans hb.tape, h.output.trans hb.output, Nat.le_trans hb.size h.size, fun k hk => (h.block k (by have := hb.size; omega) (fun h' => by have := hS k h'; omega)).trans (hb.block k hk)⟩
theorem Out.same (h : Out S w w') : Same (fun b => ¬ S b) w w' := fun b hb hl => h.block b hl hb
theorem Out.setCell {p : Addr} (hp : S p.block) (u : Value) : Out S w (w.setCell p u) := ⟨rfl, rfl, rfl, by simp [World.setCell], fun k _ hn => Below.heap_setCell _ _ _ _ (fun e => hn (e ▸ hp))⟩
theorem Out.drew : Out S w w.drew := ⟨rfl, rfl, rfl, Nat.le_refl _, fun _ _ _ => rfl⟩
end
def Mdl (w : World) (S : Nat → Prop) (mb : Nat) (l : List El) (K : Nat) : Prop :=
 ∃ gt gm p T, Blk w mb 110 #[.pointer (some ⟨gt, 0, none⟩), .map (some gm)] ∧ Blk w gt 157 #[.int .i64 64, .pointer p] ∧ IsTree w (fun b => S b ∧ b ≠ gt) T p ∧ T.all = l ∧ IsIds w gm K (l.map El.nm) ∧
  S mb ∧ S gt ∧ S gm ∧ ∀ e ∈ l, e.Good
theorem IsIds.drew {w : World} {b K : Nat} {s : List Nm} (h : IsIds w b K s) : IsIds w.drew b K s := h.heap rfl
theorem IsIds.ne_blk {w : World} {b K g : Nat} {s : List Nm} {t : TypeId} {cs : Array Value} (h : IsIds w b K s) (hb : Blk w g t cs) : g ≠ b := by
 rintro rfl
 obtain ⟨n, D, ⟨es, clock, h1, _⟩, _⟩ := h
 unfold Blk at hb
 rw [h1] at hb
 cases hb
theorem Mdl.keep {w w' : World} {S : Nat → Prop} {mb : Nat} {l : List El} {K : Nat} (h : Mdl w S mb l K) (hk : ∀ b, b < w.heap.size → S b → w'.heap[b]? = w.heap[b]?) : Mdl w' S mb l K := by
 obtain ⟨gt, gm, p, T, h1, h2, h3, h4, h5, h6, h7, h8, h9⟩ := h
 exact ⟨gt, gm, p, T, (hk _ h1.lt h6).trans h1, (hk _ h2.lt h7).trans h2, h3.keep (fun b hb hl => hk b hl hb.1), h4, h5.heap (hk _ h5.lt h8), h6, h7, h8, h9⟩
theorem Mdl.step {w w' : World} {S : Nat → Prop} {mb : Nat} {l : List El} {K : Nat} (h : Mdl w S mb l K) (hb : Below w.heap.size w w') : Mdl w' S mb l K := h.keep fun b hl _ => hb.block b hl
theorem Mdl.more {w : World} {S S' : Nat → Prop} {mb : Nat} {l : List El} {K : Nat} (h : Mdl w S mb l K) (hs : ∀ b, b < w.heap.size → S b → S' b) : Mdl w S' mb l K := by
 obtain ⟨gt, gm, p, T, h1, h2, h3, h4, h5, h6, h7, h8, h9⟩ := h
 exact ⟨gt, gm, p, T, h1, h2, h3.more (fun b hl hb => ⟨hs b hl hb.1, hb.2⟩), h4, h5, hs _ h1.lt h6, hs _ h2.lt h7, hs _ h5.lt h8, h9⟩
theorem right_any (c : Int) (w : World) : Calls Tryz.prog 125 #[.int .i32 c] w fun e w' => e = .returned (.bool (rightC c)) ∧ w = w' := by
 go_enter Tryz.func125, Tryz.ntmps125
 repeat' (first | go_skip | go_guarded | go_step)
 all_goals
  go_ret
  refine ⟨congrArg (fun x => Ending.returned (.bool x)) ?_, rfl⟩
  unfold rightC
  first
   | (simp_all; done)
   | (simp_all; omega)
   | (go_goals; fail)
theorem hideable_any (n : Int) (w : World) : Calls Tryz.prog 126 #[.int .i64 n] w fun e w' => e = .returned (.bool (fairH n)) ∧ w = w' := by
 go_enter Tryz.func126, Tryz.ntmps126
 repeat' (first | go_skip | go_guarded | go_step)
 all_goals
  go_ret
  refine ⟨congrArg (fun x => Ending.returned (.bool x)) ?_, rfl⟩
  unfold fairH
  first
   | (simp_all; done)
   | (simp_all; omega)
   | (go_goals; fail)
theorem within_ok (n m : Int) (w : World) (h1 : 0 ≤ n) (h2 : n ≤ m) : Calls Tryz.prog 150 #[.int .i64 n, .int .i64 m] w fun e w' => e = .returned .nilIface ∧ w = w' := by
 go_enter Tryz.func150, Tryz.ntmps150
 repeat' (first | go_guarded | go_step)
 go_ret
 exact ⟨rfl, rfl⟩
theorem mlen_any (w : World) (S : Nat → Prop) (mb : Nat) (l : List El) (K : Nat) (h : Mdl w S mb l K) : Calls Tryz.prog 43 #[.pointer (some ⟨mb, 0, none⟩)] w fun e w' => e = .returned (.int .i64 l.length) ∧ w = w' := by
 obtain ⟨gt, gm, p, T, h1, h2, h3, rfl, h5, h6, h7, h8, h9⟩ := h
 have m0 := h1.cell 0
 simp at m0
 have HL := hid (tlen_any T p gt 64 w h2 h3)
 clear h9 h5
 go_enter Tryz.func43, Tryz.ntmps43
 repeat' (first | (go_at_call 80; go_must ((with_reducible refine Calls.mono HL.out ?_); rintro _ _ ⟨rfl, rfl⟩; dsimp only)) | go_step)
 go_ret
 exact ⟨rfl, rfl⟩
theorem mnew_any (w : World) : Calls Tryz.prog 92 #[] w fun e w' => ∃ mb, e = .returned (.pointer (some ⟨mb, 0, none⟩)) ∧ Mdl w' (fun b => w.heap.size ≤ b) mb [] 0 ∧ Below w.heap.size w w' := by
 have HN := hid (tnew_ok 64 w (by decide) (by decide))
 rw [show ((64 : Nat) : Int) = 64 from rfl] at HN
 have hmm := @run_makeMap Tryz.prog
 go_enter Tryz.func92, Tryz.ntmps92
 repeat' (first | (go_at_call 124; go_must ((with_reducible refine Calls.mono HN.out ?_); rintro _ w1 ⟨gt, rfl, hgt, hbt, hb1⟩; dsimp only)) | go_step)
 go_ret
 have s1 := hb1.size
 have e1 : Below w1.heap.size w1 (w1.alloc (.map #[] 0)) := (Below.refl _ _).alloc (Nat.le_refl _) _
 have sz : (w1.alloc (.map #[] 0)).heap.size = w1.heap.size + 1 := Array.size_push _
 have e2 := e1.alloc (by omega) (.cells #[.pointer (some ⟨gt, 0, none⟩), .map (some w1.heap.size)] 110)
 have hM := Blk.new (w1.alloc (.map #[] 0)) 110 #[.pointer (some ⟨gt, 0, none⟩), .map (some w1.heap.size)]
 have hI := (IsIds.made w1).heap (w' := (w1.alloc (.map #[] 0)).alloc (.cells #[.pointer (some ⟨gt, 0, none⟩), .map (some w1.heap.size)] 110)) (Below.heap_alloc _ _ _ (IsIds.made w1).lt)
 rw [sz] at hM
 refine ⟨w1.heap.size + 1, rfl, ⟨gt, w1.heap.size, none, .nil, hM, hbt.step e2, rfl, rfl, hI, by show w.heap.size ≤ _; omega, hgt, s1, fun e he => by cases he⟩, hb1.trans (e2.mono s1)⟩
theorem Keep.allocD {T : Nat → Prop} {t : Bool} {w : World} {o : Obj} {X : Prop} (h : X) : Keep T t w.drew (w.alloc o).drew X := Keep.alloc (w := w.drew) h
theorem takes_ok (e : El) (w : World) (mb gt gm : Nat) (s : List Nm) (K : Nat) (h1 : Blk w mb 110 #[.pointer (some ⟨gt, 0, none⟩), .map (some gm)]) (h5 : IsIds w gm K s) (hg : e.Good) (hn : e.nm ∉ s) :
 Calls Tryz.prog 93 #[.pointer (some ⟨mb, 0, none⟩), .agg #[.int .i64 e.epoch, .int .i64 e.rep, .int .i64 e.num, .int .i32 e.char, .int .i64 e.hides]] w fun r w' => r = .returned .nilIface ∧ Below w.heap.size w w' := by
 have m1 := h1.cell 1
 simp at m1
 have hml := h1.lt
 have b1 : Below w.heap.size w (w.alloc (.cells #[.int .i64 e.epoch, .int .i64 e.rep, .int .i64 e.num, .int .i32 e.char, .int .i64 e.hides] 113)) := (Below.refl _ _).alloc (Nat.le_refl _) _
 have hI1 := h5.heap (w' := w.alloc (.cells #[.int .i64 e.epoch, .int .i64 e.rep, .int .i64 e.num, .int .i32 e.char, .int .i64 e.hides] 113)) (b1.block _ h5.lt)
 have q1 := hI1.drew.ask e.nm hg.nm
 have q2 := (hI1.heap (w' := ((w.alloc (.cells #[.int .i64 e.epoch, .int .i64 e.rep, .int .i64 e.num, .int .i32 e.char, .int .i64 e.hides] 113)).alloc (.cells #[] 161)).drew) (Below.heap_alloc _ _ _ hI1.lt)).ask e.nm hg.nm
 rw [decide_eq_false hn] at q1 q2
 simp only [Nm.val, El.nm] at q1 q2
 have HR := hid (fun W => right_any e.char W)
 have HH := hid (fun W => hideable_any e.hides W)
 rw [hg.char] at HR
 rw [hg.hides] at HH
 clear h5 hI1 hn
 go_enter Tryz.func93, Tryz.ntmps93
 repeat' (first | (go_at_call 125; go_must ((with_reducible refine Calls.mono (HR.out _) ?_); rintro _ _ ⟨rfl, rfl⟩; dsimp only)) | (go_at_call 126; go_must ((with_reducible refine Calls.mono (HH.out _) ?_); rintro _ _ ⟨rfl, rfl⟩; dsimp only)) | (with_reducible refine Keep.allocD ?_) | ((with_reducible refine region_at 5 ?_); refine wp_region_ordT (fun _ => True) (rgo [0,4,8,12,16,20,24] (.two 7 11 (rgo [32,36,40,45,51,52] .nil) (rgo [29,32,36,40,51,52] .nil))) (by kernel_rfl) (by kernel_rfl) (by kernel_rfl) rfl rfl ?_) | (with_reducible first | refine Keep.last ?_ | refine Keep.same ?_) | ((with_reducible refine WpO.here ?_); first | (refine WpO.done ?_; refine NoP.normal ?_) | ((first | refine WpO.load (by rfl) (by rfl) (by go_simp; rfl) ?_ | refine WpO.pure (by rfl) (fun w_ => by go_simp; (try go_bits); rfl) ?_); go_frame) | refine WpO.wild ?_ | refine WpO.two ?_ ?_) | ((with_reducible refine wildO.here ?_); (refine wildO.go (by rfl) (fun _ _ => ?_))) | go_step)
 all_goals
  go_ret
  exact ⟨rfl, (b1.alloc b1.size _).drew⟩
theorem IsIds.eq {w : World} {b K : Nat} {s s' : List Nm} (h : IsIds w b K s) (he : ∀ i, i ∈ s ↔ i ∈ s') : IsIds w b K s' := by
 obtain ⟨n, D, ho, hn, hs⟩ := h
 exact ⟨n, D, ho, hn, fun i hi => by rw [hs i hi]; simp [he i]⟩
theorem IsTree.empty {w : World} {S : Nat → Prop} {T : Tr} {p : Option Addr} (h : IsTree w S T p) (he : T.all = []) : T = .nil ∧ p = none := by
 cases T with
 | nil => exact ⟨rfl, h⟩
 | node l row r =>
  obtain ⟨hne, _⟩ := h
  simp [Tr.all] at he
  exact absurd he.2.1 hne
theorem mof_ok (w : World) (A : Option Addr) (n c : Nat) (ls : List El) (SB : Nat → Prop) (hr : Row w SB A n c ls) (hn : n ≤ 1048576) (hg : ∀ e ∈ ls, e.Good) (hd : (ls.map El.nm).Nodup) :
 Calls Tryz.prog 55 #[.slice A n c] w fun r w' => ∃ mb, r = .returned (.tuple #[.pointer (some ⟨mb, 0, none⟩), .nilIface]) ∧ Mdl w' (fun b => w.heap.size ≤ b) mb ls n ∧ Below w.heap.size w w' := by
 have HN := hid (mnew_any w)
 have Hr := hid hr
 have Hg := hid hg
 have Hd := hid hd
 have hnc := hr.2.1
 clear hr hg hd
 go_enter Tryz.func55, Tryz.ntmps55
 repeat' (first | (go_at_call 92; go_must ((with_reducible refine Calls.mono HN.out ?_); rintro _ w1 ⟨mb, rfl, hM, hb1⟩; dsimp only)) | go_step)
 obtain ⟨gt, gm, p, T, h1, h2, h3, h4, h5, h6, h7, h8, h9⟩ := hM
 obtain ⟨rfl, rfl⟩ := h3.empty h4
 clear h4 h9 h3
 go_loopw [11] (fun i wr => ∃ k : Nat, i = .int .i64 k ∧ k ≤ n ∧ Blk wr mb 110 #[.pointer (some ⟨gt, 0, none⟩), .map (some gm)] ∧ Blk wr gt 157 #[.int .i64 64, .pointer none] ∧ IsIds wr gm k ((ls.take k).map El.nm) ∧ Below w.heap.size w wr) (fun i _ => n - (intOf i).toNat)
 case atStart => exact ⟨0, rfl, Nat.zero_le _, h1, h2, by simpa using h5, hb1⟩
 case round =>
  obtain ⟨k, rfl, hk, g1, g2, g5, hbr⟩ := hrel
  by_cases hlt : k < n
  · obtain ⟨b, off, e, rfl, hS, he, c0, c1, c2, c3, c4⟩ := (Hr.out.step hbr).at_ hlt
    have hbl := lt_of_cell' c0
    have heg := Hg.out e (List.mem_of_getElem? he)
    have hnot : e.nm ∉ (ls.take k).map El.nm := by
     intro hm
     have hd := Hd.out
     have htk := take_snoc_el he
     have h1 : ((ls.take (k + 1)).map El.nm).Nodup := by
      rw [List.map_take]
      exact hd.sublist (List.take_sublist _ _)
     rw [htk, List.map_append, List.nodup_append] at h1
     exact h1.2.2 _ hm _ (by simp) rfl
    have eb : Below wr.heap.size wr (wr.alloc (.cells #[.int .i64 e.epoch, .int .i64 e.rep, .int .i64 e.num, .int .i32 e.char, .int .i64 e.hides] 113)) := (Below.refl _ _).alloc (Nat.le_refl _) _
    have g1b := g1.step eb
    have g5b := g5.heap (eb.block _ g5.lt)
    have heb := Blk.new wr 113 #[.int .i64 e.epoch, .int .i64 e.rep, .int .i64 e.num, .int .i32 e.char, .int .i64 e.hides]
    have HT := hid (takes_ok e _ mb gt gm _ k g1b g5b heg hnot)
    have He := hid (And.intro he heg)
    have Hkeep := hid (And.intro g1b (And.intro (g2.step eb) (And.intro g5b heb)))
    clear he heg hnot g1 g2 g5 g1b g5b heb
    repeat' (first | (go_at_call 93; go_must ((with_reducible refine Calls.mono HT.out ?_); rintro _ w3 ⟨rfl, hb3⟩; have k1 := Hkeep.out.1.step hb3; have k2 := Hkeep.out.2.1.step hb3; have ke := Hkeep.out.2.2.2.step hb3; obtain ⟨w4, hrun, hI4, hT4⟩ := ((Hkeep.out.2.2.1.heap (hb3.block _ Hkeep.out.2.2.1.lt)).drew).put e.nm He.out.2.nm (by omega); have m1 := k1.cell 1; have x0 := ke.cell 0; have x1 := ke.cell 1; have x2 := ke.cell 2; simp at m1 x0 x1 x2; simp only [Nm.val, El.nm] at hrun; have HI4 := hid (And.intro hI4 hT4); clear hI4 hT4; dsimp only)) | ((with_reducible refine region_at 8 ?_); refine wp_region_order (rgl [0,4,8,12,16,20,24,28,35]) (by kernel_rfl) (by kernel_rfl) (by kernel_rfl) rfl rfl ?_) | (with_reducible refine Keep.last ?_) | ((with_reducible refine WpH.here ?_); first | (refine WpH.nil ?_; refine NoP.normal ?_) | ((first | refine WpH.load (by rfl) (by rfl) (by go_simp; rfl) ?_ | refine WpH.pure (by rfl) (fun w_ => by go_simp; (try go_bits); rfl) ?_); go_frame) | (refine WpH.wild1 (by rfl) (fun _ _ => ?_))) | go_step)
    go_roundw
    case rel =>
     have b3 := eb.trans (hb3.mono eb.size)
     have B3 := hbr.trans (b3.mono hbr.size)
     have hbut := But.of_turned HI4.out.2
     have n1 := HI4.out.1
     have e1 := Hkeep.out.2.2.1.ne_blk Hkeep.out.1
     have e2 := Hkeep.out.2.2.1.ne_blk Hkeep.out.2.1
     refine ⟨k + 1, by go_num, by omega, hbut.blk k1.drew e1, hbut.blk k2.drew e2, HI4.out.1.eq fun i => ?_, hbut.below_new (w1 := w3.drew) B3.drew h8⟩
     rw [take_snoc_el He.out.1]
     simp [or_comm]
    case measure => simp [intOf]; omega
  · obtain rfl : k = n := by omega
    have hl : ls.take k = ls := List.take_of_length_le (by rw [Hr.out.1]; omega)
    rw [hl] at g5
    have m0 := g1.cell 0
    simp at m0
    have hmg := g1.ne g2 (by decide)
    have HI := hid (insert_ok .nil none gt 64 0 A k c ls (fun _ => False) SB wr g2 rfl (fun h => h) (Hr.out.step hbr) (by simp [Tr.all]; omega) (Nat.zero_le _) (by decide) (by decide))
    rw [show ((0 : Nat) : Int) = 0 from rfl] at HI
    have G5 := hid g5
    have hgl := g1.lt
    clear g5 hl
    repeat' (first | (go_at_call 94; go_must ((with_reducible refine Calls.mono HI.out ?_); rintro _ w5 ⟨p5, T5, rfl, hT5, hb5, ⟨hq5, _⟩, hB5⟩; dsimp only)) | go_step)
    go_ret2
    have hgm := G5.out.ne_blk g2
    refine ⟨mb, rfl, ⟨gt, gm, p5, T5, hB5.blk g1 hmg, hb5, hT5.more (fun b _ h => ?_), by rw [hq5]; simp [Tr.all], G5.out.heap (hB5.block _ G5.out.lt (Ne.symm hgm)), h6, h7, h8, Hg.out⟩, hB5.below_new hbr h7⟩
    rcases h with h | h
    · exact h.elim
    · exact ⟨Nat.le_trans hbr.size h, by have := g2.lt; omega⟩
theorem bvia {w w0 w1 : World} (h : Below w.heap.size w w0) (k : Below w0.heap.size w0 w1) : Below w.heap.size w w1 := h.trans (k.mono h.size)
theorem balloc {w w0 : World} {o : Obj} (h : Below w.heap.size w w0) : Below w.heap.size w (w0.alloc o) := h.alloc h.size _
theorem bset {w w0 : World} {p : Addr} {u : Value} (h : Below w.heap.size w w0) (hp : w.heap.size ≤ p.block) : Below w.heap.size w (w0.setCell p u) := h.setCell hp _
theorem bdrew {w w0 : World} (h : Below w.heap.size w w0) : Below w.heap.size w w0.drew := h.drew
theorem els_eq (A : Option Addr) (n c : Nat) (B : Option Addr) (d : Nat) (ch : List El) (S S' : Nat → Prop) (w : World) (h1 : Row w S A n c ch) (h2 : Row w S' B n d ch) :
 Calls Tryz.prog 24 #[.slice A n c, .slice B n d] w fun e w' => e = .returned (.bool true) ∧ Below w.heap.size w w' := by
 have hn := h1.len_le
 have hm : maxLen = 9223372036854775807 := rfl
 have hnc := h1.2.1
 have hnd := h2.2.1
 go_enter Tryz.func24, Tryz.ntmps24
 repeat' (first | go_step)
 go_loopw [5] (fun i wr => ∃ k : Nat, i = .int .i64 k ∧ k ≤ n ∧ Below w.heap.size w wr) (fun i _ => n - (intOf i).toNat)
 case atStart => exact ⟨0, rfl, Nat.zero_le _, Below.refl _ _⟩
 case round =>
  obtain ⟨k, rfl, hk, hb⟩ := hrel
  by_cases e : k < n
  · obtain ⟨b1, o1, l1, rfl, _, he1, p0, p1, p2, p3, p4⟩ := ((h1.step hb).drew).at_ e
    obtain ⟨b2, o2, l2, rfl, _, he2, q0, q1, q2, q3, q4⟩ := ((h2.step hb).drew).at_ e
    obtain rfl : l1 = l2 := Option.some.inj (he1.symm.trans he2)
    have hlt1 := lt_of_cell' p0
    have hlt2 := lt_of_cell' q0
    repeat' (first | ((with_reducible refine region_at 6 ?_); refine wp_region_order (rgl [0,4,8,12,16,20,24,28,32]) (by kernel_rfl) (by kernel_rfl) (by kernel_rfl) rfl rfl ?_) | ((with_reducible refine WpH.here ?_); first | (refine WpH.nil ?_; refine NoP.normal ?_) | ((first | refine WpH.load (by rfl) (by rfl) (by go_simp; rfl) ?_ | refine WpH.pure (by rfl) (fun w_ => by go_simp; (try go_bits); rfl) ?_); go_frame)) | go_step)
    go_roundw
    case rel => exact ⟨k + 1, by go_num, by omega, hb.drew⟩
    case measure => simp [intOf]; omega
  · obtain rfl : k = n := by omega
    go_wp2
    go_ret
    exact ⟨rfl, hb⟩
theorem Own.step {w w' : World} {base : Nat} {A : Option Addr} {n c : Nat} {es : List El} (h : Own w base A n c es) (hb : Below w.heap.size w w') : Own w' base A n c es := h.keep (S := fun _ => True) (Same.of_below hb) fun _ _ => trivial
theorem Blk.four {w : World} {g : Nat} {t : TypeId} {x y z u : Value} (h : Blk w g t #[x, y, z, u]) : w.cell? ⟨g, 0, none⟩ = some x ∧ w.cell? ⟨g, 1, none⟩ = some y ∧ w.cell? ⟨g, 2, none⟩ = some z ∧ w.cell? ⟨g, 3, none⟩ = some u ∧
 w.frozen? ⟨g, 0, none⟩ = false ∧ w.frozen? ⟨g, 1, none⟩ = false ∧ w.frozen? ⟨g, 2, none⟩ = false ∧ w.frozen? ⟨g, 3, none⟩ = false ∧ g < w.heap.size :=
 ⟨h.cell 0, h.cell 1, h.cell 2, h.cell 3, h.frozen 0, h.frozen 1, h.frozen 2, h.frozen 3, h.lt⟩
theorem Row.one (w : World) (e : El) : Row (w.alloc (.cells #[.int .i64 e.epoch, .int .i64 e.rep, .int .i64 e.num, .int .i32 e.char, .int .i64 e.hides] 113)) (fun _ => True) (some ⟨w.heap.size, 0, none⟩) 1 1 [e] := Row.lit w _ [e] 1 _ trivial rfl (by decide) rfl
theorem boxes2 (w : World) (t u : TypeId) (x y : Array Value) : let W := (w.alloc (.cells x t)).alloc (.cells y u)
 Blk W w.heap.size t x ∧ Blk W (w.heap.size + 1) u y ∧ Below w.heap.size w W := by
 intro W
 refine ⟨(Blk.new w t x).alloc _, ?_, balloc (balloc (Below.refl _ _))⟩
 have := Blk.new (w.alloc (.cells x t)) u y
 rw [show (w.alloc (.cells x t)).heap.size = w.heap.size + 1 from Array.size_push _] at this
 exact this
theorem Blk.five {w : World} {g : Nat} {t : TypeId} {x y z u v : Value} (h : Blk w g t #[x, y, z, u, v]) : w.cell? ⟨g, 0, none⟩ = some x ∧ w.cell? ⟨g, 1, none⟩ = some y ∧ w.cell? ⟨g, 2, none⟩ = some z ∧ w.cell? ⟨g, 3, none⟩ = some u ∧ w.cell? ⟨g, 4, none⟩ = some v ∧ g < w.heap.size :=
 ⟨h.cell 0, h.cell 1, h.cell 2, h.cell 3, h.cell 4, h.lt⟩
theorem size_set (w : World) (p : Addr) (u : Value) : (w.setCell p u).heap.size = w.heap.size := by simp [World.setCell]
theorem Own.lit {w : World} (cs : Array Value) (es : List El) (base : Nat) (hb : base ≤ w.heap.size) (hm : es.length ≤ maxLen) (hc : cs.toList = cellsOf es) : Own (w.alloc (.cells cs 113)) base (some ⟨w.heap.size, 0, none⟩) es.length es.length es := by
 refine ⟨rfl, ?_⟩
 rw [← hc]
 refine World.ownsRow_lit w cs es.length hb hm ?_
 rw [← Array.length_toList, hc, cellsOf_length]
theorem refCopy_any (A : Option Addr) (n c : Nat) (es : List El) (S : Nat → Prop) (w : World) (h : Row w S A n c es) (hn : n ≤ 1099511627776) :
 Calls Tryz.prog 160 #[.slice A n c] w fun e w' => ∃ A' c', e = .returned (.slice A' n c') ∧ Own w' w.heap.size A' n c' es ∧ Below w.heap.size w w' := by
 have hE := Own.lit (w := w) #[] [] w.heap.size (Nat.le_refl _) (Nat.zero_le _) rfl
 have eE : Below w.heap.size w (w.alloc (.cells #[] 113)) := balloc (Below.refl _ _)
 have h1 := h.step eE
 go_enter Tryz.func160, Tryz.ntmps160
 repeat' (first | ((with_reducible refine append_here ?_); refine wp_append_el w.heap.size _ A 0 0 n c [] es S (by rfl) (by rfl) hE h1 eE.size (by omega) ?_; intro A' c' w1 hA hb1 hsm1 hat1 hz1) | go_step)
 go_ret
 rw [Nat.zero_add, List.nil_append] at *
 exact ⟨A', c', rfl, hA, eE.trans hb1⟩
theorem refPut_any (A : Option Addr) (n c i : Nat) (B : Option Addr) (m d : Nat) (es fs : List El) (S S' : Nat → Prop) (w : World) (h : Row w S A n c es) (h' : Row w S' B m d fs) (hn : n + m ≤ 1099511627776) (hi : i ≤ n) :
 Calls Tryz.prog 159 #[.slice A n c, .int .i64 i, .slice B m d] w fun e w' => ∃ A' c', e = .returned (.slice A' (n + m) c') ∧ Own w' w.heap.size A' (n + m) c' (es.take i ++ fs ++ es.drop i) ∧ Below w.heap.size w w' := by
 have hT := h.take_ hi
 have hD := (h.drop_ hi).more (S' := fun b => b < w.heap.size) fun b hb _ => hb
 have hF := h'.more (S' := fun b => b < w.heap.size) fun b hb _ => hb
 have HC := hid (refCopy_any A i c _ S w hT (by omega))
 have hic := h.2.1
 have hin := h.len_le
 have hcm := h.2.2.1
 unfold maxLen at hin hcm
 clear hT
 go_enter Tryz.func159, Tryz.ntmps159
 repeat' (first | (go_at_call 160; go_must ((with_reducible refine Calls.mono HC.out ?_); rintro _ w1 ⟨A1, c1, rfl, hA1, hb1⟩; have hF1 := hF.step hb1; have hD1 := hD.step hb1; have hz1 := hb1.size; dsimp only)) | ((with_reducible refine append_here ?_); first | (refine wp_append_el w.heap.size A1 B i c1 m d _ fs _ (by rfl) (by rfl) hA1 hF1 hz1 (by omega) ?_; intro A2 c2 w2 hA2 hb2 hsm2 hat2 hz2; have hD2 := hD1.keep (w' := w2) (fun b hb _ => hb2.block b hb); have hz2' := Nat.le_trans hz1 hz2) | (refine wp_append_el w.heap.size A2 _ (i + m) c2 (n - i) (c - i) _ (es.drop i) _ (by rfl) (by rfl) hA2 hD2 hz2' (by omega) ?_; intro A3 c3 w3 hA3 hb3 hsm3 hat3 hz3)) | go_step)
 go_ret
 rw [show i + m + (n - i) = n + m from by omega] at hA3 ⊢
 exact ⟨A3, c3, rfl, hA3, (hb1.trans hb2).trans hb3⟩
def markEl (i : Int) : El := ⟨-9, 0, i, 109, 0⟩
theorem mark_any (i : Int) (w : World) : Calls Tryz.prog 107 #[.int .i64 i] w fun e w' => e = .returned (.agg #[.int .i64 (-9), .int .i64 0, .int .i64 i, .int .i32 109, .int .i64 0]) ∧ Below w.heap.size w w' := by
 go_enter Tryz.func107, Tryz.ntmps107
 repeat' (first | go_step)
 exact bodyPost_ret (v := .agg #[.int .i64 (-9), .int .i64 0, .int .i64 i, .int .i32 109, .int .i64 0]) (by simp [results, Tryz.results107, go_sem]) rfl ⟨rfl, by (repeat' (first | (with_reducible exact Below.refl _ _) | (with_reducible refine balloc ?_)))⟩
def marks (k : Nat) : List El := (List.range k).map fun (i : Nat) => markEl (i : Int)
theorem marks_succ (k : Nat) : marks (k + 1) = marks k ++ [markEl k] := by simp [marks, List.range_succ]
theorem lend_any (A : Option Addr) (n c : Nat) (es : List El) (S : Nat → Prop) (w : World) (h : Row w S A n c es) (hn : n ≤ 1073741824) :
 Calls Tryz.prog 72 #[.slice A n c] w fun e w' => ∃ A' c', e = .returned (.slice A' n c') ∧ Own w' w.heap.size A' (n + 4) c' (es ++ marks 4) ∧ (∃ g, A' = some ⟨g, 0, none⟩ ∧ w.heap.size ≤ g) ∧ Below w.heap.size w w' := by
 have hE := Own.lit (w := w) #[] [] w.heap.size (Nat.le_refl _) (Nat.zero_le _) rfl
 have eE : Below w.heap.size w (w.alloc (.cells #[] 113)) := balloc (Below.refl _ _)
 have h1 := h.step eE
 go_enter Tryz.func72, Tryz.ntmps72
 repeat' (first | ((with_reducible refine append_here ?_); refine wp_append_el w.heap.size _ A 0 0 n c [] es S (by rfl) (by rfl) hE h1 eE.size (by omega) ?_; intro A1 c1 w1 hA hb1 hsm1 hat1 hz1) | go_step)
 rw [Nat.zero_add, List.nil_append] at hA
 have hbb := eE.trans hb1
 clear hsm1 hat1 hE h1 eE hb1 hz1 h
 go_loopw [3, 4] (fun o i wr => ∃ (k : Nat) (A' : Option Addr) (c' : Nat), o = .slice A' (n + k) c' ∧ i = .int .i64 k ∧ k ≤ 4 ∧ Own wr w.heap.size A' (n + k) c' (es ++ marks k) ∧ Below w.heap.size w wr) (fun _ i _ => 4 - (intOf i).toNat)
 case atStart => exact ⟨0, A1, c1, rfl, rfl, Nat.zero_le _, by simpa [marks] using hA, hbb⟩
 case round =>
  obtain ⟨k, A', c', rfl, rfl, hk, hown, hbr⟩ := hrel
  by_cases hlt : k < 4
  · have HM := hid (fun W => mark_any k W)
    repeat' (first | (go_at_call 107; go_must ((with_reducible refine Calls.mono (HM.out _) ?_); rintro _ w2 ⟨rfl, hb2⟩; have hbr2 := bvia hbr hb2; have hown2 := hown.step hb2; have eX := balloc (o := .cells #[.int .i64 (-9), .int .i64 0, .int .i64 k, .int .i32 109, .int .i64 0] 113) (Below.refl _ w2); have hown3 := hown2.step eX; have hbr3 := bvia hbr2 eX; have hrow := Row.one w2 (markEl k); have hz3 := hbr3.size; dsimp only)) | ((with_reducible refine append_here ?_); refine wp_append_el w.heap.size A' _ (n + k) c' 1 1 (es ++ marks k) [markEl k] (fun _ => True) (by rfl) (by rfl) hown3 hrow hz3 (by omega) ?_; intro A2 c2 w4 hown4 hb4 hsm4 hat4 hz4) | go_step)
    go_roundw
    case rel =>
     refine ⟨k + 1, A2, c2, rfl, by go_num, by omega, ?_, hbr3.trans hb4⟩
     rw [marks_succ, ← List.append_assoc]
     exact hown4
    case measure => simp [intOf]; omega
  · obtain rfl : k = 4 := by omega
    have hc := hown.cap_le
    have hnc : n ≤ c' := by omega
    obtain ⟨g, cur, hg, hgb, -, -, -, -⟩ := own_at hown (by omega)
    subst hg
    repeat' (first | go_step)
    go_ret
    exact ⟨_, c', rfl, hown, ⟨g, rfl, hgb⟩, hbr⟩
theorem Row.el {w : World} {S : Nat → Prop} {A : Option Addr} {n c : Nat} {es : List El} (h : Row w S A n c es) {i : Nat} {e : El} (he : es[i]? = some e) : ∃ b off, A = some ⟨b, off, none⟩ ∧ S b ∧ b < w.heap.size ∧ w.cell? ⟨b, off + i * 5, none⟩ = some (.int .i64 e.epoch) ∧ w.cell? ⟨b, off + i * 5 + 1, none⟩ = some (.int .i64 e.rep) ∧ w.cell? ⟨b, off + i * 5 + 2, none⟩ = some (.int .i64 e.num) ∧ w.cell? ⟨b, off + i * 5 + 3, none⟩ = some (.int .i32 e.char) ∧ w.cell? ⟨b, off + i * 5 + 4, none⟩ = some (.int .i64 e.hides) := by
 have hi : i < n := by rw [← h.1]; exact (List.getElem?_eq_some_iff.1 he).1
 obtain ⟨b, off, e', h1, h2, h3, c0, c1, c2, c3, c4⟩ := h.at_ hi
 obtain rfl : e' = e := Option.some.inj (h3.symm.trans he)
 exact ⟨b, off, h1, h2, lt_of_cell' c0, c0, c1, c2, c3, c4⟩
theorem Own.drw {w : World} {base : Nat} {A : Option Addr} {n c : Nat} {es : List El} (h : Own w base A n c es) : Own w.drew base A n c es := h.keep (S := fun _ => True) (Same.drew _ _) fun _ _ => trivial
theorem own_blk {w : World} {base g n c : Nat} {es : List El} (h : Own w base (some ⟨g, 0, none⟩) n c es) (hn : 0 < n) {k : Nat} (hk : k < n) :
 w.frozen? ⟨g, k * 5, none⟩ = false ∧ w.frozen? ⟨g, k * 5 + 1, none⟩ = false ∧ w.frozen? ⟨g, k * 5 + 2, none⟩ = false ∧ w.frozen? ⟨g, k * 5 + 3, none⟩ = false ∧ w.frozen? ⟨g, k * 5 + 4, none⟩ = false ∧
 (∃ v, w.cell? ⟨g, k * 5, none⟩ = some v) ∧ (∃ v, w.cell? ⟨g, k * 5 + 1, none⟩ = some v) ∧ (∃ v, w.cell? ⟨g, k * 5 + 2, none⟩ = some v) ∧ (∃ v, w.cell? ⟨g, k * 5 + 3, none⟩ = some v) ∧ (∃ v, w.cell? ⟨g, k * 5 + 4, none⟩ = some v) := by
 obtain ⟨g', cur, e1, hbg, hb, hs, hnc, ht⟩ := own_at h hn
 injection e1 with e1
 injection e1 with e1
 subst e1
 have hh : ∀ j, j < 5 → ∃ v, w.cell? ⟨g, k * 5 + j, none⟩ = some v := fun j hj => by
  rw [hb.cell]
  exact ⟨cur[k * 5 + j]'(by omega), Array.getElem?_eq_getElem _⟩
 exact ⟨hb.frozen _, hb.frozen _, hb.frozen _, hb.frozen _, hb.frozen _, hh 0 (by omega), hh 1 (by omega), hh 2 (by omega), hh 3 (by omega), hh 4 (by omega)⟩
theorem intact_any (g0 : Nat) (n c : Nat) (B : Option Addr) (d base : Nat) (es : List El) (S : Nat → Prop) (w : World) (h : Own w base (some ⟨g0, 0, none⟩) (n + 4) c (es ++ marks 4)) (h' : Row w S B n d es) (hn : n ≤ 1073741824) (hb : base ≤ w.heap.size) :
 Calls Tryz.prog 73 #[.slice (some ⟨g0, 0, none⟩) n c, .slice B n d] w fun e w' => e = .returned (.bool true) ∧ But g0 w w' := by
 have hl := h'.1
 have hrow : Row w (fun _ => True) (some ⟨g0, 0, none⟩) (n + 4) c (es ++ marks 4) := h.row fun _ _ _ => trivial
 have ht := hrow.take_ (show n ≤ n + 4 by omega)
 rw [List.take_append_of_le_length (by omega), List.take_of_length_le (by omega)] at ht
 have HE := hid (els_eq (some ⟨g0, 0, none⟩) n c B d es _ _ w ht h')
 have hc := h.cap_le
 have hc1 : n + 4 ≤ c := hc.1
 have hc2 : n ≤ c := by omega
 clear ht
 go_enter Tryz.func73, Tryz.ntmps73
 repeat' (first | (go_at_call 24; go_must ((with_reducible refine Calls.mono HE.out ?_); rintro _ w1 ⟨rfl, hb1⟩; dsimp only)) | go_step)
 have hown1 := h.step hb1
 have hbb1 : But g0 w w1 := But.of_below hb1
 clear HE hrow
 go_loopw [6, 7] (fun o i wr => ∃ k : Nat, o = .bool true ∧ i = .int .i64 k ∧ k ≤ 4 ∧ Own wr base (some ⟨g0, 0, none⟩) (n + 4) c (es ++ marks 4) ∧ But g0 w wr) (fun _ i _ => 4 - (intOf i).toNat)
 case atStart => exact ⟨0, rfl, rfl, Nat.zero_le _, hown1, hbb1⟩
 case round =>
  obtain ⟨k, rfl, rfl, hk, hown, hbr⟩ := hrel
  by_cases hlt : k < 4
  · have HM := hid (fun W => mark_any k W)
    have he : (es ++ marks 4)[n + k]? = some (markEl k) := by
     rw [List.getElem?_append_right (by omega), hl, Nat.add_sub_cancel_left]
     rcases (show k = 0 ∨ k = 1 ∨ k = 2 ∨ k = 3 by omega) with rfl | rfl | rfl | rfl <;> rfl
    obtain ⟨g, off, hge, -, hgl, c0, c1, c2, c3, c4⟩ := (hown.row (S := fun _ => True) fun _ _ _ => trivial).el he
    injection hge with hge
    injection hge with hge1 hge2
    subst hge1 hge2
    simp only [markEl, Nat.zero_add] at c0 c1 c2 c3 c4
    repeat' (first | ((with_reducible refine region_at 6 ?_); refine wp_region_order (rgl [0,4,8,12,16,20,24,28,32,36,41,44,48,52]) (by kernel_rfl) (by kernel_rfl) (by kernel_rfl) rfl rfl ?_) | ((with_reducible refine WpH.here ?_); refine WpH.wild2 (by rfl) (fun _ _ => ?_)) | (go_at_call 107; go_must ((with_reducible refine Calls.mono (HM.out _) ?_); rintro _ w2 ⟨rfl, hb2⟩; dsimp only)) | (with_reducible refine Keep.below (by assumption) ?_) | ((with_reducible refine WpH.here ?_); first | (refine WpH.nil ?_; refine NoP.normal ?_) | ((first | refine WpH.load (by rfl) (by rfl) (by go_simp; rfl) ?_ | refine WpH.pure (by rfl) (fun w_ => by go_simp; (try go_bits); rfl) ?_); go_frame)) | go_step)
    go_roundw
    case rel => exact ⟨k + 1, rfl, by go_num, by omega, hown.drw.step hb2, (hbr.trans (But.of_below (Below.refl _ _).drew)).trans (But.of_below hb2)⟩
    case measure => simp [intOf]; omega
  · obtain rfl : k = 4 := by omega
    repeat' (first | go_step)
    have HM := hid (fun W => mark_any 99 W)
    go_loopw [8] (fun i wr => ∃ (k : Nat) (es' : List El), i = .int .i64 k ∧ k ≤ n + 4 ∧ Own wr base (some ⟨g0, 0, none⟩) (n + 4) c es' ∧ But g0 w wr) (fun i _ => n + 4 - (intOf i).toNat)
    case atStart => exact ⟨0, _, rfl, Nat.zero_le _, hown, hbr⟩
    case round =>
     clear hown hbr
     obtain ⟨k, es', rfl, hk, hown, hbr⟩ := hrel
     by_cases hlt : k < n + 4
     · obtain ⟨g, cur, hge, hg, -, -, -, -⟩ := own_at hown (by omega)
       injection hge with hge
       injection hge with hge
       subst hge
       have hll : g0 < wr.heap.size := (hown.block _ rfl).2
       repeat' (first | (go_at_call 107; go_must ((with_reducible refine Calls.mono (HM.out _) ?_); rintro _ w2 ⟨rfl, hb2⟩; have hown2 := hown.step hb2; have hbb2 : But g0 w w2 := hbr.trans (But.of_below hb2); have hgl2 := Nat.lt_of_lt_of_le hll hb2.size; obtain ⟨f0, f1, f2, f3, f4, ⟨_, y0⟩, ⟨_, y1⟩, ⟨_, y2⟩, ⟨_, y3⟩, ⟨_, y4⟩⟩ := own_blk hown2 (by omega) hlt; dsimp only)) | go_step)
       go_roundw
       case rel => exact ⟨k + 1, _, by go_num, by omega, hown2.set5 (markEl 99) hlt, ((((hbb2.setCell _ _).setCell _ _).setCell _ _).setCell _ _).setCell _ _⟩
       case measure => simp [intOf]; omega
     · obtain rfl : k = n + 4 := by omega
       repeat' (first | go_step)
       go_ret
       exact ⟨rfl, hbr⟩
def El.hide (e : El) (by_ : Int) : El := { e with hides := e.hides + by_ }
theorem fairH_bounds {n : Int} (h : fairH n = true) : -1099511627776 ≤ n ∧ n ≤ 1099511627776 := by simpa [fairH] using h
theorem map_nm_set (l : List El) (i : Nat) (e : El) (d : Int) (he : l[i]? = some e) : (l.set i (e.hide d)).map El.nm = l.map El.nm := by
 rw [List.map_set]
 obtain ⟨hi, rfl⟩ := List.getElem?_eq_some_iff.1 he
 have : El.nm (El.hide l[i] d) = (l.map El.nm)[i]'(by simpa using hi) := by simp [El.nm, El.hide]
 rw [this, List.set_getElem_self]
theorem madd_ok (w : World) (S : Nat → Prop) (mb : Nat) (l : List El) (K i : Nat) (e : El) (d : Int) (hd : d = 1 ∨ d = -1) (h : Mdl w S mb l K) (hl : l.length ≤ 536870912) (he : l[i]? = some e) (hf : fairH (e.hides + d) = true) :
 Calls Tryz.prog 135 #[.pointer (some ⟨mb, 0, none⟩), .int .i64 i, .int .i64 d] w fun r w' => r = .returned .nilIface ∧ Mdl w' (Fr w S) mb (l.set i (e.hide d)) K ∧ Out S w w' := by
 have hfb := fairH_bounds hf
 obtain ⟨gt, gm, p, T, h1, h2, h3, rfl, h5, h6, h7, h8, h9⟩ := h
 have hi := (List.getElem?_eq_some_iff.1 he).1
 have hgood := h9 e (List.mem_of_getElem? he)
 have hhb := fairH_bounds hgood.hides
 have He := hid he
 have m0 := h1.cell 0
 simp at m0
 have hml := h1.lt
 have Hk := hid (And.intro h5 h9)
 clear h5 h9 he
 rcases hd with rfl | rfl
 · skip
   have HA := hid (at_ok T p gt 64 i _ w h2 h3 (by omega) hi)
   have hnz : -9223372036854775808 ≤ e.hides := by omega
   have hpz : e.hides + 1 ≤ 9223372036854775807 := by omega
   have hqz : -9223372036854775808 ≤ e.hides + 1 := by omega
   have HF := hid (fun W => hideable_any (e.hides + 1) W)
   rw [hf] at HF
   have HF0 := hid hf
   clear hf
   go_enter Tryz.func135, Tryz.ntmps135
   repeat' (first | (go_at_call 152; go_must ((with_reducible refine Calls.mono HA.out ?_); rintro _ w1 ⟨⟨e0, rfl, he0⟩, hb1⟩; obtain rfl : e0 = e := Option.some.inj (he0.symm.trans He.out); clear he0; unfold El.agg; dsimp only)) | (go_at_call 126; go_must ((with_reducible refine Calls.mono (HF.out _) ?_); rintro _ _ ⟨rfl, rfl⟩; dsimp only)) | (with_reducible refine stop_region 7 ?_) | go_skip | go_guarded | go_step)
   refine Stop.go ?_
   have eX : Below w1.heap.size w1 (w1.alloc (.cells #[.int .i64 e0.epoch, .int .i64 e0.rep, .int .i64 e0.num, .int .i32 e0.char, .int .i64 (e0.hides + 1)] 113)) := (Below.refl _ _).alloc (Nat.le_refl _) _
   have hxX := Blk.new w1 113 #[.int .i64 e0.epoch, .int .i64 e0.rep, .int .i64 e0.num, .int .i32 e0.char, .int .i64 (e0.hides + 1)]
   have b2 := hb1.trans (eX.mono hb1.size)
   generalize w1.alloc (.cells #[.int .i64 e0.epoch, .int .i64 e0.rep, .int .i64 e0.num, .int .i32 e0.char, .int .i64 (e0.hides + 1)] 113) = X at *
   have k1 := h1.step b2
   have k2 := h2.step b2
   have HS := hid (tset_ok T p gt 64 i (e0.hide 1) (fun b => S b ∧ b ≠ gt) X.drew k2.drew (h3.step b2).drew (fun h => h.2 rfl) (by omega) hi)
   unfold El.hide at HS
   dsimp only at HS
   have t1 : mb ≠ gt := k1.ne k2 (by decide)
   have t2 : w1.heap.size ≠ gt := hxX.ne k2 (by decide)
   have q1 : X.drew.heap[mb]? = some (.cells #[.pointer (some ⟨gt, 0, none⟩), .map (some gm)] 110 (0, 0)) := k1
   have q2 : X.drew.heap[w1.heap.size]? = some (.cells #[.int .i64 e0.epoch, .int .i64 e0.rep, .int .i64 e0.num, .int .i32 e0.char, .int .i64 (e0.hides + 1)] 113 (0, 0)) := hxX
   have n0 := k1.cell 0
   have y0 := hxX.cell 0
   have y1 := hxX.cell 1
   have y2 := hxX.cell 2
   have y3 := hxX.cell 3
   have y4 := hxX.cell 4
   simp at n0 y0 y1 y2 y3 y4
   clear m0
   repeat' (first | ((with_reducible refine region_at 7 ?_); refine wp_region_orderT (fun b => b ≠ gt) (rgl [0,4,8,12,16,20,24,29,32]) (by kernel_rfl) (by kernel_rfl) (by kernel_rfl) rfl rfl ?_) | (go_at_call 153; go_must ((with_reducible refine Calls.mono HS.out ?_); rintro _ w5 ⟨p5, T5, rfl, hT5, hb5, ⟨hq5, _⟩, hB5⟩; have hq5' := hid hq5; clear hq5; have hk5 : KeepT (fun b => b ≠ gt) _ w5 := ⟨hB5.size, fun b hl hb => hB5.block b hl hb⟩; dsimp only)) | (with_reducible refine Keep.kept (by assumption) ?_) | ((with_reducible refine WpH.here ?_); first | (refine WpH.nil ?_; refine NoP.normal ?_) | ((first | refine WpH.loadT (by rfl) (by rfl) (by go_simp; rfl) (by rintro _ _ ⟨⟩; exact ⟨_, _, _, _, _, _, by rfl, by assumption, by assumption⟩) ?_ | refine WpH.pure (by rfl) (fun w_ => by go_simp; (try go_bits); rfl) ?_); go_frame) | (refine WpH.wild1 (by rfl) (fun _ _ => ?_))) | go_step)
   go_ret
   have hgm := Hk.out.1.ne_blk h2
   have hI2 := Hk.out.1.heap (b2.block _ Hk.out.1.lt)
   refine ⟨rfl, ⟨gt, gm, p5, T5, hB5.blk k1.drew t1, hb5, hT5.more (fun b _ h => ?_), hq5'.out, ?_, .inl h6, .inl h7, .inl h8, fun x hx => ?_⟩, ((Out.of_below b2).trans (Out.drew (S := S)) (fun _ _ h => h)).trans (Out.of_but hB5 h7) (fun _ _ h => h)⟩
   · rcases h with h | h
     · exact ⟨.inl h.1, h.2⟩
     · have h' : X.heap.size ≤ b := h
       exact ⟨.inr (Nat.le_trans b2.size h'), by have := k2.lt; omega⟩
   · show IsIds w5 gm K ((T.all.set i (El.hide e0 1)).map El.nm)
     rw [map_nm_set _ _ _ _ He.out]
     exact (hI2.drew).heap (hB5.block _ hI2.lt (Ne.symm hgm))
   · rcases List.mem_or_eq_of_mem_set hx with hx | rfl
     · exact Hk.out.2 x hx
     · exact ⟨hgood.char, HF0.out, hgood.nm⟩
 · skip
   have HA := hid (at_ok T p gt 64 i _ w h2 h3 (by omega) hi)
   have hnz : -9223372036854775808 ≤ e.hides := by omega
   have hpz : e.hides + (-1) ≤ 9223372036854775807 := by omega
   have hqz : -9223372036854775808 ≤ e.hides + (-1) := by omega
   have HF := hid (fun W => hideable_any (e.hides + (-1)) W)
   rw [hf] at HF
   have HF0 := hid hf
   clear hf
   go_enter Tryz.func135, Tryz.ntmps135
   repeat' (first | (go_at_call 152; go_must ((with_reducible refine Calls.mono HA.out ?_); rintro _ w1 ⟨⟨e0, rfl, he0⟩, hb1⟩; obtain rfl : e0 = e := Option.some.inj (he0.symm.trans He.out); clear he0; unfold El.agg; dsimp only)) | (go_at_call 126; go_must ((with_reducible refine Calls.mono (HF.out _) ?_); rintro _ _ ⟨rfl, rfl⟩; dsimp only)) | (with_reducible refine stop_region 7 ?_) | go_guarded | go_step)
   refine Stop.go ?_
   have eX : Below w1.heap.size w1 (w1.alloc (.cells #[.int .i64 e0.epoch, .int .i64 e0.rep, .int .i64 e0.num, .int .i32 e0.char, .int .i64 (e0.hides + (-1))] 113)) := (Below.refl _ _).alloc (Nat.le_refl _) _
   have hxX := Blk.new w1 113 #[.int .i64 e0.epoch, .int .i64 e0.rep, .int .i64 e0.num, .int .i32 e0.char, .int .i64 (e0.hides + (-1))]
   have b2 := hb1.trans (eX.mono hb1.size)
   generalize w1.alloc (.cells #[.int .i64 e0.epoch, .int .i64 e0.rep, .int .i64 e0.num, .int .i32 e0.char, .int .i64 (e0.hides + (-1))] 113) = X at *
   have k1 := h1.step b2
   have k2 := h2.step b2
   have HS := hid (tset_ok T p gt 64 i (e0.hide (-1)) (fun b => S b ∧ b ≠ gt) X.drew k2.drew (h3.step b2).drew (fun h => h.2 rfl) (by omega) hi)
   unfold El.hide at HS
   dsimp only at HS
   have t1 : mb ≠ gt := k1.ne k2 (by decide)
   have t2 : w1.heap.size ≠ gt := hxX.ne k2 (by decide)
   have q1 : X.drew.heap[mb]? = some (.cells #[.pointer (some ⟨gt, 0, none⟩), .map (some gm)] 110 (0, 0)) := k1
   have q2 : X.drew.heap[w1.heap.size]? = some (.cells #[.int .i64 e0.epoch, .int .i64 e0.rep, .int .i64 e0.num, .int .i32 e0.char, .int .i64 (e0.hides + (-1))] 113 (0, 0)) := hxX
   have n0 := k1.cell 0
   have y0 := hxX.cell 0
   have y1 := hxX.cell 1
   have y2 := hxX.cell 2
   have y3 := hxX.cell 3
   have y4 := hxX.cell 4
   simp at n0 y0 y1 y2 y3 y4
   clear m0
   repeat' (first | ((with_reducible refine region_at 7 ?_); refine wp_region_orderT (fun b => b ≠ gt) (rgl [0,4,8,12,16,20,24,29,32]) (by kernel_rfl) (by kernel_rfl) (by kernel_rfl) rfl rfl ?_) | (go_at_call 153; go_must ((with_reducible refine Calls.mono HS.out ?_); rintro _ w5 ⟨p5, T5, rfl, hT5, hb5, ⟨hq5, _⟩, hB5⟩; have hq5' := hid hq5; clear hq5; have hk5 : KeepT (fun b => b ≠ gt) _ w5 := ⟨hB5.size, fun b hl hb => hB5.block b hl hb⟩; dsimp only)) | (with_reducible refine Keep.kept (by assumption) ?_) | ((with_reducible refine WpH.here ?_); first | (refine WpH.nil ?_; refine NoP.normal ?_) | ((first | refine WpH.loadT (by rfl) (by rfl) (by go_simp; rfl) (by rintro _ _ ⟨⟩; exact ⟨_, _, _, _, _, _, by rfl, by assumption, by assumption⟩) ?_ | refine WpH.pure (by rfl) (fun w_ => by go_simp; (try go_bits); rfl) ?_); go_frame) | (refine WpH.wild1 (by rfl) (fun _ _ => ?_))) | go_step)
   go_ret
   have hgm := Hk.out.1.ne_blk h2
   have hI2 := Hk.out.1.heap (b2.block _ Hk.out.1.lt)
   refine ⟨rfl, ⟨gt, gm, p5, T5, hB5.blk k1.drew t1, hb5, hT5.more (fun b _ h => ?_), hq5'.out, ?_, .inl h6, .inl h7, .inl h8, fun x hx => ?_⟩, ((Out.of_below b2).trans (Out.drew (S := S)) (fun _ _ h => h)).trans (Out.of_but hB5 h7) (fun _ _ h => h)⟩
   · rcases h with h | h
     · exact ⟨.inl h.1, h.2⟩
     · have h' : X.heap.size ≤ b := h
       exact ⟨.inr (Nat.le_trans b2.size h'), by have := k2.lt; omega⟩
   · show IsIds w5 gm K ((T.all.set i (El.hide e0 (-1))).map El.nm)
     rw [map_nm_set _ _ _ _ He.out]
     exact (hI2.drew).heap (hB5.block _ hI2.lt (Ne.symm hgm))
   · rcases List.mem_or_eq_of_mem_set hx with hx | rfl
     · exact Hk.out.2 x hx
     · exact ⟨hgood.char, HF0.out, hgood.nm⟩
end Go.Proofs.YteggpddlkkjmjaaGreatDoor
