/- An element put in another one's place: the walks of with and Set. Conditions: the tree lies in memory apart from its header, fewer than 2^30 elements; the place is in it. An element of a model hidden once more, or once less. Conditions: the model lies in memory, fewer than 2^29 elements; the element's number of hidings stays in its bounds. Rows that are lent, and spoilt: the walks. Conditions: the rows lie in memory, fewer than 2^30 elements. The document's Insert and Add to a row of elements: done, or why not: the walks. Conditions: the row lies in memory, fewer than 2^30 elements. -/
import Derived.Test.YtnpbbidiloahdaaDoorP12
import Derived.Test.YtnpbbidiloahdaaDoorP13
import Derived.Test.YtnpbbidiloahdaaDoorP10
import Derived.Laws.StructEq
namespace Go.Proofs.YtnpbbidiloahdaaDoor
set_option linter.unusedSimpArgs false
set_option linter.unusedVariables false
open Go Go.RowKit
theorem cellsOf_set (es : List El) (i : Nat) (e : El) (hi : i < es.length) : cellsOf (es.set i e) = (((((cellsOf es).set (i * 5) (.int .i64 e.epoch)).set (i * 5 + 1) (.int .i64 e.rep)).set (i * 5 + 2) (.int .i64 e.num)).set (i * 5 + 3) (.int .i32 e.char)).set (i * 5 + 4) (.int .i64 e.hides) := by
  induction es generalizing i with
  | nil => simp at hi
  | cons x es ih =>
    cases i with
    | zero =>
      simp only [List.set_cons_zero, cellsOf_cons, El.cells, Nat.zero_mul, Nat.zero_add, List.cons_append, List.nil_append]
      rfl
    | succ i =>
      have hi' : i < es.length := by simpa using hi
      simp only [List.set_cons_succ, cellsOf_cons]
      rw [ih i hi']
      simp only [El.cells, List.cons_append, List.nil_append]
      rw [show (i + 1) * 5 = i * 5 + 1 + 1 + 1 + 1 + 1 from by omega]
      rw [show i * 5 + 1 + 1 + 1 + 1 + 1 + 1 = (i * 5 + 1) + 1 + 1 + 1 + 1 + 1 from by omega, show i * 5 + 1 + 1 + 1 + 1 + 1 + 2 = (i * 5 + 2) + 1 + 1 + 1 + 1 + 1 from by omega, show i * 5 + 1 + 1 + 1 + 1 + 1 + 3 = (i * 5 + 3) + 1 + 1 + 1 + 1 + 1 from by omega, show i * 5 + 1 + 1 + 1 + 1 + 1 + 4 = (i * 5 + 4) + 1 + 1 + 1 + 1 + 1 from by omega]
      simp only [List.set_cons_succ]
theorem own_at {w : World} {base : Nat} {A : Option Addr} {n c : Nat} {es : List El} (h : Own w base A n c es) (hn : 0 < n) : ∃ g cur, A = some ⟨g, 0, none⟩ ∧ base ≤ g ∧ Blk w g 48 cur ∧ cur.size = c * 5 ∧ n ≤ c ∧ cur.toList.take (n * 5) = cellsOf es := by
  rcases h.2.2 with ⟨_, h0⟩ | ⟨g, cap, cur, e, hbg, hh, h1, h2, h3, h4⟩
  · omega
  · injection e with e1 e2 e3
    subst e3
    exact ⟨g, cur, e1, hbg, hh, h3, h1, h4⟩
/-- a slice of the call's own, an element of it written -/
theorem Own.set5 {w : World} {base g n c i : Nat} {es : List El} (h : Own w base (some ⟨g, 0, none⟩) n c es) (e : El) (hi : i < n) :
    Own (((((w.setCell ⟨g, i * 5, none⟩ (.int .i64 e.epoch)).setCell ⟨g, i * 5 + 1, none⟩ (.int .i64 e.rep)).setCell ⟨g, i * 5 + 2, none⟩ (.int .i64 e.num)).setCell ⟨g, i * 5 + 3, none⟩ (.int .i32 e.char)).setCell ⟨g, i * 5 + 4, none⟩ (.int .i64 e.hides)) base (some ⟨g, 0, none⟩) n c (es.set i e) := by
  have hc := h.cap_le
  obtain ⟨g', cur, e1, hbg, hb, hs, hnc, ht⟩ := own_at h (by omega)
  injection e1 with e1
  injection e1 with e1
  subst e1
  have hb' := ((((hb.set_ (i * 5) (.int .i64 e.epoch)).set_ (i * 5 + 1) (.int .i64 e.rep)).set_ (i * 5 + 2) (.int .i64 e.num)).set_ (i * 5 + 3) (.int .i32 e.char)).set_ (i * 5 + 4) (.int .i64 e.hides)
  refine ⟨by simpa using h.1, by rw [cellsOf_length, List.length_set, h.1], .inr ⟨g, c, _, rfl, hbg, hb', hnc, hc.2, by simp [hs], ?_⟩⟩
  rw [cellsOf_set es i e (by rw [h.1]; exact hi), ← ht]
  simp only [Array.toList_setIfInBounds, List.take_set]
end Go.Proofs.YtnpbbidiloahdaaDoor
namespace Go.Proofs.YtnpbbidiloahdaaDoor
set_option linter.unusedSimpArgs false
set_option linter.unusedVariables false
open Go Go.RowKit
end Go.Proofs.YtnpbbidiloahdaaDoor
namespace Go.Proofs.YtnpbbidiloahdaaDoor
set_option linter.unusedSimpArgs false
set_option linter.unusedVariables false
open Go Go.RowKit
end Go.Proofs.YtnpbbidiloahdaaDoor
namespace Go.Proofs.YtnpbbidiloahdaaDoor
set_option linter.unusedSimpArgs false
set_option linter.unusedVariables false
open Go Go.RowKit
theorem ref5Fair_any (n : Int) (w : World) : Calls Tryd.prog 47 #[.int .i64 n] w fun e w' => e = .returned (.bool (fairH n)) ∧ w = w' := by
  go_enter Tryd.func47, Tryd.ntmps47
  repeat' (first | go_values | go_skip | go_guarded | go_step | go_upon | go_back)
  all_goals
    go_ret
    refine ⟨congrArg (fun x => Ending.returned (.bool x)) ?_, rfl⟩
    try simp only [beq_iff_eq, beq_eq_false_iff_ne, ne_eq] at *
    unfold fairH
    first
      | (simp_all; done)
      | (simp_all; omega)
      | (rw [Bool.eq_iff_iff]; simp_all; done)
      | (rw [Bool.eq_iff_iff]; simp_all; omega)
      | (go_goals; fail)
set_option maxRecDepth 20000 in
set_option maxHeartbeats 2000000 in
theorem ref5Index_at (A : Option Addr) (n c : Nat) (es : List El) (S : Nat → Prop) (id : Nm) (w : World) (h : Row w S A n c es) (hn : n ≤ 1073741824) :
    Calls Tryd.prog 14 #[.slice A n c, .agg #[.int .i64 id.epoch, .int .i64 id.rep, .int .i64 id.num]] w fun e w' => ((∃ (k : Nat) (x : El), e = .returned (.int .i64 k) ∧ es[k]? = some x ∧ x.nm = id ∧ id ∉ (es.take k).map El.nm) ∨ e = .returned (.int .i64 (-1)) ∧ id ∉ es.map El.nm) ∧ Below w.heap.size w w' := by
  have Hr := hid h
  have hl := h.1
  clear h
  have b1 : Below w.heap.size w (w.alloc (.cells #[.int .i64 id.epoch, .int .i64 id.rep, .int .i64 id.num] 30)) := balloc (Below.refl _ _)
  have hX := Blk.new w 30 #[.int .i64 id.epoch, .int .i64 id.rep, .int .i64 id.num]
  go_enter Tryd.func14, Tryd.ntmps14
  repeat' (first | go_values | go_skip | go_guarded | go_step | go_upon | go_back)
  go_loopw [5] (fun i wr => ∃ k : Nat, i = .int .i64 k ∧ k ≤ n ∧ id ∉ (es.take k).map El.nm ∧ Blk wr w.heap.size 30 #[.int .i64 id.epoch, .int .i64 id.rep, .int .i64 id.num] ∧ Below w.heap.size w wr) (fun i wr => n - (intOf i).toNat)
  case atStart => exact ⟨0, rfl, by omega, by simp, hX, b1⟩
  case round =>
    clear hX b1
    obtain ⟨k, rfl, hk, hno, hX, hbr⟩ := hrel
    have x0 := hX.cell 0
    have x1 := hX.cell 1
    have x2 := hX.cell 2
    have xl := hX.lt
    simp at x0 x1 x2
    by_cases hlt : k < n
    · obtain ⟨b, off, e, rfl, hS, he, c0, c1, c2, c3, c4⟩ := (Hr.out.step hbr).at_ hlt
      have hsn := take_snoc_el he
      have hb := lt_of_cell' c0
      have Hk := hid (And.intro he (And.intro hsn (And.intro hno hX)))
      clear he hsn hno hX c3 c4
      have hmem : ¬ e.nm = id → id ∉ (es.take (k + 1)).map El.nm := fun hne h => by
        rw [Hk.out.2.1, List.map_append, List.mem_append] at h
        rcases h with h | h
        · exact Hk.out.2.2.1 h
        · have h' : id = e.nm := by simpa using h
          exact hne h'.symm
      have Hm := hid hmem
      clear hmem
      by_cases h0 : e.epoch = id.epoch
      · by_cases h1 : e.rep = id.rep
        · by_cases h2 : e.num = id.num
          · have hin : e.nm = id := by cases id; simp only [El.nm] at *; rw [h0, h1, h2]
            have Hin := hid hin
            clear hin
            rw [h0] at c0
            rw [h1] at c1
            rw [h2] at c2
            clear h0 h1 h2 Hm
            repeat' (first | ((with_reducible refine region_at 4 ?_); refine wp_region_order [(0, true, false), (1, true, false), (2, true, false), (3, true, false), (4, true, false), (5, true, false), (6, true, false)] (by kernel_rfl) (by kernel_rfl) (by kernel_rfl) rfl rfl ?_) | (with_reducible refine Keep.last ?_) | (with_reducible refine Keep.below (by assumption) ?_) | (with_reducible refine Keep.kept (by assumption) ?_) | (with_reducible refine Keep.alloc ?_) | (with_reducible refine Keep.same ?_) | ((with_reducible refine WpH.here ?_); first | (refine WpH.nil ?_; refine NoP.normal ?_) | (refine WpH.load (by rfl) (by rfl) (by go_simp; rfl) ?_; simp only [Act.put, List.setIfInBounds_toArray, List.set_cons_zero, List.set_cons_succ]) | (refine WpH.loadT (by rfl) (by rfl) (by go_simp; rfl) (by rintro _ _ ⟨⟩; exact ⟨_, _, _, _, _, _, by rfl, by assumption, by assumption⟩) ?_; simp only [Act.put, List.setIfInBounds_toArray, List.set_cons_zero, List.set_cons_succ]) | (refine WpH.pure (by rfl) (fun w_ => by go_simp; (try go_bits); rfl) ?_; simp only [Act.put, List.setIfInBounds_toArray, List.set_cons_zero, List.set_cons_succ]) | (refine WpH.wild1 (by rfl) (fun _ _ => ?_)) | (refine WpH.skip (by rfl) ?_; simp only [Act.put, List.setIfInBounds_toArray, List.set_cons_zero, List.set_cons_succ])) | go_values | go_skip | go_guarded | go_step | go_upon | go_back)
            go_ret
            exact ⟨.inl ⟨k, e, rfl, Hk.out.1, Hin.out, Hk.out.2.2.1⟩, hbr.drew⟩
          · have hmm := hid (Hm.out fun h => h2 (congrArg Nm.num h))
            rw [h0] at c0
            rw [h1] at c1
            clear h0 h1 Hm
            have h2' : (e.num == id.num) = false := by simpa using h2
            repeat' (first | ((with_reducible refine region_at 4 ?_); refine wp_region_order [(0, true, false), (1, true, false), (2, true, false), (3, true, false), (4, true, false), (5, true, false), (6, true, false)] (by kernel_rfl) (by kernel_rfl) (by kernel_rfl) rfl rfl ?_) | (with_reducible refine Keep.last ?_) | (with_reducible refine Keep.below (by assumption) ?_) | (with_reducible refine Keep.kept (by assumption) ?_) | (with_reducible refine Keep.alloc ?_) | (with_reducible refine Keep.same ?_) | ((with_reducible refine WpH.here ?_); first | (refine WpH.nil ?_; refine NoP.normal ?_) | (refine WpH.load (by rfl) (by rfl) (by go_simp; rfl) ?_; simp only [Act.put, List.setIfInBounds_toArray, List.set_cons_zero, List.set_cons_succ]) | (refine WpH.loadT (by rfl) (by rfl) (by go_simp; rfl) (by rintro _ _ ⟨⟩; exact ⟨_, _, _, _, _, _, by rfl, by assumption, by assumption⟩) ?_; simp only [Act.put, List.setIfInBounds_toArray, List.set_cons_zero, List.set_cons_succ]) | (refine WpH.pure (by rfl) (fun w_ => by go_simp; (try go_bits); rfl) ?_; simp only [Act.put, List.setIfInBounds_toArray, List.set_cons_zero, List.set_cons_succ]) | (refine WpH.wild1 (by rfl) (fun _ _ => ?_)) | (refine WpH.skip (by rfl) ?_; simp only [Act.put, List.setIfInBounds_toArray, List.set_cons_zero, List.set_cons_succ])) | go_values | go_skip | go_guarded | go_step | go_upon | go_back)
            go_roundw
            case rel => exact ⟨k + 1, by go_num, by omega, hmm.out, Hk.out.2.2.2.drew, hbr.drew⟩
            case measure => simp [intOf]; omega
        · have hmm := hid (Hm.out fun h => h1 (congrArg Nm.rep h))
          rw [h0] at c0
          clear h0 Hm
          have h1' : (e.rep == id.rep) = false := by simpa using h1
          repeat' (first | ((with_reducible refine region_at 4 ?_); refine wp_region_order [(0, true, false), (1, true, false), (2, true, false), (3, true, false), (4, true, false), (5, true, false), (6, true, false)] (by kernel_rfl) (by kernel_rfl) (by kernel_rfl) rfl rfl ?_) | (with_reducible refine Keep.last ?_) | (with_reducible refine Keep.below (by assumption) ?_) | (with_reducible refine Keep.kept (by assumption) ?_) | (with_reducible refine Keep.alloc ?_) | (with_reducible refine Keep.same ?_) | ((with_reducible refine WpH.here ?_); first | (refine WpH.nil ?_; refine NoP.normal ?_) | (refine WpH.load (by rfl) (by rfl) (by go_simp; rfl) ?_; simp only [Act.put, List.setIfInBounds_toArray, List.set_cons_zero, List.set_cons_succ]) | (refine WpH.loadT (by rfl) (by rfl) (by go_simp; rfl) (by rintro _ _ ⟨⟩; exact ⟨_, _, _, _, _, _, by rfl, by assumption, by assumption⟩) ?_; simp only [Act.put, List.setIfInBounds_toArray, List.set_cons_zero, List.set_cons_succ]) | (refine WpH.pure (by rfl) (fun w_ => by go_simp; (try go_bits); rfl) ?_; simp only [Act.put, List.setIfInBounds_toArray, List.set_cons_zero, List.set_cons_succ]) | (refine WpH.wild1 (by rfl) (fun _ _ => ?_)) | (refine WpH.skip (by rfl) ?_; simp only [Act.put, List.setIfInBounds_toArray, List.set_cons_zero, List.set_cons_succ])) | go_values | go_skip | go_guarded | go_step | go_upon | go_back)
          go_roundw
          case rel => exact ⟨k + 1, by go_num, by omega, hmm.out, Hk.out.2.2.2.drew, hbr.drew⟩
          case measure => simp [intOf]; omega
      · have hmm := hid (Hm.out fun h => h0 (congrArg Nm.epoch h))
        clear Hm
        have h0' : (e.epoch == id.epoch) = false := by simpa using h0
        repeat' (first | ((with_reducible refine region_at 4 ?_); refine wp_region_order [(0, true, false), (1, true, false), (2, true, false), (3, true, false), (4, true, false), (5, true, false), (6, true, false)] (by kernel_rfl) (by kernel_rfl) (by kernel_rfl) rfl rfl ?_) | (with_reducible refine Keep.last ?_) | (with_reducible refine Keep.below (by assumption) ?_) | (with_reducible refine Keep.kept (by assumption) ?_) | (with_reducible refine Keep.alloc ?_) | (with_reducible refine Keep.same ?_) | ((with_reducible refine WpH.here ?_); first | (refine WpH.nil ?_; refine NoP.normal ?_) | (refine WpH.load (by rfl) (by rfl) (by go_simp; rfl) ?_; simp only [Act.put, List.setIfInBounds_toArray, List.set_cons_zero, List.set_cons_succ]) | (refine WpH.loadT (by rfl) (by rfl) (by go_simp; rfl) (by rintro _ _ ⟨⟩; exact ⟨_, _, _, _, _, _, by rfl, by assumption, by assumption⟩) ?_; simp only [Act.put, List.setIfInBounds_toArray, List.set_cons_zero, List.set_cons_succ]) | (refine WpH.pure (by rfl) (fun w_ => by go_simp; (try go_bits); rfl) ?_; simp only [Act.put, List.setIfInBounds_toArray, List.set_cons_zero, List.set_cons_succ]) | (refine WpH.wild1 (by rfl) (fun _ _ => ?_)) | (refine WpH.skip (by rfl) ?_; simp only [Act.put, List.setIfInBounds_toArray, List.set_cons_zero, List.set_cons_succ])) | go_values | go_skip | go_guarded | go_step | go_upon | go_back)
        skip
        go_roundw
        case rel => exact ⟨k + 1, by go_num, by omega, hmm.out, Hk.out.2.2.2.drew, hbr.drew⟩
        case measure => simp [intOf]; omega
    · obtain rfl : k = n := by omega
      rw [List.take_of_length_le (by omega)] at hno
      have Hno := hid hno
      clear hno
      repeat' (first | (with_reducible refine Keep.last ?_) | (with_reducible refine Keep.below (by assumption) ?_) | (with_reducible refine Keep.kept (by assumption) ?_) | (with_reducible refine Keep.alloc ?_) | (with_reducible refine Keep.same ?_) | ((with_reducible refine WpH.here ?_); first | (refine WpH.nil ?_; refine NoP.normal ?_) | (refine WpH.load (by rfl) (by rfl) (by go_simp; rfl) ?_; simp only [Act.put, List.setIfInBounds_toArray, List.set_cons_zero, List.set_cons_succ]) | (refine WpH.loadT (by rfl) (by rfl) (by go_simp; rfl) (by rintro _ _ ⟨⟩; exact ⟨_, _, _, _, _, _, by rfl, by assumption, by assumption⟩) ?_; simp only [Act.put, List.setIfInBounds_toArray, List.set_cons_zero, List.set_cons_succ]) | (refine WpH.pure (by rfl) (fun w_ => by go_simp; (try go_bits); rfl) ?_; simp only [Act.put, List.setIfInBounds_toArray, List.set_cons_zero, List.set_cons_succ]) | (refine WpH.wild1 (by rfl) (fun _ _ => ?_)) | (refine WpH.skip (by rfl) ?_; simp only [Act.put, List.setIfInBounds_toArray, List.set_cons_zero, List.set_cons_succ])) | go_values | go_skip | go_guarded | go_step | go_upon | go_back)
      go_ret
      exact ⟨.inr ⟨rfl, Hno.out⟩, hbr⟩
theorem ref5Index_any (A : Option Addr) (n c : Nat) (es : List El) (S : Nat → Prop) (id : Nm) (w : World) (h : Row w S A n c es) (hn : n ≤ 1073741824) :
    Calls Tryd.prog 14 #[.slice A n c, .agg #[.int .i64 id.epoch, .int .i64 id.rep, .int .i64 id.num]] w fun e w' => (∃ r : Int, e = .returned (.int .i64 r) ∧ (0 ≤ r ↔ id ∈ es.map El.nm)) ∧ Below w.heap.size w w' := by
  refine (ref5Index_at A n c es S id w h hn).mono ?_
  rintro e w' ⟨(⟨k, x, rfl, hx, hn, _⟩ | ⟨rfl, hno⟩), hb⟩
  · exact ⟨⟨k, rfl, ⟨fun _ => List.mem_map.2 ⟨x, List.mem_of_getElem? hx, hn⟩, fun _ => by omega⟩⟩, hb⟩
  · exact ⟨⟨-1, rfl, ⟨fun h => absurd h (by decide), fun h => absurd h hno⟩⟩, hb⟩
theorem first_same {es : List El} {id : Nm} {j k : Nat} {x y : El} (hx : es[j]? = some x) (hxn : x.nm = id) (hxf : id ∉ (es.take j).map El.nm) (hy : es[k]? = some y) (hyn : y.nm = id) (hyf : id ∉ (es.take k).map El.nm) : j = k := by
  rcases Nat.lt_trichotomy j k with h | h | h
  · exact absurd (List.mem_map.2 ⟨x, List.mem_of_getElem? (show (es.take k)[j]? = some x by rw [List.getElem?_take, if_pos h]; exact hx), hxn⟩) hyf
  · exact h
  · exact absurd (List.mem_map.2 ⟨y, List.mem_of_getElem? (show (es.take j)[k]? = some y by rw [List.getElem?_take, if_pos h]; exact hy), hyn⟩) hxf
/-- why an element can't be laid in: 0: it can -/
def wrongOf (l : List El) (e : El) : Nat := if rightC e.char = false then 3 else if fairH e.hides = false then 1 else if e.nm ∈ l.map El.nm then 9 else 0
set_option maxRecDepth 20000 in
set_option maxHeartbeats 1000000 in
theorem wrong_any (A : Option Addr) (n c : Nat) (es : List El) (S : Nat → Prop) (e : El) (w : World) (h : Row w S A n c es) (hn : n ≤ 1073741824) :
    Calls Tryd.prog 24 #[.slice A n c, .agg #[.int .i64 e.epoch, .int .i64 e.rep, .int .i64 e.num, .int .i32 e.char, .int .i64 e.hides]] w fun r w' => r = .returned (.int .i64 (wrongOf es e)) ∧ Below w.heap.size w w' := by
  have b1 : Below w.heap.size w (w.alloc (.cells #[.int .i64 e.epoch, .int .i64 e.rep, .int .i64 e.num, .int .i32 e.char, .int .i64 e.hides] 48)) := balloc (Below.refl _ _)
  have HR := hid (fun W => ref5Right_any e.char W)
  have HF := hid (fun W => ref5Fair_any e.hides W)
  have HI := hid (fun W (hb : Below w.heap.size w W) => ref5Index_any A n c es S e.nm W (h.step hb) hn)
  simp only [El.nm] at HI
  obtain ⟨u, hu⟩ : ∃ u, u = wrongOf es e := ⟨_, rfl⟩
  rw [← hu]
  unfold wrongOf at hu
  generalize rightC e.char = rc at *
  generalize fairH e.hides = fh at *
  cases rc
  · rw [if_pos rfl] at hu
    subst hu
    go_enter Tryd.func24, Tryd.ntmps24
    repeat' (first | (go_at_call 46; go_must ((with_reducible refine Calls.mono (HR.out _) ?_); rintro _ _ ⟨rfl, rfl⟩; dsimp only)) | go_values | go_skip | go_guarded | go_step | go_upon | go_back)
    go_ret
    exact ⟨rfl, b1⟩
  · rw [if_neg (by simp)] at hu
    cases fh
    · rw [if_pos rfl] at hu
      subst hu
      go_enter Tryd.func24, Tryd.ntmps24
      repeat' (first | (go_at_call 46; go_must ((with_reducible refine Calls.mono (HR.out _) ?_); rintro _ _ ⟨rfl, rfl⟩; dsimp only)) | (go_at_call 47; go_must ((with_reducible refine Calls.mono (HF.out _) ?_); rintro _ _ ⟨rfl, rfl⟩; dsimp only)) | go_values | go_skip | go_guarded | go_step | go_upon | go_back)
      go_ret
      exact ⟨rfl, b1⟩
    · rw [if_neg (by simp)] at hu
      by_cases hm : e.nm ∈ es.map El.nm
      · rw [if_pos hm] at hu
        subst hu
        go_enter Tryd.func24, Tryd.ntmps24
        repeat' (first | (go_at_call 46; go_must ((with_reducible refine Calls.mono (HR.out _) ?_); rintro _ _ ⟨rfl, rfl⟩; dsimp only)) | (go_at_call 47; go_must ((with_reducible refine Calls.mono (HF.out _) ?_); rintro _ _ ⟨rfl, rfl⟩; dsimp only)) | (go_at_call 14; go_must ((with_reducible refine Calls.mono (HI.out _ b1) ?_); rintro _ w3 ⟨⟨r, rfl, hr⟩, hb3⟩; have hr0 : 0 ≤ r := hr.2 hm; clear hr; dsimp only)) | go_values | go_skip | go_guarded | go_step | go_upon | go_back)
        go_ret
        exact ⟨rfl, bvia b1 hb3⟩
      · rw [if_neg hm] at hu
        subst hu
        go_enter Tryd.func24, Tryd.ntmps24
        repeat' (first | (go_at_call 46; go_must ((with_reducible refine Calls.mono (HR.out _) ?_); rintro _ _ ⟨rfl, rfl⟩; dsimp only)) | (go_at_call 47; go_must ((with_reducible refine Calls.mono (HF.out _) ?_); rintro _ _ ⟨rfl, rfl⟩; dsimp only)) | (go_at_call 14; go_must ((with_reducible refine Calls.mono (HI.out _ b1) ?_); rintro _ w3 ⟨⟨r, rfl, hr⟩, hb3⟩; have hr0 : ¬ (0 ≤ r) := fun h => hm (hr.1 h); clear hr; dsimp only)) | go_values | go_skip | go_guarded | go_step | go_upon | go_back)
        go_ret
        exact ⟨rfl, bvia b1 hb3⟩
theorem boxSz (w : World) (o : Obj) : (w.alloc o).heap.size = w.heap.size + 1 := Array.size_push _
/-- a refusal kept in a box of the call's own: its rows stand -/
theorem IsNo.boxed {w w2 : World} {S : Nat → Prop} {b : Nat} {ch : List Lk} {code : Nat} {v : Value} {W : World} (h : IsNo w2 (Fr W (fun b => S b ∧ b < w.heap.size)) ch code v) (hb : w.heap.size ≤ b) (hW : b < W.heap.size) (hWw : w.heap.size ≤ W.heap.size) (x y z : Value) :
    IsNo (((w2.setCell ⟨b, 0, none⟩ x).setCell ⟨b, 1, none⟩ y).setCell ⟨b, 2, none⟩ z) (Fr w S) ch code v := by
  obtain ⟨h1, A, n, c, B, d, rfl, hr1, hr2⟩ := h
  have ns : ¬ Fr W (fun b => S b ∧ b < w.heap.size) b := fun h => by
    rcases h with h | h
    · omega
    · omega
  have sm : Same (Fr W (fun b => S b ∧ b < w.heap.size)) w2 (((w2.setCell ⟨b, 0, none⟩ x).setCell ⟨b, 1, none⟩ y).setCell ⟨b, 2, none⟩ z) :=
    ((Same.setCell w2 ns _).trans (by simp [World.setCell]) (Same.setCell _ ns _)).trans (by simp [World.setCell]) (Same.setCell _ ns _)
  have hre : ∀ b, Fr W (fun b => S b ∧ b < w.heap.size) b → Fr w S b := by
    intro b h
    rcases h with h | h
    · exact .inl h.1
    · exact .inr (Nat.le_trans hWw h)
  exact ⟨h1, A, n, c, B, d, rfl, (hr1.keep (by simp [World.setCell]) sm).more fun b _ h => hre b h, (hr2.keep (by simp [World.setCell]) sm).more fun b _ h => hre b h⟩
set_option maxRecDepth 20000 in
set_option maxHeartbeats 2000000 in
theorem refInsert_ok (A : Option Addr) (n c i : Nat) (es : List El) (S : Nat → Prop) (e : El) (w : World) (h : Row w S A n c es) (hn : n ≤ 1073741824) (hi : i ≤ n) (hw : wrongOf es e = 0) :
    Calls Tryd.prog 12 #[.slice A n c, .int .i64 i, .agg #[.int .i64 e.epoch, .int .i64 e.rep, .int .i64 e.num, .int .i32 e.char, .int .i64 e.hides]] w fun r w' => ∃ A' c', r = .returned (.tuple #[.slice A' (n + 1) c', noNone]) ∧ Own w' w.heap.size A' (n + 1) c' (es.take i ++ e :: es.drop i) ∧ Below w.heap.size w w' := by
  obtain ⟨hX, hR, hb⟩ := boxes2 w 48 44 #[.int .i64 e.epoch, .int .i64 e.rep, .int .i64 e.num, .int .i32 e.char, .int .i64 e.hides] #[.int .i64 0, .slice none 0 0, .slice none 0 0]
  have HW := hid (fun W (hb : Below w.heap.size w W) => wrong_any A n c es S e W (h.step hb) hn)
  rw [hw] at HW
  have n1 : ¬ ((i : Int) > n) := by omega
  clear hw
  unfold noNone
  obtain ⟨x0, x1, x2, x3, x4, xl⟩ := hX.five
  go_enter Tryd.func12, Tryd.ntmps12
  repeat' (first | (go_at_call 24; go_must ((with_reducible refine Calls.mono (HW.out _ hb) ?_); rintro _ w2 ⟨rfl, hb2⟩; obtain ⟨x0, x1, x2, x3, x4, xl⟩ := (hX.step hb2).five; dsimp only)) | (with_reducible refine stop_region 6 ?_) | go_values | go_skip | go_guarded | go_step | go_upon | go_back)
  refine Stop.go ?_
  have e1 := Row.one w2 e
  have eZ := balloc (o := .cells #[.int .i64 e.epoch, .int .i64 e.rep, .int .i64 e.num, .int .i32 e.char, .int .i64 e.hides] 48) (Below.refl _ w2)
  have hbZ := bvia (bvia hb hb2) eZ
  have HP := hid (refPut_any A n c i (some ⟨w2.heap.size, 0, none⟩) 1 1 es [e] S (fun _ => True) _ (h.step hbZ) e1 (by omega) hi)
  have hR2 := (hR.step hb2).step eZ
  have hzZ := hbZ.size
  repeat' (first | (go_at_call 25; go_must ((with_reducible refine Calls.mono HP.out ?_); rintro _ w3 ⟨A', c', rfl, ho, hb3⟩; have hR3 := hR2.step hb3; have r0 := hR3.cell 0; have r1 := hR3.cell 1; have r2 := hR3.cell 2; have f0 := hR3.frozen 0; have f1 := hR3.frozen 1; have f2 := hR3.frozen 2; have rl := hR3.lt; simp at r0 r1 r2; dsimp only)) | go_values | go_skip | go_guarded | go_step | go_upon | go_back)
  refine bodyPost_ret (v := .tuple #[.slice A' (n + 1) c', .agg #[.int .i64 0, .slice none 0 0, .slice none 0 0]]) (by simp [results, Tryd.results12, go_sem, r0, r1, r2, rl, size_set]) rfl ⟨A', c', rfl, ?_, ?_⟩
  · have hne : ∀ a, A' = some a → a.block ≠ w.heap.size + 1 := fun a ha => by
      have := (ho.block a ha).1
      have h2 := hR2.lt
      omega
    have h1 := ((ho.keep (S := fun b => b ≠ w.heap.size + 1) (Same.setCell (p := ⟨w.heap.size + 1, 0, none⟩) w3 (fun h => h rfl) (.int .i64 0)) hne).keep (S := fun b => b ≠ w.heap.size + 1) (Same.setCell (p := ⟨w.heap.size + 1, 1, none⟩) _ (fun h => h rfl) (.slice none 0 0)) hne).keep (S := fun b => b ≠ w.heap.size + 1) (Same.setCell (p := ⟨w.heap.size + 1, 2, none⟩) _ (fun h => h rfl) (.slice none 0 0)) hne
    have h2 := h1.mono hzZ
    simpa using h2
  · exact bset (bset (bset (bvia hbZ hb3) (Nat.le_succ _)) (Nat.le_succ _)) (Nat.le_succ _)
set_option maxRecDepth 20000 in
set_option maxHeartbeats 2000000 in
theorem refInsert_no (A : Option Addr) (n c i code : Nat) (es : List El) (S S' : Nat → Prop) (e : El) (w : World) (h : Row w S A n c es) (hn : n ≤ 1073741824) (hi : i ≤ n) (hw : wrongOf es e = code) (h1 : 1 ≤ code) (h2 : code ≤ 13) :
    Calls Tryd.prog 12 #[.slice A n c, .int .i64 i, .agg #[.int .i64 e.epoch, .int .i64 e.rep, .int .i64 e.num, .int .i32 e.char, .int .i64 e.hides]] w fun r w' => ∃ v, r = .returned (.tuple #[.slice A n c, v]) ∧ IsNo w' (Fr w S') [⟨({ data := #[109, 111, 100, 101, 108] } : ByteArray), ({ data := #[73, 110, 115, 101, 114, 116] } : ByteArray), atOf i⟩] code v ∧ Below w.heap.size w w' := by
  obtain ⟨hX, hR, hb⟩ := boxes2 w 48 44 #[.int .i64 e.epoch, .int .i64 e.rep, .int .i64 e.num, .int .i32 e.char, .int .i64 e.hides] #[.int .i64 0, .slice none 0 0, .slice none 0 0]
  have HW := hid (fun W (hb : Below w.heap.size w W) => wrong_any A n c es S e W (h.step hb) hn)
  rw [hw] at HW
  have n1 : ¬ ((i : Int) > n) := by omega
  have n2 : ¬ ((code : Int) = 0) := by omega
  have n3 : ((code : Int) == 0) = false := by simpa using n2
  have HS := hid (fun W => say_any ({ data := #[109, 111, 100, 101, 108] } : ByteArray) ({ data := #[73, 110, 115, 101, 114, 116] } : ByteArray) i code h1 h2 (fun b => S' b ∧ b < w.heap.size) W)
  clear hw
  obtain ⟨x0, x1, x2, x3, x4, xl⟩ := hX.five
  go_enter Tryd.func12, Tryd.ntmps12
  repeat' (first | (go_at_call 24; go_must ((with_reducible refine Calls.mono (HW.out _ hb) ?_); rintro _ w2 ⟨rfl, hb2⟩; obtain ⟨x0, x1, x2, x3, x4, xl⟩ := (hX.step hb2).five; dsimp only)) | (go_at_call 23; go_must ((with_reducible refine Calls.mono (HS.out _) ?_); rintro _ w3 ⟨v, rfl, ⟨g1, B, m, d, C, k, rfl, hr1, hr2⟩, hb3⟩; have hR3 := (hR.step hb2).step hb3; have r0 := hR3.cell 0; have r1 := hR3.cell 1; have r2 := hR3.cell 2; have f0 := hR3.frozen 0; have f1 := hR3.frozen 1; have f2 := hR3.frozen 2; have rl := hR3.lt; simp at r0 r1 r2; dsimp only)) | go_values | go_skip | go_guarded | go_step | go_upon | go_back)
  have hbb := bvia hb hb2
  have hz2 := hbb.size
  have hRl := (hR.step hb2).lt
  refine bodyPost_ret (v := .tuple #[.slice A n c, .agg #[.int .i64 code, .slice B m d, .slice C 1 k]]) (by simp [results, Tryd.results12, go_sem, r0, r1, r2, rl, size_set]) rfl ⟨_, rfl, ?_, ?_⟩
  · exact IsNo.boxed (W := w2) ⟨g1, B, m, d, C, k, rfl, hr1, hr2⟩ (Nat.le_succ _) hRl hz2 _ _ _
  · exact bset (bset (bset (bvia hbb hb3) (Nat.le_succ _)) (Nat.le_succ _)) (Nat.le_succ _)
end Go.Proofs.YtnpbbidiloahdaaDoor
