/- The document's Insert and Add to a row of elements: done, or why not: the walks. Conditions: the row lies in memory, fewer than 2^30 elements. -/
import Derived.Test.YtfihjajllfihjaaGreatDoorP21
import Derived.Test.YtfihjajllfihjaaGreatDoorP22
import Derived.Test.YtfihjajllfihjaaGreatDoorSLend
namespace Go.Proofs.YtfihjajllfihjaaGreatDoor
set_option linter.unusedSimpArgs false
set_option linter.unusedVariables false
open Go Go.RowKit
theorem ref5Fair_any (n : Int) (w : World) : Calls Tryz.prog 82 #[.int .i64 n] w fun e w' => e = .returned (.bool (fairH n)) ∧ w = w' := by
  go_enter Tryz.func82, Tryz.ntmps82
  repeat' (first | go_values | go_skip | go_guarded | go_step | go_upon | go_back)
  all_goals
    go_ret
    refine ⟨congrArg (fun x => Ending.returned (.bool x)) ?_, rfl⟩
    try simp only [beq_iff_eq, beq_eq_false_iff_ne, ne_eq] at *
    unfold fairH
    first
      | (simp_all; done)
      | (simp_all; omega)
      | (rw [Bool.eq_iff_iff]; simp_all; done)
      | (rw [Bool.eq_iff_iff]; simp_all; omega)
      | (go_goals; fail)
set_option maxRecDepth 20000 in
set_option maxHeartbeats 2000000 in
theorem ref5Index_at (A : Option Addr) (n c : Nat) (es : List El) (S : Nat → Prop) (id : Nm) (w : World) (h : Row w S A n c es) (hn : n ≤ 1073741824) :
    Calls Tryz.prog 40 #[.slice A n c, .agg #[.int .i64 id.epoch, .int .i64 id.rep, .int .i64 id.num]] w fun e w' => ((∃ (k : Nat) (x : El), e = .returned (.int .i64 k) ∧ es[k]? = some x ∧ x.nm = id ∧ id ∉ (es.take k).map El.nm) ∨ e = .returned (.int .i64 (-1)) ∧ id ∉ es.map El.nm) ∧ Below w.heap.size w w' := by
  have Hr := hid h
  have hl := h.1
  clear h
  have b1 : Below w.heap.size w (w.alloc (.cells #[.int .i64 id.epoch, .int .i64 id.rep, .int .i64 id.num] 30)) := balloc (Below.refl _ _)
  have hX := Blk.new w 30 #[.int .i64 id.epoch, .int .i64 id.rep, .int .i64 id.num]
  go_enter Tryz.func40, Tryz.ntmps40
  repeat' (first | go_values | go_skip | go_guarded | go_step | go_upon | go_back)
  go_loopw [5] (fun i wr => ∃ k : Nat, i = .int .i64 k ∧ k ≤ n ∧ id ∉ (es.take k).map El.nm ∧ Blk wr w.heap.size 30 #[.int .i64 id.epoch, .int .i64 id.rep, .int .i64 id.num] ∧ Below w.heap.size w wr) (fun i wr => n - (intOf i).toNat)
  case atStart => exact ⟨0, rfl, by omega, by simp, hX, b1⟩
  case round =>
    clear hX b1
    obtain ⟨k, rfl, hk, hno, hX, hbr⟩ := hrel
    have x0 := hX.cell 0
    have x1 := hX.cell 1
    have x2 := hX.cell 2
    have xl := hX.lt
    simp at x0 x1 x2
    by_cases hlt : k < n
    · obtain ⟨b, off, e, rfl, hS, he, c0, c1, c2, c3, c4⟩ := (Hr.out.step hbr).at_ hlt
      have hsn := take_snoc_el he
      have hb := lt_of_cell' c0
      have Hk := hid (And.intro he (And.intro hsn (And.intro hno hX)))
      clear he hsn hno hX c3 c4
      have hmem : ¬ e.nm = id → id ∉ (es.take (k + 1)).map El.nm := fun hne h => by
        rw [Hk.out.2.1, List.map_append, List.mem_append] at h
        rcases h with h | h
        · exact Hk.out.2.2.1 h
        · have h' : id = e.nm := by simpa using h
          exact hne h'.symm
      have Hm := hid hmem
      clear hmem
      by_cases h0 : e.epoch = id.epoch
      · by_cases h1 : e.rep = id.rep
        · by_cases h2 : e.num = id.num
          · have hin : e.nm = id := by cases id; simp only [El.nm] at *; rw [h0, h1, h2]
            have Hin := hid hin
            clear hin
            rw [h0] at c0
            rw [h1] at c1
            rw [h2] at c2
            clear h0 h1 h2 Hm
            repeat' (first | ((with_reducible refine region_at 4 ?_); refine wp_region_order [(0, true, false), (1, true, false), (2, true, false), (3, true, false), (4, true, false), (5, true, false), (6, true, false)] (by kernel_rfl) (by kernel_rfl) (by kernel_rfl) rfl rfl ?_) | (with_reducible refine Keep.last ?_) | (with_reducible refine Keep.below (by assumption) ?_) | (with_reducible refine Keep.kept (by assumption) ?_) | (with_reducible refine Keep.alloc ?_) | (with_reducible refine Keep.same ?_) | ((with_reducible refine WpH.here ?_); first | (refine WpH.nil ?_; refine NoP.normal ?_) | (refine WpH.load (by rfl) (by rfl) (by go_simp; rfl) ?_; simp only [Act.put, List.setIfInBounds_toArray, List.set_cons_zero, List.set_cons_succ]) | (refine WpH.loadT (by rfl) (by rfl) (by go_simp; rfl) (by rintro _ _ ⟨⟩; exact ⟨_, _, _, _, _, _, by rfl, by assumption, by assumption⟩) ?_; simp only [Act.put, List.setIfInBounds_toArray, List.set_cons_zero, List.set_cons_succ]) | (refine WpH.pure (by rfl) (fun w_ => by go_simp; (try go_bits); rfl) ?_; simp only [Act.put, List.setIfInBounds_toArray, List.set_cons_zero, List.set_cons_succ]) | (refine WpH.wild1 (by rfl) (fun _ _ => ?_)) | (refine WpH.skip (by rfl) ?_; simp only [Act.put, List.setIfInBounds_toArray, List.set_cons_zero, List.set_cons_succ])) | go_values | go_skip | go_guarded | go_step | go_upon | go_back)
            go_ret
            exact ⟨.inl ⟨k, e, rfl, Hk.out.1, Hin.out, Hk.out.2.2.1⟩, hbr.drew⟩
          · have hmm := hid (Hm.out fun h => h2 (congrArg Nm.num h))
            rw [h0] at c0
            rw [h1] at c1
            clear h0 h1 Hm
            have h2' : (e.num == id.num) = false := by simpa using h2
            repeat' (first | ((with_reducible refine region_at 4 ?_); refine wp_region_order [(0, true, false), (1, true, false), (2, true, false), (3, true, false), (4, true, false), (5, true, false), (6, true, false)] (by kernel_rfl) (by kernel_rfl) (by kernel_rfl) rfl rfl ?_) | (with_reducible refine Keep.last ?_) | (with_reducible refine Keep.below (by assumption) ?_) | (with_reducible refine Keep.kept (by assumption) ?_) | (with_reducible refine Keep.alloc ?_) | (with_reducible refine Keep.same ?_) | ((with_reducible refine WpH.here ?_); first | (refine WpH.nil ?_; refine NoP.normal ?_) | (refine WpH.load (by rfl) (by rfl) (by go_simp; rfl) ?_; simp only [Act.put, List.setIfInBounds_toArray, List.set_cons_zero, List.set_cons_succ]) | (refine WpH.loadT (by rfl) (by rfl) (by go_simp; rfl) (by rintro _ _ ⟨⟩; exact ⟨_, _, _, _, _, _, by rfl, by assumption, by assumption⟩) ?_; simp only [Act.put, List.setIfInBounds_toArray, List.set_cons_zero, List.set_cons_succ]) | (refine WpH.pure (by rfl) (fun w_ => by go_simp; (try go_bits); rfl) ?_; simp only [Act.put, List.setIfInBounds_toArray, List.set_cons_zero, List.set_cons_succ]) | (refine WpH.wild1 (by rfl) (fun _ _ => ?_)) | (refine WpH.skip (by rfl) ?_; simp only [Act.put, List.setIfInBounds_toArray, List.set_cons_zero, List.set_cons_succ])) | go_values | go_skip | go_guarded | go_step | go_upon | go_back)
            go_roundw
            case rel => exact ⟨k + 1, by go_num, by omega, hmm.out, Hk.out.2.2.2.drew, hbr.drew⟩
            case measure => simp [intOf]; omega
        · have hmm := hid (Hm.out fun h => h1 (congrArg Nm.rep h))
          rw [h0] at c0
          clear h0 Hm
          have h1' : (e.rep == id.rep) = false := by simpa using h1
          repeat' (first | ((with_reducible refine region_at 4 ?_); refine wp_region_order [(0, true, false), (1, true, false), (2, true, false), (3, true, false), (4, true, false), (5, true, false), (6, true, false)] (by kernel_rfl) (by kernel_rfl) (by kernel_rfl) rfl rfl ?_) | (with_reducible refine Keep.last ?_) | (with_reducible refine Keep.below (by assumption) ?_) | (with_reducible refine Keep.kept (by assumption) ?_) | (with_reducible refine Keep.alloc ?_) | (with_reducible refine Keep.same ?_) | ((with_reducible refine WpH.here ?_); first | (refine WpH.nil ?_; refine NoP.normal ?_) | (refine WpH.load (by rfl) (by rfl) (by go_simp; rfl) ?_; simp only [Act.put, List.setIfInBounds_toArray, List.set_cons_zero, List.set_cons_succ]) | (refine WpH.loadT (by rfl) (by rfl) (by go_simp; rfl) (by rintro _ _ ⟨⟩; exact ⟨_, _, _, _, _, _, by rfl, by assumption, by assumption⟩) ?_; simp only [Act.put, List.setIfInBounds_toArray, List.set_cons_zero, List.set_cons_succ]) | (refine WpH.pure (by rfl) (fun w_ => by go_simp; (try go_bits); rfl) ?_; simp only [Act.put, List.setIfInBounds_toArray, List.set_cons_zero, List.set_cons_succ]) | (refine WpH.wild1 (by rfl) (fun _ _ => ?_)) | (refine WpH.skip (by rfl) ?_; simp only [Act.put, List.setIfInBounds_toArray, List.set_cons_zero, List.set_cons_succ])) | go_values | go_skip | go_guarded | go_step | go_upon | go_back)
          go_roundw
          case rel => exact ⟨k + 1, by go_num, by omega, hmm.out, Hk.out.2.2.2.drew, hbr.drew⟩
          case measure => simp [intOf]; omega
      · have hmm := hid (Hm.out fun h => h0 (congrArg Nm.epoch h))
        clear Hm
        have h0' : (e.epoch == id.epoch) = false := by simpa using h0
        repeat' (first | ((with_reducible refine region_at 4 ?_); refine wp_region_order [(0, true, false), (1, true, false), (2, true, false), (3, true, false), (4, true, false), (5, true, false), (6, true, false)] (by kernel_rfl) (by kernel_rfl) (by kernel_rfl) rfl rfl ?_) | (with_reducible refine Keep.last ?_) | (with_reducible refine Keep.below (by assumption) ?_) | (with_reducible refine Keep.kept (by assumption) ?_) | (with_reducible refine Keep.alloc ?_) | (with_reducible refine Keep.same ?_) | ((with_reducible refine WpH.here ?_); first | (refine WpH.nil ?_; refine NoP.normal ?_) | (refine WpH.load (by rfl) (by rfl) (by go_simp; rfl) ?_; simp only [Act.put, List.setIfInBounds_toArray, List.set_cons_zero, List.set_cons_succ]) | (refine WpH.loadT (by rfl) (by rfl) (by go_simp; rfl) (by rintro _ _ ⟨⟩; exact ⟨_, _, _, _, _, _, by rfl, by assumption, by assumption⟩) ?_; simp only [Act.put, List.setIfInBounds_toArray, List.set_cons_zero, List.set_cons_succ]) | (refine WpH.pure (by rfl) (fun w_ => by go_simp; (try go_bits); rfl) ?_; simp only [Act.put, List.setIfInBounds_toArray, List.set_cons_zero, List.set_cons_succ]) | (refine WpH.wild1 (by rfl) (fun _ _ => ?_)) | (refine WpH.skip (by rfl) ?_; simp only [Act.put, List.setIfInBounds_toArray, List.set_cons_zero, List.set_cons_succ])) | go_values | go_skip | go_guarded | go_step | go_upon | go_back)
        skip
        go_roundw
        case rel => exact ⟨k + 1, by go_num, by omega, hmm.out, Hk.out.2.2.2.drew, hbr.drew⟩
        case measure => simp [intOf]; omega
    · obtain rfl : k = n := by omega
      rw [List.take_of_length_le (by omega)] at hno
      have Hno := hid hno
      clear hno
      repeat' (first | (with_reducible refine Keep.last ?_) | (with_reducible refine Keep.below (by assumption) ?_) | (with_reducible refine Keep.kept (by assumption) ?_) | (with_reducible refine Keep.alloc ?_) | (with_reducible refine Keep.same ?_) | ((with_reducible refine WpH.here ?_); first | (refine WpH.nil ?_; refine NoP.normal ?_) | (refine WpH.load (by rfl) (by rfl) (by go_simp; rfl) ?_; simp only [Act.put, List.setIfInBounds_toArray, List.set_cons_zero, List.set_cons_succ]) | (refine WpH.loadT (by rfl) (by rfl) (by go_simp; rfl) (by rintro _ _ ⟨⟩; exact ⟨_, _, _, _, _, _, by rfl, by assumption, by assumption⟩) ?_; simp only [Act.put, List.setIfInBounds_toArray, List.set_cons_zero, List.set_cons_succ]) | (refine WpH.pure (by rfl) (fun w_ => by go_simp; (try go_bits); rfl) ?_; simp only [Act.put, List.setIfInBounds_toArray, List.set_cons_zero, List.set_cons_succ]) | (refine WpH.wild1 (by rfl) (fun _ _ => ?_)) | (refine WpH.skip (by rfl) ?_; simp only [Act.put, List.setIfInBounds_toArray, List.set_cons_zero, List.set_cons_succ])) | go_values | go_skip | go_guarded | go_step | go_upon | go_back)
      go_ret
      exact ⟨.inr ⟨rfl, Hno.out⟩, hbr⟩
theorem ref5Index_any (A : Option Addr) (n c : Nat) (es : List El) (S : Nat → Prop) (id : Nm) (w : World) (h : Row w S A n c es) (hn : n ≤ 1073741824) :
    Calls Tryz.prog 40 #[.slice A n c, .agg #[.int .i64 id.epoch, .int .i64 id.rep, .int .i64 id.num]] w fun e w' => (∃ r : Int, e = .returned (.int .i64 r) ∧ (0 ≤ r ↔ id ∈ es.map El.nm)) ∧ Below w.heap.size w w' := by
  refine (ref5Index_at A n c es S id w h hn).mono ?_
  rintro e w' ⟨(⟨k, x, rfl, hx, hn, _⟩ | ⟨rfl, hno⟩), hb⟩
  · exact ⟨⟨k, rfl, ⟨fun _ => List.mem_map.2 ⟨x, List.mem_of_getElem? hx, hn⟩, fun _ => by omega⟩⟩, hb⟩
  · exact ⟨⟨-1, rfl, ⟨fun h => absurd h (by decide), fun h => absurd h hno⟩⟩, hb⟩
theorem first_same {es : List El} {id : Nm} {j k : Nat} {x y : El} (hx : es[j]? = some x) (hxn : x.nm = id) (hxf : id ∉ (es.take j).map El.nm) (hy : es[k]? = some y) (hyn : y.nm = id) (hyf : id ∉ (es.take k).map El.nm) : j = k := by
  rcases Nat.lt_trichotomy j k with h | h | h
  · exact absurd (List.mem_map.2 ⟨x, List.mem_of_getElem? (show (es.take k)[j]? = some x by rw [List.getElem?_take, if_pos h]; exact hx), hxn⟩) hyf
  · exact h
  · exact absurd (List.mem_map.2 ⟨y, List.mem_of_getElem? (show (es.take j)[k]? = some y by rw [List.getElem?_take, if_pos h]; exact hy), hyn⟩) hxf
/-- why an element can't be laid in: 0: it can -/
def wrongOf (l : List El) (e : El) : Nat := if rightC e.char = false then 3 else if fairH e.hides = false then 1 else if e.nm ∈ l.map El.nm then 9 else 0
set_option maxRecDepth 20000 in
set_option maxHeartbeats 1000000 in
theorem wrong_any (A : Option Addr) (n c : Nat) (es : List El) (S : Nat → Prop) (e : El) (w : World) (h : Row w S A n c es) (hn : n ≤ 1073741824) :
    Calls Tryz.prog 72 #[.slice A n c, .agg #[.int .i64 e.epoch, .int .i64 e.rep, .int .i64 e.num, .int .i32 e.char, .int .i64 e.hides]] w fun r w' => r = .returned (.int .i64 (wrongOf es e)) ∧ Below w.heap.size w w' := by
  have b1 : Below w.heap.size w (w.alloc (.cells #[.int .i64 e.epoch, .int .i64 e.rep, .int .i64 e.num, .int .i32 e.char, .int .i64 e.hides] 32)) := balloc (Below.refl _ _)
  have HR := hid (fun W => ref5Right_any e.char W)
  have HF := hid (fun W => ref5Fair_any e.hides W)
  have HI := hid (fun W (hb : Below w.heap.size w W) => ref5Index_any A n c es S e.nm W (h.step hb) hn)
  simp only [El.nm] at HI
  obtain ⟨u, hu⟩ : ∃ u, u = wrongOf es e := ⟨_, rfl⟩
  rw [← hu]
  unfold wrongOf at hu
  generalize rightC e.char = rc at *
  generalize fairH e.hides = fh at *
  cases rc
  · rw [if_pos rfl] at hu
    subst hu
    go_enter Tryz.func72, Tryz.ntmps72
    repeat' (first | (go_at_call 57; go_must ((with_reducible refine Calls.mono (HR.out _) ?_); rintro _ _ ⟨rfl, rfl⟩; dsimp only)) | go_values | go_skip | go_guarded | go_step | go_upon | go_back)
    go_ret
    exact ⟨rfl, b1⟩
  · rw [if_neg (by simp)] at hu
    cases fh
    · rw [if_pos rfl] at hu
      subst hu
      go_enter Tryz.func72, Tryz.ntmps72
      repeat' (first | (go_at_call 57; go_must ((with_reducible refine Calls.mono (HR.out _) ?_); rintro _ _ ⟨rfl, rfl⟩; dsimp only)) | (go_at_call 82; go_must ((with_reducible refine Calls.mono (HF.out _) ?_); rintro _ _ ⟨rfl, rfl⟩; dsimp only)) | go_values | go_skip | go_guarded | go_step | go_upon | go_back)
      go_ret
      exact ⟨rfl, b1⟩
    · rw [if_neg (by simp)] at hu
      by_cases hm : e.nm ∈ es.map El.nm
      · rw [if_pos hm] at hu
        subst hu
        go_enter Tryz.func72, Tryz.ntmps72
        repeat' (first | (go_at_call 57; go_must ((with_reducible refine Calls.mono (HR.out _) ?_); rintro _ _ ⟨rfl, rfl⟩; dsimp only)) | (go_at_call 82; go_must ((with_reducible refine Calls.mono (HF.out _) ?_); rintro _ _ ⟨rfl, rfl⟩; dsimp only)) | (go_at_call 40; go_must ((with_reducible refine Calls.mono (HI.out _ b1) ?_); rintro _ w3 ⟨⟨r, rfl, hr⟩, hb3⟩; have hr0 : 0 ≤ r := hr.2 hm; clear hr; dsimp only)) | go_values | go_skip | go_guarded | go_step | go_upon | go_back)
        go_ret
        exact ⟨rfl, bvia b1 hb3⟩
      · rw [if_neg hm] at hu
        subst hu
        go_enter Tryz.func72, Tryz.ntmps72
        repeat' (first | (go_at_call 57; go_must ((with_reducible refine Calls.mono (HR.out _) ?_); rintro _ _ ⟨rfl, rfl⟩; dsimp only)) | (go_at_call 82; go_must ((with_reducible refine Calls.mono (HF.out _) ?_); rintro _ _ ⟨rfl, rfl⟩; dsimp only)) | (go_at_call 40; go_must ((with_reducible refine Calls.mono (HI.out _ b1) ?_); rintro _ w3 ⟨⟨r, rfl, hr⟩, hb3⟩; have hr0 : ¬ (0 ≤ r) := fun h => hm (hr.1 h); clear hr; dsimp only)) | go_values | go_skip | go_guarded | go_step | go_upon | go_back)
        go_ret
        exact ⟨rfl, bvia b1 hb3⟩
theorem boxSz (w : World) (o : Obj) : (w.alloc o).heap.size = w.heap.size + 1 := Array.size_push _
/-- a refusal kept in a box of the call's own: its rows stand -/
theorem IsNo.boxed {w w2 : World} {S : Nat → Prop} {b : Nat} {ch : List Lk} {code : Nat} {v : Value} {W : World} (h : IsNo w2 (Fr W (fun b => S b ∧ b < w.heap.size)) ch code v) (hb : w.heap.size ≤ b) (hW : b < W.heap.size) (hWw : w.heap.size ≤ W.heap.size) (x y z : Value) :
    IsNo (((w2.setCell ⟨b, 0, none⟩ x).setCell ⟨b, 1, none⟩ y).setCell ⟨b, 2, none⟩ z) (Fr w S) ch code v := by
  obtain ⟨h1, A, n, c, B, d, rfl, hr1, hr2⟩ := h
  have ns : ¬ Fr W (fun b => S b ∧ b < w.heap.size) b := fun h => by
    rcases h with h | h
    · omega
    · omega
  have sm : Same (Fr W (fun b => S b ∧ b < w.heap.size)) w2 (((w2.setCell ⟨b, 0, none⟩ x).setCell ⟨b, 1, none⟩ y).setCell ⟨b, 2, none⟩ z) :=
    ((Same.setCell w2 ns _).trans (by simp [World.setCell]) (Same.setCell _ ns _)).trans (by simp [World.setCell]) (Same.setCell _ ns _)
  have hre : ∀ b, Fr W (fun b => S b ∧ b < w.heap.size) b → Fr w S b := by
    intro b h
    rcases h with h | h
    · exact .inl h.1
    · exact .inr (Nat.le_trans hWw h)
  exact ⟨h1, A, n, c, B, d, rfl, (hr1.keep (by simp [World.setCell]) sm).more fun b _ h => hre b h, (hr2.keep (by simp [World.setCell]) sm).more fun b _ h => hre b h⟩
set_option maxRecDepth 20000 in
set_option maxHeartbeats 2000000 in
theorem refInsert_ok (A : Option Addr) (n c i : Nat) (es : List El) (S : Nat → Prop) (e : El) (w : World) (h : Row w S A n c es) (hn : n ≤ 1073741824) (hi : i ≤ n) (hw : wrongOf es e = 0) :
    Calls Tryz.prog 33 #[.slice A n c, .int .i64 i, .agg #[.int .i64 e.epoch, .int .i64 e.rep, .int .i64 e.num, .int .i32 e.char, .int .i64 e.hides]] w fun r w' => ∃ A' c', r = .returned (.tuple #[.slice A' (n + 1) c', noNone]) ∧ Own w' w.heap.size A' (n + 1) c' (es.take i ++ e :: es.drop i) ∧ Below w.heap.size w w' := by
  obtain ⟨hX, hR, hb⟩ := boxes2 w 32 69 #[.int .i64 e.epoch, .int .i64 e.rep, .int .i64 e.num, .int .i32 e.char, .int .i64 e.hides] #[.int .i64 0, .slice none 0 0, .slice none 0 0]
  have HW := hid (fun W (hb : Below w.heap.size w W) => wrong_any A n c es S e W (h.step hb) hn)
  rw [hw] at HW
  have n1 : ¬ ((i : Int) > n) := by omega
  clear hw
  unfold noNone
  obtain ⟨x0, x1, x2, x3, x4, xl⟩ := hX.five
  go_enter Tryz.func33, Tryz.ntmps33
  repeat' (first | (go_at_call 72; go_must ((with_reducible refine Calls.mono (HW.out _ hb) ?_); rintro _ w2 ⟨rfl, hb2⟩; obtain ⟨x0, x1, x2, x3, x4, xl⟩ := (hX.step hb2).five; dsimp only)) | (with_reducible refine stop_region 6 ?_) | go_values | go_skip | go_guarded | go_step | go_upon | go_back)
  refine Stop.go ?_
  have e1 := Row.one w2 e
  have eZ := balloc (o := .cells #[.int .i64 e.epoch, .int .i64 e.rep, .int .i64 e.num, .int .i32 e.char, .int .i64 e.hides] 32) (Below.refl _ w2)
  have hbZ := bvia (bvia hb hb2) eZ
  have HP := hid (refPut_any A n c i (some ⟨w2.heap.size, 0, none⟩) 1 1 es [e] S (fun _ => True) _ (h.step hbZ) e1 (by omega) hi)
  have hR2 := (hR.step hb2).step eZ
  have hzZ := hbZ.size
  repeat' (first | (go_at_call 80; go_must ((with_reducible refine Calls.mono HP.out ?_); rintro _ w3 ⟨A', c', rfl, ho, hb3⟩; have hR3 := hR2.step hb3; have r0 := hR3.cell 0; have r1 := hR3.cell 1; have r2 := hR3.cell 2; have f0 := hR3.frozen 0; have f1 := hR3.frozen 1; have f2 := hR3.frozen 2; have rl := hR3.lt; simp at r0 r1 r2; dsimp only)) | go_values | go_skip | go_guarded | go_step | go_upon | go_back)
  refine bodyPost_ret (v := .tuple #[.slice A' (n + 1) c', .agg #[.int .i64 0, .slice none 0 0, .slice none 0 0]]) (by simp [results, Tryz.results33, go_sem, r0, r1, r2, rl, size_set]) rfl ⟨A', c', rfl, ?_, ?_⟩
  · have hne : ∀ a, A' = some a → a.block ≠ w.heap.size + 1 := fun a ha => by
      have := (ho.block a ha).1
      have h2 := hR2.lt
      omega
    have h1 := ((ho.keep (S := fun b => b ≠ w.heap.size + 1) (Same.setCell (p := ⟨w.heap.size + 1, 0, none⟩) w3 (fun h => h rfl) (.int .i64 0)) hne).keep (S := fun b => b ≠ w.heap.size + 1) (Same.setCell (p := ⟨w.heap.size + 1, 1, none⟩) _ (fun h => h rfl) (.slice none 0 0)) hne).keep (S := fun b => b ≠ w.heap.size + 1) (Same.setCell (p := ⟨w.heap.size + 1, 2, none⟩) _ (fun h => h rfl) (.slice none 0 0)) hne
    have h2 := h1.mono hzZ
    simpa using h2
  · exact bset (bset (bset (bvia hbZ hb3) (Nat.le_succ _)) (Nat.le_succ _)) (Nat.le_succ _)
set_option maxRecDepth 20000 in
set_option maxHeartbeats 2000000 in
theorem refInsert_no (A : Option Addr) (n c i code : Nat) (es : List El) (S S' : Nat → Prop) (e : El) (w : World) (h : Row w S A n c es) (hn : n ≤ 1073741824) (hi : i ≤ n) (hw : wrongOf es e = code) (h1 : 1 ≤ code) (h2 : code ≤ 13) :
    Calls Tryz.prog 33 #[.slice A n c, .int .i64 i, .agg #[.int .i64 e.epoch, .int .i64 e.rep, .int .i64 e.num, .int .i32 e.char, .int .i64 e.hides]] w fun r w' => ∃ v, r = .returned (.tuple #[.slice A n c, v]) ∧ IsNo w' (Fr w S') [⟨({ data := #[109, 111, 100, 101, 108] } : ByteArray), ({ data := #[73, 110, 115, 101, 114, 116] } : ByteArray), atOf i⟩] code v ∧ Below w.heap.size w w' := by
  obtain ⟨hX, hR, hb⟩ := boxes2 w 32 69 #[.int .i64 e.epoch, .int .i64 e.rep, .int .i64 e.num, .int .i32 e.char, .int .i64 e.hides] #[.int .i64 0, .slice none 0 0, .slice none 0 0]
  have HW := hid (fun W (hb : Below w.heap.size w W) => wrong_any A n c es S e W (h.step hb) hn)
  rw [hw] at HW
  have n1 : ¬ ((i : Int) > n) := by omega
  have n2 : ¬ ((code : Int) = 0) := by omega
  have n3 : ((code : Int) == 0) = false := by simpa using n2
  have HS := hid (fun W => say_any ({ data := #[109, 111, 100, 101, 108] } : ByteArray) ({ data := #[73, 110, 115, 101, 114, 116] } : ByteArray) i code h1 h2 (fun b => S' b ∧ b < w.heap.size) W)
  clear hw
  obtain ⟨x0, x1, x2, x3, x4, xl⟩ := hX.five
  go_enter Tryz.func33, Tryz.ntmps33
  repeat' (first | (go_at_call 72; go_must ((with_reducible refine Calls.mono (HW.out _ hb) ?_); rintro _ w2 ⟨rfl, hb2⟩; obtain ⟨x0, x1, x2, x3, x4, xl⟩ := (hX.step hb2).five; dsimp only)) | (go_at_call 67; go_must ((with_reducible refine Calls.mono (HS.out _) ?_); rintro _ w3 ⟨v, rfl, ⟨g1, B, m, d, C, k, rfl, hr1, hr2⟩, hb3⟩; have hR3 := (hR.step hb2).step hb3; have r0 := hR3.cell 0; have r1 := hR3.cell 1; have r2 := hR3.cell 2; have f0 := hR3.frozen 0; have f1 := hR3.frozen 1; have f2 := hR3.frozen 2; have rl := hR3.lt; simp at r0 r1 r2; dsimp only)) | go_values | go_skip | go_guarded | go_step | go_upon | go_back)
  have hbb := bvia hb hb2
  have hz2 := hbb.size
  have hRl := (hR.step hb2).lt
  refine bodyPost_ret (v := .tuple #[.slice A n c, .agg #[.int .i64 code, .slice B m d, .slice C 1 k]]) (by simp [results, Tryz.results33, go_sem, r0, r1, r2, rl, size_set]) rfl ⟨_, rfl, ?_, ?_⟩
  · exact IsNo.boxed (W := w2) ⟨g1, B, m, d, C, k, rfl, hr1, hr2⟩ (Nat.le_succ _) hRl hz2 _ _ _
  · exact bset (bset (bset (bvia hbb hb3) (Nat.le_succ _)) (Nat.le_succ _)) (Nat.le_succ _)
theorem cellsOf_hides {es : List El} {i : Nat} {e : El} {d : Int} (he : es[i]? = some e) : cellsOf (es.set i (e.hide d)) = (cellsOf es).set (i * 5 + 4) (.int .i64 (e.hides + d)) := by
  have hi := (List.getElem?_eq_some_iff.1 he).1
  have hlen : (cellsOf es).length = es.length * 5 := cellsOf_length es
  refine List.ext_getElem? fun p => ?_
  rw [List.getElem?_set]
  by_cases hp : p < es.length * 5
  · have hq : p = p / 5 * 5 + p % 5 := by omega
    have hr : p % 5 < 5 := by omega
    by_cases hpi : p / 5 = i
    · have hs : (es.set i (e.hide d))[p / 5]? = some (e.hide d) := by rw [hpi, List.getElem?_set_self hi]
      have h1 := cellsOf_at hs hr
      have h2 := cellsOf_at (show es[p / 5]? = some e by rw [hpi]; exact he) hr
      rw [← hq] at h1 h2
      rw [h1]
      by_cases h4 : p % 5 = 4
      · rw [if_pos (by omega), if_pos (by omega), h4]
        rfl
      · rw [if_neg (by omega), h2]
        rcases (show p % 5 = 0 ∨ p % 5 = 1 ∨ p % 5 = 2 ∨ p % 5 = 3 from by omega) with h | h | h | h <;> rw [h] <;> rfl
    · obtain ⟨x, hx⟩ : ∃ x, es[p / 5]? = some x := ⟨es[p / 5]'(by omega), List.getElem?_eq_getElem _⟩
      have h1 := cellsOf_at (show (es.set i (e.hide d))[p / 5]? = some x by rw [List.getElem?_set_ne (Ne.symm hpi)]; exact hx) hr
      have h2 := cellsOf_at hx hr
      rw [← hq] at h1 h2
      rw [h1, if_neg (by omega), h2]
  · rw [List.getElem?_eq_none (by rw [cellsOf_length, List.length_set]; omega), if_neg (by omega), List.getElem?_eq_none (by omega)]
theorem Own.setHides {w : World} {base g n c i : Nat} {es : List El} {e : El} {d : Int} (h : Own w base (some ⟨g, 0, none⟩) n c es) (he : es[i]? = some e) : Own (w.setCell ⟨g, i * 5 + 4, none⟩ (.int .i64 (e.hides + d))) base (some ⟨g, 0, none⟩) n c (es.set i (e.hide d)) := by
  have hc := h.cap_le
  have hi : i < n := by rw [← h.1]; exact (List.getElem?_eq_some_iff.1 he).1
  obtain ⟨g', cur, e1, hbg, hb, hs, hnc, ht⟩ := own_at h (by omega)
  injection e1 with e1
  injection e1 with e1
  subst e1
  have hb' := hb.set_ (i * 5 + 4) (.int .i64 (e.hides + d))
  refine ⟨by simpa using h.1, by rw [cellsOf_length, List.length_set, h.1], .inr ⟨g, c, _, rfl, hbg, hb', hnc, hc.2, by simp [hs], ?_⟩⟩
  rw [cellsOf_hides he, ← ht]
  simp only [Array.toList_setIfInBounds, List.take_set]
set_option maxRecDepth 50000 in
set_option maxHeartbeats 2000000 in
theorem refAdd_ok (A : Option Addr) (n c i : Nat) (es : List El) (S : Nat → Prop) (e : El) (d : Int) (hd : d = 1 ∨ d = -1) (w : World) (h : Row w S A n c es) (hn : n ≤ 1073741824) (he : es[i]? = some e) (hf : fairH (e.hides + d) = true) :
    Calls Tryz.prog 35 #[.slice A n c, .int .i64 i, .int .i64 d] w fun r w' => ∃ A' c', r = .returned (.tuple #[.slice A' n c', noNone]) ∧ Own w' w.heap.size A' n c' (es.set i (e.hide d)) ∧ Below w.heap.size w w' := by
  have hi : i < n := by rw [← h.1]; exact (List.getElem?_eq_some_iff.1 he).1
  have b1 : Below w.heap.size w (w.alloc (.cells #[.int .i64 0, .slice none 0 0, .slice none 0 0] 69)) := balloc (Below.refl _ _)
  have hR := Blk.new w 69 #[.int .i64 0, .slice none 0 0, .slice none 0 0]
  have HC := hid (refCopy_any A n c es S _ (h.step b1) (by omega))
  obtain ⟨b, off, rfl, -, hbl, c0, c1, c2, c3, c4⟩ := h.el he
  have He := hid he
  have n1 : ¬ ((i : Int) ≥ n) := by omega
  have n2 : (i : Int) < n := by omega
  clear he c0 c1 c2 c3 h
  unfold noNone
  rcases hd with rfl | rfl
  · skip
    have HF := hid (fun W => ref5Fair_any (e.hides + 1) W)
    rw [hf] at HF
    have hfb := fairH_bounds hf
    have n3 : -9223372036854775808 ≤ e.hides + 1 := by omega
    have n4 : e.hides + 1 ≤ 9223372036854775807 := by omega
    clear hf
    go_enter Tryz.func35, Tryz.ntmps35
    repeat' (first | (go_at_call 82; go_must ((with_reducible refine Calls.mono (HF.out _) ?_); rintro _ _ ⟨rfl, rfl⟩; dsimp only)) | (go_at_call 83; go_must ((with_reducible refine Calls.mono HC.out ?_); rintro _ w3 ⟨A', c', rfl, ho, hb3⟩; have hR3 := hR.step hb3; have hrow3 := (ho.row (S := fun _ => True) fun _ _ _ => trivial).el He.out; obtain ⟨g, off, hge, -, hgl, d0, d1, d2, d3, d4⟩ := hrow3; obtain ⟨g', cur, hge', hgb, hcur, -, -, -⟩ := own_at ho (by omega); injection hge'.symm.trans hge with hg3; injection hg3 with hg4 hg5; subst hg4 hg5; simp only [Nat.zero_add] at d4; have fg := hcur.frozen (i * 5 + 4); have hgR : g' ≠ w.heap.size := (by have := hR.lt; omega); subst hge; have r0 := hR3.cell 0; have r1 := hR3.cell 1; have r2 := hR3.cell 2; have f0 := hR3.frozen 0; have f1 := hR3.frozen 1; have f2 := hR3.frozen 2; have rl := hR3.lt; simp at r0 r1 r2; dsimp only)) | go_values | go_skip | go_guarded | go_step | go_upon | go_back)
    skip
    refine bodyPost_ret (v := .tuple #[.slice (some ⟨g', 0, none⟩) n c', .agg #[.int .i64 0, .slice none 0 0, .slice none 0 0]]) (by simp [results, Tryz.results35, go_sem, r0, r1, r2, rl, hgR, Ne.symm hgR, size_set]) rfl ⟨some ⟨g', 0, none⟩, c', rfl, ?_, ?_⟩
    · have hne : ∀ a, (some (⟨g', 0, none⟩ : Addr)) = some a → a.block ≠ w.heap.size := fun a ha => by injection ha with ha; rw [← ha]; exact hgR
      have h0 := (ho.setHides (d := 1) He.out)
      have h1 := ((h0.keep (S := fun b => b ≠ w.heap.size) (Same.setCell (p := ⟨w.heap.size, 0, none⟩) _ (fun h => h rfl) (.int .i64 0)) hne).keep (S := fun b => b ≠ w.heap.size) (Same.setCell (p := ⟨w.heap.size, 1, none⟩) _ (fun h => h rfl) (.slice none 0 0)) hne).keep (S := fun b => b ≠ w.heap.size) (Same.setCell (p := ⟨w.heap.size, 2, none⟩) _ (fun h => h rfl) (.slice none 0 0)) hne
      exact h1.mono b1.size
    · refine bset (bset (bset (bset (bvia b1 hb3) ?_) (Nat.le_refl _)) (Nat.le_refl _)) (Nat.le_refl _)
      exact Nat.le_trans b1.size hgb
  · skip
    have HF := hid (fun W => ref5Fair_any (e.hides + (-1)) W)
    rw [hf] at HF
    have hfb := fairH_bounds hf
    have n3 : -9223372036854775808 ≤ e.hides + (-1) := by omega
    have n4 : e.hides + (-1) ≤ 9223372036854775807 := by omega
    clear hf
    go_enter Tryz.func35, Tryz.ntmps35
    repeat' (first | (go_at_call 82; go_must ((with_reducible refine Calls.mono (HF.out _) ?_); rintro _ _ ⟨rfl, rfl⟩; dsimp only)) | (go_at_call 83; go_must ((with_reducible refine Calls.mono HC.out ?_); rintro _ w3 ⟨A', c', rfl, ho, hb3⟩; have hR3 := hR.step hb3; have hrow3 := (ho.row (S := fun _ => True) fun _ _ _ => trivial).el He.out; obtain ⟨g, off, hge, -, hgl, d0, d1, d2, d3, d4⟩ := hrow3; obtain ⟨g', cur, hge', hgb, hcur, -, -, -⟩ := own_at ho (by omega); injection hge'.symm.trans hge with hg3; injection hg3 with hg4 hg5; subst hg4 hg5; simp only [Nat.zero_add] at d4; have fg := hcur.frozen (i * 5 + 4); have hgR : g' ≠ w.heap.size := (by have := hR.lt; omega); subst hge; have r0 := hR3.cell 0; have r1 := hR3.cell 1; have r2 := hR3.cell 2; have f0 := hR3.frozen 0; have f1 := hR3.frozen 1; have f2 := hR3.frozen 2; have rl := hR3.lt; simp at r0 r1 r2; dsimp only)) | go_values | go_skip | go_guarded | go_step | go_upon | go_back)
    skip
    refine bodyPost_ret (v := .tuple #[.slice (some ⟨g', 0, none⟩) n c', .agg #[.int .i64 0, .slice none 0 0, .slice none 0 0]]) (by simp [results, Tryz.results35, go_sem, r0, r1, r2, rl, hgR, Ne.symm hgR, size_set]) rfl ⟨some ⟨g', 0, none⟩, c', rfl, ?_, ?_⟩
    · have hne : ∀ a, (some (⟨g', 0, none⟩ : Addr)) = some a → a.block ≠ w.heap.size := fun a ha => by injection ha with ha; rw [← ha]; exact hgR
      have h0 := (ho.setHides (d := (-1)) He.out)
      have h1 := ((h0.keep (S := fun b => b ≠ w.heap.size) (Same.setCell (p := ⟨w.heap.size, 0, none⟩) _ (fun h => h rfl) (.int .i64 0)) hne).keep (S := fun b => b ≠ w.heap.size) (Same.setCell (p := ⟨w.heap.size, 1, none⟩) _ (fun h => h rfl) (.slice none 0 0)) hne).keep (S := fun b => b ≠ w.heap.size) (Same.setCell (p := ⟨w.heap.size, 2, none⟩) _ (fun h => h rfl) (.slice none 0 0)) hne
      exact h1.mono b1.size
    · refine bset (bset (bset (bset (bvia b1 hb3) ?_) (Nat.le_refl _)) (Nat.le_refl _)) (Nat.le_refl _)
      exact Nat.le_trans b1.size hgb
set_option maxRecDepth 50000 in
set_option maxHeartbeats 2000000 in
theorem refAdd_no (A : Option Addr) (n c i : Nat) (es : List El) (S S' : Nat → Prop) (e : El) (d : Int) (hd : d = 1 ∨ d = -1) (w : World) (h : Row w S A n c es) (hn : n ≤ 1073741824) (he : es[i]? = some e) (hh : -2199023255552 ≤ e.hides ∧ e.hides ≤ 2199023255552) (hf : fairH (e.hides + d) = false) :
    Calls Tryz.prog 35 #[.slice A n c, .int .i64 i, .int .i64 d] w fun r w' => ∃ v, r = .returned (.tuple #[.slice A n c, v]) ∧ IsNo w' (Fr w S') [⟨({ data := #[109, 111, 100, 101, 108] } : ByteArray), ({ data := #[65, 100, 100] } : ByteArray), atOf i⟩] 1 v ∧ Below w.heap.size w w' := by
  have hi : i < n := by rw [← h.1]; exact (List.getElem?_eq_some_iff.1 he).1
  have b1 : Below w.heap.size w (w.alloc (.cells #[.int .i64 0, .slice none 0 0, .slice none 0 0] 69)) := balloc (Below.refl _ _)
  have hR := Blk.new w 69 #[.int .i64 0, .slice none 0 0, .slice none 0 0]
  have HS := hid (fun W => say_any ({ data := #[109, 111, 100, 101, 108] } : ByteArray) ({ data := #[65, 100, 100] } : ByteArray) i 1 (by omega) (by omega) (fun b => S' b ∧ b < w.heap.size) W)
  obtain ⟨b, off, rfl, -, hbl, c0, c1, c2, c3, c4⟩ := h.el he
  have n1 : ¬ ((i : Int) ≥ n) := by omega
  have n2 : (i : Int) < n := by omega
  obtain ⟨hh1, hh2⟩ := hh
  clear he c0 c1 c2 c3 h
  rcases hd with rfl | rfl
  · skip
    have HF := hid (fun W => ref5Fair_any (e.hides + 1) W)
    rw [hf] at HF
    have n3 : -9223372036854775808 ≤ e.hides + 1 := by omega
    have n4 : e.hides + 1 ≤ 9223372036854775807 := by omega
    clear hf
    go_enter Tryz.func35, Tryz.ntmps35
    repeat' (first | (go_at_call 82; go_must ((with_reducible refine Calls.mono (HF.out _) ?_); rintro _ _ ⟨rfl, rfl⟩; dsimp only)) | (go_at_call 67; go_must ((with_reducible refine Calls.mono (HS.out _) ?_); rintro _ w3 ⟨v, rfl, ⟨g1, B, m, d', C, k, rfl, hr1, hr2⟩, hb3⟩; have hR3 := hR.step hb3; have r0 := hR3.cell 0; have r1 := hR3.cell 1; have r2 := hR3.cell 2; have f0 := hR3.frozen 0; have f1 := hR3.frozen 1; have f2 := hR3.frozen 2; have rl := hR3.lt; simp at r0 r1 r2; dsimp only)) | go_values | go_skip | go_guarded | go_step | go_upon | go_back)
    refine bodyPost_ret (v := .tuple #[.slice (some ⟨b, off, none⟩) n c, .agg #[.int .i64 1, .slice B m d', .slice C 1 k]]) (by simp [results, Tryz.results35, go_sem, r0, r1, r2, rl, size_set]) rfl ⟨_, rfl, ?_, ?_⟩
    · exact IsNo.boxed (W := w.alloc (.cells #[.int .i64 0, .slice none 0 0, .slice none 0 0] 69)) ⟨g1, B, m, d', C, k, rfl, hr1, hr2⟩ (Nat.le_refl _) hR.lt b1.size _ _ _
    · exact bset (bset (bset (bvia b1 hb3) (Nat.le_refl _)) (Nat.le_refl _)) (Nat.le_refl _)
  · skip
    have HF := hid (fun W => ref5Fair_any (e.hides + (-1)) W)
    rw [hf] at HF
    have n3 : -9223372036854775808 ≤ e.hides + (-1) := by omega
    have n4 : e.hides + (-1) ≤ 9223372036854775807 := by omega
    clear hf
    go_enter Tryz.func35, Tryz.ntmps35
    repeat' (first | (go_at_call 82; go_must ((with_reducible refine Calls.mono (HF.out _) ?_); rintro _ _ ⟨rfl, rfl⟩; dsimp only)) | (go_at_call 67; go_must ((with_reducible refine Calls.mono (HS.out _) ?_); rintro _ w3 ⟨v, rfl, ⟨g1, B, m, d', C, k, rfl, hr1, hr2⟩, hb3⟩; have hR3 := hR.step hb3; have r0 := hR3.cell 0; have r1 := hR3.cell 1; have r2 := hR3.cell 2; have f0 := hR3.frozen 0; have f1 := hR3.frozen 1; have f2 := hR3.frozen 2; have rl := hR3.lt; simp at r0 r1 r2; dsimp only)) | go_values | go_skip | go_guarded | go_step | go_upon | go_back)
    refine bodyPost_ret (v := .tuple #[.slice (some ⟨b, off, none⟩) n c, .agg #[.int .i64 1, .slice B m d', .slice C 1 k]]) (by simp [results, Tryz.results35, go_sem, r0, r1, r2, rl, size_set]) rfl ⟨_, rfl, ?_, ?_⟩
    · exact IsNo.boxed (W := w.alloc (.cells #[.int .i64 0, .slice none 0 0, .slice none 0 0] 69)) ⟨g1, B, m, d', C, k, rfl, hr1, hr2⟩ (Nat.le_refl _) hR.lt b1.size _ _ _
    · exact bset (bset (bset (bvia b1 hb3) (Nat.le_refl _)) (Nat.le_refl _)) (Nat.le_refl _)
end Go.Proofs.YtfihjajllfihjaaGreatDoor
