/- What a model refuses: the walks. Conditions: the model and the reasons lie in memory, fewer than 2^29 elements. A model made of elements that are not all right: refused; why. Conditions: the row and the reasons lie in memory, names' numbers fit their kind. A refusal of the document, reasons, in a later world. No condition. The document's Right of a character. No condition. -/
import Derived.Test.YtfihjajllfihjaaGreatDoorP21
import Derived.Test.YtfihjajllfihjaaGreatDoorP18
import Derived.Test.YtfihjajllfihjaaGreatDoorSErr4
namespace Go.Proofs.YtfihjajllfihjaaGreatDoor
set_option linter.unusedSimpArgs false
set_option linter.unusedVariables false
open Go Go.RowKit
variable {S : Nat → Prop} {a : Nat → Addr}
/-- one place laid ahead of a refusal -/
theorem new_err (l c : ByteArray) (n : Int) (ch : List Lk) (code : Nat) (e : Value) (w : World) (h : IsErr w S a ch code e) :
    Calls Tryz.prog 70 #[.string l, .string c, .int .i64 n, e] w fun r w' => ∃ v, r = .returned v ∧ IsErr w' (Fr w S) a (⟨l, c, atOf n⟩ :: ch) code v ∧ Below w.heap.size w w' := by
  obtain ⟨t, x, rfl⟩ := h.notNil
  refine (new_any l c n t (some x) w).mono ?_
  rintro _ w' ⟨g, rfl, hg, hb, hbb⟩
  rw [atOf_new] at hb
  exact ⟨_, rfl, ⟨g, _, rfl, .inr hg, hb, (h.step hbb).more fun _ _ h => .inl h⟩, hbb⟩
theorem refused_err (c : ByteArray) (n : Int) (ch : List Lk) (code : Nat) (e : Value) (w : World) (h : IsErr w S a ch code e) :
    Calls Tryz.prog 79 #[.string c, .int .i64 n, e] w fun r w' => ∃ v, r = .returned v ∧ IsErr w' (Fr w S) a (⟨({ data := #[109, 111, 100, 101, 108] } : ByteArray), c, atOf n⟩ :: ch) code v ∧ Below w.heap.size w w' := by
  have HN := hid (new_err ({ data := #[109, 111, 100, 101, 108] } : ByteArray) c n ch code e w h)
  go_enter Tryz.func79, Tryz.ntmps79
  repeat' (first | (go_at_call 70; go_must ((with_reducible refine Calls.mono HN.out ?_); rintro _ w1 ⟨v, rfl, hv, hb⟩; dsimp only)) | go_values | go_skip | go_guarded | go_step | go_upon | go_back)
  go_ret
  exact ⟨v, rfl, hv, hb⟩
set_option maxRecDepth 20000 in
set_option maxHeartbeats 1000000 in
theorem takes_twice (e : El) (w : World) (mb gt gm : Nat) (s : List Nm) (K : Nat) (h1 : Blk w mb 92 #[.pointer (some ⟨gt, 0, none⟩), .map (some gm)]) (h5 : IsIds w gm K s) (hg : e.Good) (hn : e.nm ∈ s) (hs : Sents w S a) :
    Calls Tryz.prog 69 #[.pointer (some ⟨mb, 0, none⟩), .agg #[.int .i64 e.epoch, .int .i64 e.rep, .int .i64 e.num, .int .i32 e.char, .int .i64 e.hides]] w fun r w' => r = .returned (reason (a 9)) ∧ Below w.heap.size w w' := by
  have m1 := h1.cell 1
  simp at m1
  have hml := h1.lt
  have b1 : Below w.heap.size w (w.alloc (.cells #[.int .i64 e.epoch, .int .i64 e.rep, .int .i64 e.num, .int .i32 e.char, .int .i64 e.hides] 32)) := (Below.refl _ _).alloc (Nat.le_refl _) _
  have hI1 := h5.heap (w' := w.alloc (.cells #[.int .i64 e.epoch, .int .i64 e.rep, .int .i64 e.num, .int .i32 e.char, .int .i64 e.hides] 32)) (b1.block _ h5.lt)
  have q1 := hI1.drew.ask e.nm hg.nm
  have q2 := (hI1.heap (w' := ((w.alloc (.cells #[.int .i64 e.epoch, .int .i64 e.rep, .int .i64 e.num, .int .i32 e.char, .int .i64 e.hides] 32)).alloc (.cells #[] 121)).drew) (Below.heap_alloc _ _ _ hI1.lt)).ask e.nm hg.nm
  rw [decide_eq_true hn] at q1 q2
  simp only [Nm.val, El.nm] at q1 q2
  have HR := hid (fun W => right_any e.char W)
  have HH := hid (fun W => hideable_any e.hides W)
  rw [hg.char] at HR
  rw [hg.hides] at HH
  have s9 := hs.cell 9 (by omega) (by omega)
  simp only [gOf, reason] at s9
  have sl := lt_of_cell' s9
  dsimp only at sl
  clear h5 hI1 hn
  go_enter Tryz.func69, Tryz.ntmps69
  repeat' (first | (go_at_call 107; go_must ((with_reducible refine Calls.mono (HR.out _) ?_); rintro _ _ ⟨rfl, rfl⟩; dsimp only)) | (go_at_call 85; go_must ((with_reducible refine Calls.mono (HH.out _) ?_); rintro _ _ ⟨rfl, rfl⟩; dsimp only)) | (with_reducible refine Keep.allocD ?_) | ((with_reducible refine region_at 5 ?_); refine wp_region_ordT (fun _ => True) (.one 0 true false (.one 1 true false (.one 2 true false (.one 3 true false (.one 4 true false (.one 5 true false (.one 6 true false (.two 7 11 (.one 8 true false (.one 9 true false (.one 10 true false (.one 11 false false (.one 12 false true (.one 13 true false .nil)))))) (.one 7 false false (.one 8 true false (.one 9 true false (.one 10 true false (.one 12 false true (.one 13 true false .nil)))))))))))))) (by kernel_rfl) (by kernel_rfl) (by kernel_rfl) rfl rfl ?_) | (with_reducible refine Keep.last ?_) | (with_reducible refine Keep.below (by assumption) ?_) | (with_reducible refine Keep.kept (by assumption) ?_) | (with_reducible refine Keep.alloc ?_) | (with_reducible refine Keep.same ?_) | ((with_reducible refine WpH.here ?_); first | (refine WpH.nil ?_; refine NoP.normal ?_) | (refine WpH.load (by rfl) (by rfl) (by go_simp; rfl) ?_; simp only [Act.put, List.setIfInBounds_toArray, List.set_cons_zero, List.set_cons_succ]) | (refine WpH.loadT (by rfl) (by rfl) (by go_simp; rfl) (by rintro _ _ ⟨⟩; exact ⟨_, _, _, _, _, _, by rfl, by assumption, by assumption⟩) ?_; simp only [Act.put, List.setIfInBounds_toArray, List.set_cons_zero, List.set_cons_succ]) | (refine WpH.pure (by rfl) (fun w_ => by go_simp; (try go_bits); rfl) ?_; simp only [Act.put, List.setIfInBounds_toArray, List.set_cons_zero, List.set_cons_succ]) | (refine WpH.wild1 (by rfl) (fun _ _ => ?_)) | (refine WpH.skip (by rfl) ?_; simp only [Act.put, List.setIfInBounds_toArray, List.set_cons_zero, List.set_cons_succ])) | ((with_reducible refine WpO.here ?_); first | (refine WpO.done ?_; first | refine NoP.normal ?_ | refine NoO.normal ?_) | (refine WpO.load (by rfl) (by rfl) (by go_simp; rfl) ?_; simp only [Act.put, List.setIfInBounds_toArray, List.set_cons_zero, List.set_cons_succ]) | (refine WpO.loadT (by rfl) (by rfl) (by go_simp; rfl) (by rintro _ _ ⟨⟩; exact ⟨_, _, _, _, _, _, by rfl, by assumption, by assumption⟩) ?_; simp only [Act.put, List.setIfInBounds_toArray, List.set_cons_zero, List.set_cons_succ]) | (refine WpO.pure (by rfl) (fun w_ => by go_simp; (try go_bits); rfl) ?_; simp only [Act.put, List.setIfInBounds_toArray, List.set_cons_zero, List.set_cons_succ]) | (refine WpO.skip (by rfl) ?_; simp only [Act.put, List.setIfInBounds_toArray, List.set_cons_zero, List.set_cons_succ]) | refine WpO.wild ?_ | refine WpO.two ?_ ?_ | refine WpO.three ?_ ?_ ?_) | ((with_reducible refine wildO.here ?_); first | (refine wildO.go (by rfl) (fun _ _ => ?_)) | (refine wildO.skip (by rfl) ?_; simp only [Act.put, List.setIfInBounds_toArray, List.set_cons_zero, List.set_cons_succ])) | go_values | go_skip | go_guarded | go_step | go_upon | go_back)
  skip
  all_goals
    go_ret
    exact ⟨rfl, (b1.alloc b1.size _).drew⟩
end Go.Proofs.YtfihjajllfihjaaGreatDoor
namespace Go.Proofs.YtfihjajllfihjaaGreatDoor
set_option linter.unusedSimpArgs false
set_option linter.unusedVariables false
open Go Go.RowKit
variable {S' : Nat → Prop} {a : Nat → Addr}
theorem IsErr.cut {w W w' : World} {ch : List Lk} {code : Nat} {v : Value} (hb : w.heap.size ≤ W.heap.size) (h : IsErr w' (Fr W S') a ch code v) : IsErr w' (Fr w S') a ch code v := h.more fun b _ h => by
  rcases h with h | h
  · exact .inl h
  · exact .inr (Nat.le_trans hb h)
end Go.Proofs.YtfihjajllfihjaaGreatDoor
namespace Go.Proofs.YtfihjajllfihjaaGreatDoor
set_option linter.unusedSimpArgs false
set_option linter.unusedVariables false
open Go Go.RowKit
variable {a : Nat → Addr}
/-- a character that is none -/
theorem takes_text (e : El) (w : World) (mb : Nat) (S' : Nat → Prop) (hr : rightC e.char = false) (hs : Sents w S' a) :
    Calls Tryz.prog 69 #[.pointer (some ⟨mb, 0, none⟩), .agg #[.int .i64 e.epoch, .int .i64 e.rep, .int .i64 e.num, .int .i32 e.char, .int .i64 e.hides]] w fun r w' => r = .returned (reason (a 3)) ∧ Below w.heap.size w w' := by
  have b1 : Below w.heap.size w (w.alloc (.cells #[.int .i64 e.epoch, .int .i64 e.rep, .int .i64 e.num, .int .i32 e.char, .int .i64 e.hides] 32)) := balloc (Below.refl _ _)
  have HR := hid (fun W => right_any e.char W)
  rw [hr] at HR
  have s3 := (hs.step b1).cell 3 (by omega) (by omega)
  simp only [gOf, reason] at s3
  clear hr
  go_enter Tryz.func69, Tryz.ntmps69
  repeat' (first | (go_at_call 107; go_must ((with_reducible refine Calls.mono (HR.out _) ?_); rintro _ _ ⟨rfl, rfl⟩; dsimp only)) | go_values | go_skip | go_guarded | go_step | go_upon | go_back)
  skip
  go_ret
  exact ⟨rfl, b1⟩
/-- hidden too often -/
theorem takes_arg (e : El) (w : World) (mb : Nat) (S' : Nat → Prop) (hr : rightC e.char = true) (hf : fairH e.hides = false) (hs : Sents w S' a) :
    Calls Tryz.prog 69 #[.pointer (some ⟨mb, 0, none⟩), .agg #[.int .i64 e.epoch, .int .i64 e.rep, .int .i64 e.num, .int .i32 e.char, .int .i64 e.hides]] w fun r w' => r = .returned (reason (a 1)) ∧ Below w.heap.size w w' := by
  have b1 : Below w.heap.size w (w.alloc (.cells #[.int .i64 e.epoch, .int .i64 e.rep, .int .i64 e.num, .int .i32 e.char, .int .i64 e.hides] 32)) := balloc (Below.refl _ _)
  have HR := hid (fun W => right_any e.char W)
  have HH := hid (fun W => hideable_any e.hides W)
  rw [hr] at HR
  rw [hf] at HH
  have s1 := (hs.step b1).cell 1 (by omega) (by omega)
  simp only [gOf, reason] at s1
  clear hr hf
  go_enter Tryz.func69, Tryz.ntmps69
  repeat' (first | (go_at_call 107; go_must ((with_reducible refine Calls.mono (HR.out _) ?_); rintro _ _ ⟨rfl, rfl⟩; dsimp only)) | (go_at_call 85; go_must ((with_reducible refine Calls.mono (HH.out _) ?_); rintro _ _ ⟨rfl, rfl⟩; dsimp only)) | go_values | go_skip | go_guarded | go_step | go_upon | go_back)
  skip
  go_ret
  exact ⟨rfl, b1⟩
/-- why an element can't come in among names; 0: it can -/
def wrongS (s : List Nm) (e : El) : Nat := if rightC e.char = false then 3 else if fairH e.hides = false then 1 else if e.nm ∈ s then 9 else 0
theorem wrongS_cases (s : List Nm) (e : El) : (wrongS s e = 3 ∧ rightC e.char = false) ∨ (wrongS s e = 1 ∧ rightC e.char = true ∧ fairH e.hides = false) ∨ (wrongS s e = 9 ∧ rightC e.char = true ∧ fairH e.hides = true ∧ e.nm ∈ s) ∨ (wrongS s e = 0 ∧ rightC e.char = true ∧ fairH e.hides = true ∧ e.nm ∉ s) := by
  unfold wrongS
  cases h1 : rightC e.char
  · exact .inl ⟨if_pos rfl, rfl⟩
  · right
    rw [if_neg (by simp)]
    cases h2 : fairH e.hides
    · exact .inl ⟨if_pos rfl, rfl, rfl⟩
    · right
      rw [if_neg (by simp)]
      by_cases h3 : e.nm ∈ s
      · exact .inl ⟨if_pos h3, rfl, rfl, h3⟩
      · exact .inr ⟨if_neg h3, rfl, rfl, h3⟩
theorem takes_no (e : El) (w : World) (mb gt gm : Nat) (s : List Nm) (K code : Nat) (S' : Nat → Prop) (h1 : Blk w mb 92 #[.pointer (some ⟨gt, 0, none⟩), .map (some gm)]) (h5 : IsIds w gm K s) (hin : e.nm.In) (hw : wrongS s e = code) (h0 : code ≠ 0) (hs : Sents w S' a) :
    Calls Tryz.prog 69 #[.pointer (some ⟨mb, 0, none⟩), .agg #[.int .i64 e.epoch, .int .i64 e.rep, .int .i64 e.num, .int .i32 e.char, .int .i64 e.hides]] w fun r w' => r = .returned (reason (a code)) ∧ Below w.heap.size w w' := by
  subst hw
  rcases wrongS_cases s e with ⟨h, h2⟩ | ⟨h, h2, h3⟩ | ⟨h, h2, h3, h4⟩ | ⟨h, _⟩
  · rw [h]; exact takes_text e w mb S' h2 hs
  · rw [h]; exact takes_arg e w mb S' h2 h3 hs
  · rw [h]; exact takes_twice e w mb gt gm s K h1 h5 ⟨h2, h3, hin⟩ h4 hs
  · exact absurd h h0
set_option maxRecDepth 50000 in
set_option maxHeartbeats 2000000 in
/-- elements of which the j-th is the first that can't come in -/
theorem mof_no (w : World) (A : Option Addr) (n c j code : Nat) (ls : List El) (ej : El) (SB S' : Nat → Prop) (hr : Row w SB A n c ls) (hn : n ≤ 1048576) (hg : ∀ e ∈ ls.take j, e.Good) (hd : ((ls.take j).map El.nm).Nodup) (hj : ls[j]? = some ej) (hin : ej.nm.In) (hw : wrongS ((ls.take j).map El.nm) ej = code) (h0 : code ≠ 0) (h13 : code ≤ 13) (hs : Sents w S' a) :
    Calls Tryz.prog 27 #[.slice A n c] w fun r w' => ∃ v, r = .returned (.tuple #[.pointer none, v]) ∧ IsErr w' (Fr w S') a [⟨({ data := #[109, 111, 100, 101, 108] } : ByteArray), ({ data := #[79, 102] } : ByteArray), atOf j⟩] code v ∧ Below w.heap.size w w' := by
  have HN := hid (mnew_any w)
  have Hr := hid hr
  have Hg := hid hg
  have Hd := hid hd
  have Hj := hid (And.intro hj (And.intro hin (And.intro hw hs)))
  have hnc := hr.2.1
  have hjl : j < n := by rw [← hr.1]; exact (List.getElem?_eq_some_iff.1 hj).1
  have HE := hid (fun W => new_err (S := S') (a := a) ({ data := #[109, 111, 100, 101, 108] } : ByteArray) ({ data := #[79, 102] } : ByteArray) j [] code (reason (a code)) W ⟨by omega, h13, rfl⟩)
  clear hr hg hd hj hin hw hs
  go_enter Tryz.func27, Tryz.ntmps27
  repeat' (first | (go_at_call 14; go_must ((with_reducible refine Calls.mono HN.out ?_); rintro _ w1 ⟨mb, rfl, hM, hb1⟩; dsimp only)) | go_values | go_skip | go_guarded | go_step | go_upon | go_back)
  obtain ⟨gt, gm, p, T, h1, h2, h3, h4, h5, h6, h7, h8, h9⟩ := hM
  obtain ⟨rfl, rfl⟩ := h3.empty h4
  clear h4 h9 h3 h2 h7
  go_loopw [11] (fun i wr => ∃ k : Nat, i = .int .i64 k ∧ k ≤ j ∧ Blk wr mb 92 #[.pointer (some ⟨gt, 0, none⟩), .map (some gm)] ∧ IsIds wr gm k ((ls.take k).map El.nm) ∧ Below w.heap.size w wr) (fun i _ => n - (intOf i).toNat)
  case atStart => exact ⟨0, rfl, Nat.zero_le _, h1, by simpa using h5, hb1⟩
  case round =>
    obtain ⟨k, rfl, hk, g1, g5, hbr⟩ := hrel
    have hkn : k < n := by omega
    obtain ⟨b, off, e, rfl, hS, he, c0, c1, c2, c3, c4⟩ := (Hr.out.step hbr).at_ hkn
    have hbl := lt_of_cell' c0
    have eb : Below wr.heap.size wr (wr.alloc (.cells #[.int .i64 e.epoch, .int .i64 e.rep, .int .i64 e.num, .int .i32 e.char, .int .i64 e.hides] 32)) := (Below.refl _ _).alloc (Nat.le_refl _) _
    have g1b := g1.step eb
    have g5b := g5.heap (eb.block _ g5.lt)
    have heb := Blk.new wr 32 #[.int .i64 e.epoch, .int .i64 e.rep, .int .i64 e.num, .int .i32 e.char, .int .i64 e.hides]
    by_cases hlt : k < j
    · have heg := Hg.out e (List.mem_of_getElem? (by rw [List.getElem?_take, if_pos hlt]; exact he))
      have hnot : e.nm ∉ (ls.take k).map El.nm := by
        intro hm
        have hd := Hd.out
        have htk := take_snoc_el he
        have h1 : ((ls.take (k + 1)).map El.nm).Nodup := by
          have h2 : ls.take (k + 1) = (ls.take j).take (k + 1) := by rw [List.take_take, Nat.min_eq_left hlt]
          rw [h2, List.map_take]
          exact hd.sublist (List.take_sublist _ _)
        rw [htk, List.map_append, List.nodup_append] at h1
        exact h1.2.2 _ hm _ (by simp) rfl
      have HT := hid (takes_ok e _ mb gt gm _ k g1b g5b heg hnot)
      have He := hid (And.intro he heg)
      have Hkeep := hid (And.intro g1b (And.intro g5b heb))
      clear he heg hnot g1 g5 g1b g5b heb
      repeat' (first | (go_at_call 69; go_must ((with_reducible refine Calls.mono HT.out ?_); rintro _ w3 ⟨rfl, hb3⟩; have k1 := Hkeep.out.1.step hb3; have ke := Hkeep.out.2.2.step hb3; obtain ⟨w4, hrun, hI4, hT4⟩ := ((Hkeep.out.2.1.heap (hb3.block _ Hkeep.out.2.1.lt)).drew).put e.nm He.out.2.nm (by omega); have m1 := k1.cell 1; have x0 := ke.cell 0; have x1 := ke.cell 1; have x2 := ke.cell 2; simp at m1 x0 x1 x2; simp only [Nm.val, El.nm] at hrun; have HI4 := hid (And.intro hI4 hT4); clear hI4 hT4; dsimp only)) | ((with_reducible refine region_at 8 ?_); refine wp_region_order [(0, true, false), (1, true, false), (2, true, false), (3, true, false), (4, true, false), (5, true, false), (6, true, false), (7, true, false), (8, false, true)] (by kernel_rfl) (by kernel_rfl) (by kernel_rfl) rfl rfl ?_) | (with_reducible refine Keep.last ?_) | (with_reducible refine Keep.below (by assumption) ?_) | (with_reducible refine Keep.kept (by assumption) ?_) | (with_reducible refine Keep.alloc ?_) | (with_reducible refine Keep.same ?_) | ((with_reducible refine WpH.here ?_); first | (refine WpH.nil ?_; refine NoP.normal ?_) | (refine WpH.load (by rfl) (by rfl) (by go_simp; rfl) ?_; simp only [Act.put, List.setIfInBounds_toArray, List.set_cons_zero, List.set_cons_succ]) | (refine WpH.loadT (by rfl) (by rfl) (by go_simp; rfl) (by rintro _ _ ⟨⟩; exact ⟨_, _, _, _, _, _, by rfl, by assumption, by assumption⟩) ?_; simp only [Act.put, List.setIfInBounds_toArray, List.set_cons_zero, List.set_cons_succ]) | (refine WpH.pure (by rfl) (fun w_ => by go_simp; (try go_bits); rfl) ?_; simp only [Act.put, List.setIfInBounds_toArray, List.set_cons_zero, List.set_cons_succ]) | (refine WpH.wild1 (by rfl) (fun _ _ => ?_)) | (refine WpH.skip (by rfl) ?_; simp only [Act.put, List.setIfInBounds_toArray, List.set_cons_zero, List.set_cons_succ])) | go_values | go_skip | go_guarded | go_step | go_upon | go_back)
      go_roundw
      case rel =>
        have b3 := eb.trans (hb3.mono eb.size)
        have B3 := hbr.trans (b3.mono hbr.size)
        have hbut := But.of_turned HI4.out.2
        have n1 := HI4.out.1
        have e1 := Hkeep.out.2.1.ne_blk Hkeep.out.1
        refine ⟨k + 1, by go_num, by omega, hbut.blk k1.drew e1, HI4.out.1.eq fun i => ?_, hbut.below_new (w1 := w3.drew) B3.drew h8⟩
        rw [take_snoc_el He.out.1]
        simp [or_comm]
      case measure => simp [intOf]; omega
    · obtain rfl : k = j := by omega
      obtain rfl := Option.some.inj (he.symm.trans Hj.out.1)
      have HT := hid (takes_no e _ mb gt gm _ k code S' g1b g5b Hj.out.2.1 Hj.out.2.2.1 h0 (Hj.out.2.2.2.step (bvia hbr eb)))
      unfold reason at HT
      clear he g1 g5 g1b g5b heb
      repeat' (first | (go_at_call 69; go_must ((with_reducible refine Calls.mono HT.out ?_); rintro _ w3 ⟨rfl, hb3⟩; dsimp only)) | (go_at_call 70; go_must ((with_reducible refine Calls.mono (HE.out _) ?_); rintro _ w4 ⟨v, rfl, hv, hb4⟩; dsimp only)) | (with_reducible refine Keep.last ?_) | (with_reducible refine Keep.below (by assumption) ?_) | (with_reducible refine Keep.kept (by assumption) ?_) | (with_reducible refine Keep.alloc ?_) | (with_reducible refine Keep.same ?_) | ((with_reducible refine WpH.here ?_); first | (refine WpH.nil ?_; refine NoP.normal ?_) | (refine WpH.load (by rfl) (by rfl) (by go_simp; rfl) ?_; simp only [Act.put, List.setIfInBounds_toArray, List.set_cons_zero, List.set_cons_succ]) | (refine WpH.loadT (by rfl) (by rfl) (by go_simp; rfl) (by rintro _ _ ⟨⟩; exact ⟨_, _, _, _, _, _, by rfl, by assumption, by assumption⟩) ?_; simp only [Act.put, List.setIfInBounds_toArray, List.set_cons_zero, List.set_cons_succ]) | (refine WpH.pure (by rfl) (fun w_ => by go_simp; (try go_bits); rfl) ?_; simp only [Act.put, List.setIfInBounds_toArray, List.set_cons_zero, List.set_cons_succ]) | (refine WpH.wild1 (by rfl) (fun _ _ => ?_)) | (refine WpH.skip (by rfl) ?_; simp only [Act.put, List.setIfInBounds_toArray, List.set_cons_zero, List.set_cons_succ])) | go_values | go_skip | go_guarded | go_step | go_upon | go_back)
      skip
      go_ret2
      have hbb := bvia (bvia hbr eb) hb3
      exact ⟨v, rfl, hv.cut hbb.size, bvia hbb hb4⟩
end Go.Proofs.YtfihjajllfihjaaGreatDoor
namespace Go.Proofs.YtfihjajllfihjaaGreatDoor
set_option linter.unusedSimpArgs false
set_option linter.unusedVariables false
open Go Go.RowKit
variable {a : Nat → Addr}
theorem IsNo.re {w w' : World} {S S' : Nat → Prop} {ch : List Lk} {code : Nat} {v : Value} (h : IsNo w S ch code v) (hz : w.heap.size ≤ w'.heap.size) (hs : Same S w w') (hS : ∀ b, S b → S' b) : IsNo w' S' ch code v := by
  obtain ⟨h1, A, n, c, B, d, rfl, hr1, hr2⟩ := h
  exact ⟨h1, A, n, c, B, d, rfl, (hr1.keep hz hs).more fun b _ h => hS b h, (hr2.keep hz hs).more fun b _ h => hS b h⟩
theorem Sents.wide {w : World} {S : Nat → Prop} (h : Sents w S a) : Sents w (fun _ => True) a := ⟨h.cell, fun _ _ _ => trivial, fun _ _ _ => trivial, h.inj, h.plain⟩
theorem Sents.narrow {w : World} {S : Nat → Prop} (h : Sents w S a) : Sents w (fun b => b < w.heap.size) a := ⟨h.cell, fun k h1 h2 => lt_of_cell' (h.cell k h1 h2), fun k h1 h2 => (h.plain k h1 h2).elim fun _ h => h.elim fun _ h => lt_of_heap' h, h.inj, h.plain⟩
end Go.Proofs.YtfihjajllfihjaaGreatDoor
namespace Go.Proofs.YtfihjajllfihjaaGreatDoor
set_option linter.unusedSimpArgs false
set_option linter.unusedVariables false
open Go Go.RowKit
set_option maxHeartbeats 1000000 in
theorem ref5Right_any (c : Int) (w : World) : Calls Tryz.prog 57 #[.int .i32 c] w fun e w' => e = .returned (.bool (rightC c)) ∧ w = w' := by
  go_enter Tryz.func57, Tryz.ntmps57
  repeat' (first | go_values | go_skip | go_guarded | go_step | go_upon | go_back)
  all_goals
    go_ret
    refine ⟨congrArg (fun x => Ending.returned (.bool x)) ?_, rfl⟩
    try simp only [beq_iff_eq, beq_eq_false_iff_ne, ne_eq] at *
    unfold rightC
    first
      | (simp_all; done)
      | (simp_all; omega)
      | (rw [Bool.eq_iff_iff]; simp_all; done)
      | (rw [Bool.eq_iff_iff]; simp_all; omega)
      | (go_goals; fail)
end Go.Proofs.YtfihjajllfihjaaGreatDoor
