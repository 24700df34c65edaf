/- What a model refuses: the walks. Conditions: the model and the reasons lie in memory, fewer than 2^29 elements. -/
import Derived.Test.YtfihjajllfihjaaDoorModel3
import Derived.Test.YtfihjajllfihjaaDoorBel
import Derived.Test.YtfihjajllfihjaaDoorRef5
namespace Go.Proofs.YtfihjajllfihjaaDoor
set_option linter.unusedSimpArgs false
set_option linter.unusedVariables false
open Go Go.RowKit
variable {S : Nat → Prop} {a : Nat → Addr}
/-- one place laid ahead of a refusal -/
theorem new_err (l c : ByteArray) (n : Int) (ch : List Lk) (code : Nat) (e : Value) (w : World) (h : IsErr w S a ch code e) :
    Calls Tryd.prog 87 #[.string l, .string c, .int .i64 n, e] w fun r w' => ∃ v, r = .returned v ∧ IsErr w' (Fr w S) a (⟨l, c, atOf n⟩ :: ch) code v ∧ Below w.heap.size w w' := by
  obtain ⟨t, x, rfl⟩ := h.notNil
  refine (new_any l c n t (some x) w).mono ?_
  rintro _ w' ⟨g, rfl, hg, hb, hbb⟩
  rw [atOf_new] at hb
  exact ⟨_, rfl, ⟨g, _, rfl, .inr hg, hb, (h.step hbb).more fun _ _ h => .inl h⟩, hbb⟩
theorem refused_err (c : ByteArray) (n : Int) (ch : List Lk) (code : Nat) (e : Value) (w : World) (h : IsErr w S a ch code e) :
    Calls Tryd.prog 83 #[.string c, .int .i64 n, e] w fun r w' => ∃ v, r = .returned v ∧ IsErr w' (Fr w S) a (⟨({ data := #[109, 111, 100, 101, 108] } : ByteArray), c, atOf n⟩ :: ch) code v ∧ Below w.heap.size w w' := by
  have HN := hid (new_err ({ data := #[109, 111, 100, 101, 108] } : ByteArray) c n ch code e w h)
  go_enter Tryd.func83, Tryd.ntmps83
  repeat' (first | (go_at_call 87; go_must ((with_reducible refine Calls.mono HN.out ?_); rintro _ w1 ⟨v, rfl, hv, hb⟩; dsimp only)) | (with_reducible refine Keep.last ?_) | (with_reducible refine Keep.below (by assumption) ?_) | (with_reducible refine Keep.kept (by assumption) ?_) | (with_reducible refine Keep.alloc ?_) | (with_reducible refine Keep.same ?_) | ((with_reducible refine WpH.here ?_); first | (refine WpH.nil ?_; refine NoP.normal ?_) | (refine WpH.load (by rfl) (by rfl) (by go_simp; rfl) ?_; simp only [Act.put, List.setIfInBounds_toArray, List.set_cons_zero, List.set_cons_succ]) | (refine WpH.loadT (by rfl) (by rfl) (by go_simp; rfl) (by rintro _ _ ⟨⟩; exact ⟨_, _, _, _, _, _, by rfl, by assumption, by assumption⟩) ?_; simp only [Act.put, List.setIfInBounds_toArray, List.set_cons_zero, List.set_cons_succ]) | (refine WpH.pure (by rfl) (fun w_ => by go_simp; (try go_bits); rfl) ?_; simp only [Act.put, List.setIfInBounds_toArray, List.set_cons_zero, List.set_cons_succ]) | (refine WpH.wild1 (by rfl) (fun _ _ => ?_)) | (refine WpH.skip (by rfl) ?_; simp only [Act.put, List.setIfInBounds_toArray, List.set_cons_zero, List.set_cons_succ])) | ((with_reducible refine WpO.here ?_); first | (refine WpO.done ?_; first | refine NoP.normal ?_ | refine NoO.normal ?_) | (refine WpO.load (by rfl) (by rfl) (by go_simp; rfl) ?_; simp only [Act.put, List.setIfInBounds_toArray, List.set_cons_zero, List.set_cons_succ]) | (refine WpO.loadT (by rfl) (by rfl) (by go_simp; rfl) (by rintro _ _ ⟨⟩; exact ⟨_, _, _, _, _, _, by rfl, by assumption, by assumption⟩) ?_; simp only [Act.put, List.setIfInBounds_toArray, List.set_cons_zero, List.set_cons_succ]) | (refine WpO.pure (by rfl) (fun w_ => by go_simp; (try go_bits); rfl) ?_; simp only [Act.put, List.setIfInBounds_toArray, List.set_cons_zero, List.set_cons_succ]) | (refine WpO.skip (by rfl) ?_; simp only [Act.put, List.setIfInBounds_toArray, List.set_cons_zero, List.set_cons_succ]) | refine WpO.wild ?_ | refine WpO.two ?_ ?_ | refine WpO.three ?_ ?_ ?_) | ((with_reducible refine wildO.here ?_); first | (refine wildO.go (by rfl) (fun _ _ => ?_)) | (refine wildO.skip (by rfl) ?_; simp only [Act.put, List.setIfInBounds_toArray, List.set_cons_zero, List.set_cons_succ])) | go_values | go_skip | go_guarded | go_step | go_upon | go_back)
  go_ret
  exact ⟨v, rfl, hv, hb⟩
set_option maxRecDepth 20000 in
set_option maxHeartbeats 1000000 in
theorem takes_twice (e : El) (w : World) (mb gt gm : Nat) (s : List Nm) (K : Nat) (h1 : Blk w mb 138 #[.pointer (some ⟨gt, 0, none⟩), .map (some gm)]) (h5 : IsIds w gm K s) (hg : e.Good) (hn : e.nm ∈ s) (hs : Sents w S a) :
    Calls Tryd.prog 91 #[.pointer (some ⟨mb, 0, none⟩), .agg #[.int .i64 e.epoch, .int .i64 e.rep, .int .i64 e.num, .int .i32 e.char, .int .i64 e.hides]] w fun r w' => r = .returned (reason (a 9)) ∧ Below w.heap.size w w' := by
  have m1 := h1.cell 1
  simp at m1
  have hml := h1.lt
  have b1 : Below w.heap.size w (w.alloc (.cells #[.int .i64 e.epoch, .int .i64 e.rep, .int .i64 e.num, .int .i32 e.char, .int .i64 e.hides] 42)) := (Below.refl _ _).alloc (Nat.le_refl _) _
  have hI1 := h5.heap (w' := w.alloc (.cells #[.int .i64 e.epoch, .int .i64 e.rep, .int .i64 e.num, .int .i32 e.char, .int .i64 e.hides] 42)) (b1.block _ h5.lt)
  have q1 := hI1.drew.ask e.nm hg.nm
  have q2 := (hI1.heap (w' := ((w.alloc (.cells #[.int .i64 e.epoch, .int .i64 e.rep, .int .i64 e.num, .int .i32 e.char, .int .i64 e.hides] 42)).alloc (.cells #[] 153)).drew) (Below.heap_alloc _ _ _ hI1.lt)).ask e.nm hg.nm
  rw [decide_eq_true hn] at q1 q2
  simp only [Nm.val, El.nm] at q1 q2
  have HR := hid (fun W => right_any e.char W)
  have HH := hid (fun W => hideable_any e.hides W)
  rw [hg.char] at HR
  rw [hg.hides] at HH
  have s9 := hs.cell 9 (by omega) (by omega)
  simp only [gOf, reason] at s9
  have sl := lt_of_cell' s9
  dsimp only at sl
  clear h5 hI1 hn
  go_enter Tryd.func91, Tryd.ntmps91
  repeat' (first | (go_at_call 136; go_must ((with_reducible refine Calls.mono (HR.out _) ?_); rintro _ _ ⟨rfl, rfl⟩; dsimp only)) | (go_at_call 93; go_must ((with_reducible refine Calls.mono (HH.out _) ?_); rintro _ _ ⟨rfl, rfl⟩; dsimp only)) | (with_reducible refine Keep.allocD ?_) | ((with_reducible refine region_at 5 ?_); refine wp_region_ordT (fun _ => True) (.one 0 true false (.one 1 true false (.one 2 true false (.one 3 true false (.one 4 true false (.one 5 true false (.one 6 true false (.two 7 11 (.one 8 true false (.one 9 true false (.one 10 true false (.one 11 false false (.one 12 false true (.one 13 true false .nil)))))) (.one 7 false false (.one 8 true false (.one 9 true false (.one 10 true false (.one 12 false true (.one 13 true false .nil)))))))))))))) (by kernel_rfl) (by kernel_rfl) (by kernel_rfl) rfl rfl ?_) | (with_reducible refine Keep.last ?_) | (with_reducible refine Keep.below (by assumption) ?_) | (with_reducible refine Keep.kept (by assumption) ?_) | (with_reducible refine Keep.alloc ?_) | (with_reducible refine Keep.same ?_) | ((with_reducible refine WpH.here ?_); first | (refine WpH.nil ?_; refine NoP.normal ?_) | (refine WpH.load (by rfl) (by rfl) (by go_simp; rfl) ?_; simp only [Act.put, List.setIfInBounds_toArray, List.set_cons_zero, List.set_cons_succ]) | (refine WpH.loadT (by rfl) (by rfl) (by go_simp; rfl) (by rintro _ _ ⟨⟩; exact ⟨_, _, _, _, _, _, by rfl, by assumption, by assumption⟩) ?_; simp only [Act.put, List.setIfInBounds_toArray, List.set_cons_zero, List.set_cons_succ]) | (refine WpH.pure (by rfl) (fun w_ => by go_simp; (try go_bits); rfl) ?_; simp only [Act.put, List.setIfInBounds_toArray, List.set_cons_zero, List.set_cons_succ]) | (refine WpH.wild1 (by rfl) (fun _ _ => ?_)) | (refine WpH.skip (by rfl) ?_; simp only [Act.put, List.setIfInBounds_toArray, List.set_cons_zero, List.set_cons_succ])) | ((with_reducible refine WpO.here ?_); first | (refine WpO.done ?_; first | refine NoP.normal ?_ | refine NoO.normal ?_) | (refine WpO.load (by rfl) (by rfl) (by go_simp; rfl) ?_; simp only [Act.put, List.setIfInBounds_toArray, List.set_cons_zero, List.set_cons_succ]) | (refine WpO.loadT (by rfl) (by rfl) (by go_simp; rfl) (by rintro _ _ ⟨⟩; exact ⟨_, _, _, _, _, _, by rfl, by assumption, by assumption⟩) ?_; simp only [Act.put, List.setIfInBounds_toArray, List.set_cons_zero, List.set_cons_succ]) | (refine WpO.pure (by rfl) (fun w_ => by go_simp; (try go_bits); rfl) ?_; simp only [Act.put, List.setIfInBounds_toArray, List.set_cons_zero, List.set_cons_succ]) | (refine WpO.skip (by rfl) ?_; simp only [Act.put, List.setIfInBounds_toArray, List.set_cons_zero, List.set_cons_succ]) | refine WpO.wild ?_ | refine WpO.two ?_ ?_ | refine WpO.three ?_ ?_ ?_) | ((with_reducible refine wildO.here ?_); first | (refine wildO.go (by rfl) (fun _ _ => ?_)) | (refine wildO.skip (by rfl) ?_; simp only [Act.put, List.setIfInBounds_toArray, List.set_cons_zero, List.set_cons_succ])) | go_values | go_skip | go_guarded | go_step | go_upon | go_back)
  skip
  all_goals
    go_ret
    exact ⟨rfl, (b1.alloc b1.size _).drew⟩
end Go.Proofs.YtfihjajllfihjaaDoor
namespace Go.Proofs.YtfihjajllfihjaaDoor
set_option linter.unusedSimpArgs false
set_option linter.unusedVariables false
open Go Go.RowKit
variable {S' : Nat → Prop} {a : Nat → Addr}
theorem IsErr.cut {w W w' : World} {ch : List Lk} {code : Nat} {v : Value} (hb : w.heap.size ≤ W.heap.size) (h : IsErr w' (Fr W S') a ch code v) : IsErr w' (Fr w S') a ch code v := h.more fun b _ h => by
  rcases h with h | h
  · exact .inl h
  · exact .inr (Nat.le_trans hb h)
set_option maxRecDepth 50000 in
set_option maxHeartbeats 4000000 in
/-- an element laid in whose name is there -/
theorem minsert_twice (w : World) (S : Nat → Prop) (mb : Nat) (l : List El) (K i : Nat) (e : El) (h : Mdl w S mb l K) (hl : l.length ≤ 536870912) (hi : i ≤ l.length) (hg : e.Good) (hn : e.nm ∈ l.map El.nm) (hs : Sents w S' a) :
    Calls Tryd.prog 38 #[.pointer (some ⟨mb, 0, none⟩), .int .i64 i, .agg #[.int .i64 e.epoch, .int .i64 e.rep, .int .i64 e.num, .int .i32 e.char, .int .i64 e.hides]] w fun r w' => ∃ v, r = .returned v ∧ IsErr w' (Fr w S') a [⟨({ data := #[109, 111, 100, 101, 108] } : ByteArray), ({ data := #[73, 110, 115, 101, 114, 116] } : ByteArray), atOf i⟩] 9 v ∧ Below w.heap.size w w' := by
  have b1 : Below w.heap.size w (w.alloc (.cells #[.int .i64 e.epoch, .int .i64 e.rep, .int .i64 e.num, .int .i32 e.char, .int .i64 e.hides] 42)) := balloc (Below.refl _ _)
  have hx1 := Blk.new w 42 #[.int .i64 e.epoch, .int .i64 e.rep, .int .i64 e.num, .int .i32 e.char, .int .i64 e.hides]
  have HL := hid (mlen_any _ S mb l K (h.step b1))
  have HW := hid (fun W => within_ok i l.length W (by omega) (by omega))
  obtain ⟨gt, gm, p, T, h1, h2, h3, rfl, h5, h6, h7, h8, h9⟩ := h
  have HT := hid (takes_twice e _ mb gt gm _ K (h1.step b1) (h5.heap (b1.block _ h5.lt)) hg hn (hs.step b1))
  have HE := hid (fun W => refused_err (S := S') (a := a) ({ data := #[73, 110, 115, 101, 114, 116] } : ByteArray) i [] 9 (reason (a 9)) W ⟨by omega, by omega, rfl⟩)
  clear h1 h2 h3 h5 h9 hn
  obtain ⟨x0, x1, x2, x3, x4, xl⟩ := hx1.five
  go_enter Tryd.func38, Tryd.ntmps38
  repeat' (first | (go_at_call 20; go_must ((with_reducible refine Calls.mono HL.out ?_); rintro _ _ ⟨rfl, rfl⟩; dsimp only)) | (go_at_call 86; go_must ((with_reducible refine Calls.mono (HW.out _) ?_); rintro _ _ ⟨rfl, rfl⟩; dsimp only)) | (go_at_call 91; go_must ((with_reducible refine Calls.mono HT.out ?_); rintro _ w3 ⟨rfl, hb3⟩; unfold reason; dsimp only)) | (go_at_call 83; go_must ((with_reducible refine Calls.mono (HE.out _) ?_); rintro _ w4 ⟨v, rfl, hv, hb4⟩; dsimp only)) | (with_reducible refine Keep.last ?_) | (with_reducible refine Keep.below (by assumption) ?_) | (with_reducible refine Keep.kept (by assumption) ?_) | (with_reducible refine Keep.alloc ?_) | (with_reducible refine Keep.same ?_) | ((with_reducible refine WpH.here ?_); first | (refine WpH.nil ?_; refine NoP.normal ?_) | (refine WpH.load (by rfl) (by rfl) (by go_simp; rfl) ?_; simp only [Act.put, List.setIfInBounds_toArray, List.set_cons_zero, List.set_cons_succ]) | (refine WpH.loadT (by rfl) (by rfl) (by go_simp; rfl) (by rintro _ _ ⟨⟩; exact ⟨_, _, _, _, _, _, by rfl, by assumption, by assumption⟩) ?_; simp only [Act.put, List.setIfInBounds_toArray, List.set_cons_zero, List.set_cons_succ]) | (refine WpH.pure (by rfl) (fun w_ => by go_simp; (try go_bits); rfl) ?_; simp only [Act.put, List.setIfInBounds_toArray, List.set_cons_zero, List.set_cons_succ]) | (refine WpH.wild1 (by rfl) (fun _ _ => ?_)) | (refine WpH.skip (by rfl) ?_; simp only [Act.put, List.setIfInBounds_toArray, List.set_cons_zero, List.set_cons_succ])) | ((with_reducible refine WpO.here ?_); first | (refine WpO.done ?_; first | refine NoP.normal ?_ | refine NoO.normal ?_) | (refine WpO.load (by rfl) (by rfl) (by go_simp; rfl) ?_; simp only [Act.put, List.setIfInBounds_toArray, List.set_cons_zero, List.set_cons_succ]) | (refine WpO.loadT (by rfl) (by rfl) (by go_simp; rfl) (by rintro _ _ ⟨⟩; exact ⟨_, _, _, _, _, _, by rfl, by assumption, by assumption⟩) ?_; simp only [Act.put, List.setIfInBounds_toArray, List.set_cons_zero, List.set_cons_succ]) | (refine WpO.pure (by rfl) (fun w_ => by go_simp; (try go_bits); rfl) ?_; simp only [Act.put, List.setIfInBounds_toArray, List.set_cons_zero, List.set_cons_succ]) | (refine WpO.skip (by rfl) ?_; simp only [Act.put, List.setIfInBounds_toArray, List.set_cons_zero, List.set_cons_succ]) | refine WpO.wild ?_ | refine WpO.two ?_ ?_ | refine WpO.three ?_ ?_ ?_) | ((with_reducible refine wildO.here ?_); first | (refine wildO.go (by rfl) (fun _ _ => ?_)) | (refine wildO.skip (by rfl) ?_; simp only [Act.put, List.setIfInBounds_toArray, List.set_cons_zero, List.set_cons_succ])) | go_values | go_skip | go_guarded | go_step | go_upon | go_back)
  skip
  go_ret
  have hbb := bvia b1 hb3
  exact ⟨v, rfl, hv.cut hbb.size, bvia hbb hb4⟩
end Go.Proofs.YtfihjajllfihjaaDoor
