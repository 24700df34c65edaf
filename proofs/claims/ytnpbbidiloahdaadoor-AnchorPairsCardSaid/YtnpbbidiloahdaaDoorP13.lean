/- A model in memory; made, its length, what may come in. Conditions: the model lies in memory; names' numbers fit their kind. The document's Right of a character. No condition. A model's elements as a list; an element laid in. Conditions: the model lies in memory, fewer than 2^29 elements. -/
import Derived.Test.YtnpbbidiloahdaaDoorP11
import Derived.Test.YtnpbbidiloahdaaDoorP12
import Derived.Carry
import Derived.Test.YtnpbbidiloahdaaDoorP10
namespace Go.Proofs.YtnpbbidiloahdaaDoor
set_option linter.unusedSimpArgs false
set_option linter.unusedVariables false
open Go Go.RowKit
def rightC (c : Int) : Bool := decide (0 ≤ c ∧ c ≤ 1114111 ∧ (c < 55296 ∨ 57343 < c))
def fairH (n : Int) : Bool := decide (-1099511627776 ≤ n ∧ n ≤ 1099511627776)
/-- an element that may lie in a model -/
structure El.Good (e : El) : Prop where
  char : rightC e.char = true
  hides : fairH e.hides = true
  nm : e.nm.In
/-- all but the blocks of S stands -/
structure Out (S : Nat → Prop) (w w' : World) : Prop where
  os : w'.os = w.os
  tape : w'.tape = w.tape
  output : w'.output = w.output
  size : w.heap.size ≤ w'.heap.size
  block : ∀ k, k < w.heap.size → ¬ S k → w'.heap[k]? = w.heap[k]?
section
variable {S S' : Nat → Prop} {w w' w'' : World}
theorem Out.refl (S : Nat → Prop) (w : World) : Out S w w := ⟨rfl, rfl, rfl, Nat.le_refl _, fun _ _ _ => rfl⟩
theorem Out.of_below (h : Below w.heap.size w w') : Out S w w' := ⟨h.os, h.tape, h.output, h.size, fun k hk _ => h.block k hk⟩
theorem Out.of_but {x : Nat} (h : But x w w') (hx : S x) : Out S w w' := ⟨h.os, h.tape, h.output, h.size, fun k hk hn => h.block k hk (fun e => hn (e ▸ hx))⟩
theorem Out.trans (h : Out S w w') (k : Out S' w' w'') (hs : ∀ b, b < w.heap.size → S' b → S b) : Out S w w'' :=
  ⟨k.os.trans h.os, k.tape.trans h.tape, k.output.trans h.output, Nat.le_trans h.size k.size, fun b hb hn => (k.block b (Nat.lt_of_lt_of_le hb h.size) (fun h' => hn (hs b hb h'))).trans (h.block b hb hn)⟩
theorem Out.fr (h : Out S w w') (k : Out (Fr w S) w' w'') : Out S w w'' := h.trans k fun b hb h' => by rcases h' with h' | h'; exact h'; omega
theorem Out.blk {g : Nat} {t : TypeId} {cs : Array Value} (h : Out S w w') (hb : Blk w g t cs) (hg : ¬ S g) : Blk w' g t cs := (h.block g hb.lt hg).trans hb
theorem Out.below {base : Nat} (h : Out S w' w'') (hb : Below base w w') (hbs : base ≤ w.heap.size) (hS : ∀ b, S b → base ≤ b) : Below base w w'' :=
  ⟨h.os.trans hb.os, h.tape.trans hb.tape, h.output.trans hb.output, Nat.le_trans hb.size h.size, fun k hk => (h.block k (by have := hb.size; omega) (fun h' => by have := hS k h'; omega)).trans (hb.block k hk)⟩
theorem Out.same (h : Out S w w') : Same (fun b => ¬ S b) w w' := fun b hb hl => h.block b hl hb
theorem Out.setCell {p : Addr} (hp : S p.block) (u : Value) : Out S w (w.setCell p u) := ⟨rfl, rfl, rfl, by simp [World.setCell], fun k _ hn => Below.heap_setCell _ _ _ _ (fun e => hn (e ▸ hp))⟩
theorem Out.drew : Out S w w.drew := ⟨rfl, rfl, rfl, Nat.le_refl _, fun _ _ _ => rfl⟩
end
/-- a model of the elements l at mb, its blocks in S; K: how many names were ever laid in -/
def Mdl (w : World) (S : Nat → Prop) (mb : Nat) (l : List El) (K : Nat) : Prop :=
  ∃ gt gm p T, Blk w mb 80 #[.pointer (some ⟨gt, 0, none⟩), .map (some gm)] ∧ Blk w gt 127 #[.int .i64 64, .pointer p] ∧ IsTree w (fun b => S b ∧ b ≠ gt) T p ∧ T.all = l ∧ IsIds w gm K (l.map El.nm) ∧
    S mb ∧ S gt ∧ S gm ∧ ∀ e ∈ l, e.Good
theorem IsIds.drew {w : World} {b K : Nat} {s : List Nm} (h : IsIds w b K s) : IsIds w.drew b K s := h.heap rfl
theorem IsIds.ne_blk {w : World} {b K g : Nat} {s : List Nm} {t : TypeId} {cs : Array Value} (h : IsIds w b K s) (hb : Blk w g t cs) : g ≠ b := by
  rintro rfl
  obtain ⟨n, D, ⟨es, clock, h1, _⟩, _⟩ := h
  unfold Blk at hb
  rw [h1] at hb
  cases hb
theorem Mdl.keep {w w' : World} {S : Nat → Prop} {mb : Nat} {l : List El} {K : Nat} (h : Mdl w S mb l K) (hk : ∀ b, b < w.heap.size → S b → w'.heap[b]? = w.heap[b]?) : Mdl w' S mb l K := by
  obtain ⟨gt, gm, p, T, h1, h2, h3, h4, h5, h6, h7, h8, h9⟩ := h
  exact ⟨gt, gm, p, T, (hk _ h1.lt h6).trans h1, (hk _ h2.lt h7).trans h2, h3.keep (fun b hb hl => hk b hl hb.1), h4, h5.heap (hk _ h5.lt h8), h6, h7, h8, h9⟩
theorem Mdl.step {w w' : World} {S : Nat → Prop} {mb : Nat} {l : List El} {K : Nat} (h : Mdl w S mb l K) (hb : Below w.heap.size w w') : Mdl w' S mb l K := h.keep fun b hl _ => hb.block b hl
theorem Mdl.more {w : World} {S S' : Nat → Prop} {mb : Nat} {l : List El} {K : Nat} (h : Mdl w S mb l K) (hs : ∀ b, b < w.heap.size → S b → S' b) : Mdl w S' mb l K := by
  obtain ⟨gt, gm, p, T, h1, h2, h3, h4, h5, h6, h7, h8, h9⟩ := h
  exact ⟨gt, gm, p, T, h1, h2, h3.more (fun b hl hb => ⟨hs b hl hb.1, hb.2⟩), h4, h5, hs _ h1.lt h6, hs _ h2.lt h7, hs _ h5.lt h8, h9⟩
theorem right_any (c : Int) (w : World) : Calls Tryd.prog 50 #[.int .i32 c] w fun e w' => e = .returned (.bool (rightC c)) ∧ w = w' := by
  go_enter Tryd.func50, Tryd.ntmps50
  repeat' (first | go_values | go_skip | go_guarded | go_step | go_upon | go_back)
  all_goals
    go_ret
    refine ⟨congrArg (fun x => Ending.returned (.bool x)) ?_, rfl⟩
    unfold rightC
    first
      | (simp_all; done)
      | (simp_all; omega)
      | (go_goals; fail)
theorem hideable_any (n : Int) (w : World) : Calls Tryd.prog 51 #[.int .i64 n] w fun e w' => e = .returned (.bool (fairH n)) ∧ w = w' := by
  go_enter Tryd.func51, Tryd.ntmps51
  repeat' (first | go_values | go_skip | go_guarded | go_step | go_upon | go_back)
  all_goals
    go_ret
    refine ⟨congrArg (fun x => Ending.returned (.bool x)) ?_, rfl⟩
    unfold fairH
    first
      | (simp_all; done)
      | (simp_all; omega)
      | (go_goals; fail)
theorem within_ok (n m : Int) (w : World) (h1 : 0 ≤ n) (h2 : n ≤ m) : Calls Tryd.prog 37 #[.int .i64 n, .int .i64 m] w fun e w' => e = .returned .nilIface ∧ w = w' := by
  go_enter Tryd.func37, Tryd.ntmps37
  repeat' (first | go_values | go_skip | go_guarded | go_step | go_upon | go_back)
  go_ret
  exact ⟨rfl, rfl⟩
theorem mlen_any (w : World) (S : Nat → Prop) (mb : Nat) (l : List El) (K : Nat) (h : Mdl w S mb l K) : Calls Tryd.prog 38 #[.pointer (some ⟨mb, 0, none⟩)] w fun e w' => e = .returned (.int .i64 l.length) ∧ w = w' := by
  obtain ⟨gt, gm, p, T, h1, h2, h3, rfl, h5, h6, h7, h8, h9⟩ := h
  have m0 := h1.cell 0
  simp at m0
  have HL := hid (tlen_any T p gt 64 w h2 h3)
  clear h9 h5
  go_enter Tryd.func38, Tryd.ntmps38
  repeat' (first | (go_at_call 52; go_must ((with_reducible refine Calls.mono HL.out ?_); rintro _ _ ⟨rfl, rfl⟩; dsimp only)) | go_values | go_skip | go_guarded | go_step | go_upon | go_back)
  go_ret
  exact ⟨rfl, rfl⟩
set_option maxRecDepth 20000 in
theorem mnew_any (w : World) : Calls Tryd.prog 26 #[] w fun e w' => ∃ mb, e = .returned (.pointer (some ⟨mb, 0, none⟩)) ∧ Mdl w' (fun b => w.heap.size ≤ b) mb [] 0 ∧ Below w.heap.size w w' := by
  have HN := hid (tnew_ok 64 w (by decide) (by decide))
  rw [show ((64 : Nat) : Int) = 64 from rfl] at HN
  have hmm := @run_makeMap Tryd.prog
  go_enter Tryd.func26, Tryd.ntmps26
  repeat' (first | (go_at_call 49; go_must ((with_reducible refine Calls.mono HN.out ?_); rintro _ w1 ⟨gt, rfl, hgt, hbt, hb1⟩; dsimp only)) | go_values | go_skip | go_guarded | go_step | go_upon | go_back)
  go_ret
  have s1 := hb1.size
  have e1 : Below w1.heap.size w1 (w1.alloc (.map #[] 0)) := (Below.refl _ _).alloc (Nat.le_refl _) _
  have sz : (w1.alloc (.map #[] 0)).heap.size = w1.heap.size + 1 := Array.size_push _
  have e2 := e1.alloc (by omega) (.cells #[.pointer (some ⟨gt, 0, none⟩), .map (some w1.heap.size)] 80)
  have hM := Blk.new (w1.alloc (.map #[] 0)) 80 #[.pointer (some ⟨gt, 0, none⟩), .map (some w1.heap.size)]
  have hI := (IsIds.made w1).heap (w' := (w1.alloc (.map #[] 0)).alloc (.cells #[.pointer (some ⟨gt, 0, none⟩), .map (some w1.heap.size)] 80)) (Below.heap_alloc _ _ _ (IsIds.made w1).lt)
  rw [sz] at hM
  refine ⟨w1.heap.size + 1, rfl, ⟨gt, w1.heap.size, none, .nil, hM, hbt.step e2, rfl, rfl, hI, by show w.heap.size ≤ _; omega, hgt, s1, fun e he => by cases he⟩, hb1.trans (e2.mono s1)⟩
theorem Keep.allocD {T : Nat → Prop} {t : Bool} {w : World} {o : Obj} {X : Prop} (h : X) : Keep T t w.drew (w.alloc o).drew X := Keep.alloc (w := w.drew) h
set_option maxRecDepth 20000 in
set_option maxHeartbeats 1000000 in
theorem takes_ok (e : El) (w : World) (mb gt gm : Nat) (s : List Nm) (K : Nat) (h1 : Blk w mb 80 #[.pointer (some ⟨gt, 0, none⟩), .map (some gm)]) (h5 : IsIds w gm K s) (hg : e.Good) (hn : e.nm ∉ s) :
    Calls Tryd.prog 27 #[.pointer (some ⟨mb, 0, none⟩), .agg #[.int .i64 e.epoch, .int .i64 e.rep, .int .i64 e.num, .int .i32 e.char, .int .i64 e.hides]] w fun r w' => r = .returned .nilIface ∧ Below w.heap.size w w' := by
  have m1 := h1.cell 1
  simp at m1
  have hml := h1.lt
  have b1 : Below w.heap.size w (w.alloc (.cells #[.int .i64 e.epoch, .int .i64 e.rep, .int .i64 e.num, .int .i32 e.char, .int .i64 e.hides] 48)) := (Below.refl _ _).alloc (Nat.le_refl _) _
  have hI1 := h5.heap (w' := w.alloc (.cells #[.int .i64 e.epoch, .int .i64 e.rep, .int .i64 e.num, .int .i32 e.char, .int .i64 e.hides] 48)) (b1.block _ h5.lt)
  have q1 := hI1.drew.ask e.nm hg.nm
  have q2 := (hI1.heap (w' := ((w.alloc (.cells #[.int .i64 e.epoch, .int .i64 e.rep, .int .i64 e.num, .int .i32 e.char, .int .i64 e.hides] 48)).alloc (.cells #[] 74)).drew) (Below.heap_alloc _ _ _ hI1.lt)).ask e.nm hg.nm
  rw [decide_eq_false hn] at q1 q2
  simp only [Nm.val, El.nm] at q1 q2
  have HR := hid (fun W => right_any e.char W)
  have HH := hid (fun W => hideable_any e.hides W)
  rw [hg.char] at HR
  rw [hg.hides] at HH
  clear h5 hI1 hn
  go_enter Tryd.func27, Tryd.ntmps27
  repeat' (first | (go_at_call 50; go_must ((with_reducible refine Calls.mono (HR.out _) ?_); rintro _ _ ⟨rfl, rfl⟩; dsimp only)) | (go_at_call 51; go_must ((with_reducible refine Calls.mono (HH.out _) ?_); rintro _ _ ⟨rfl, rfl⟩; dsimp only)) | (with_reducible refine Keep.allocD ?_) | ((with_reducible refine region_at 5 ?_); refine wp_region_ordT (fun _ => True) (.one 0 true false (.one 1 true false (.one 2 true false (.one 3 true false (.one 4 true false (.one 5 true false (.one 6 true false (.two 7 11 (.one 8 true false (.one 9 true false (.one 10 true false (.one 11 false false (.one 12 false true (.one 13 true false .nil)))))) (.one 7 false false (.one 8 true false (.one 9 true false (.one 10 true false (.one 12 false true (.one 13 true false .nil)))))))))))))) (by kernel_rfl) (by kernel_rfl) (by kernel_rfl) rfl rfl ?_) | (with_reducible refine Keep.last ?_) | (with_reducible refine Keep.below (by assumption) ?_) | (with_reducible refine Keep.kept (by assumption) ?_) | (with_reducible refine Keep.alloc ?_) | (with_reducible refine Keep.same ?_) | ((with_reducible refine WpH.here ?_); first | (refine WpH.nil ?_; refine NoP.normal ?_) | (refine WpH.load (by rfl) (by rfl) (by go_simp; rfl) ?_; simp only [Act.put, List.setIfInBounds_toArray, List.set_cons_zero, List.set_cons_succ]) | (refine WpH.loadT (by rfl) (by rfl) (by go_simp; rfl) (by rintro _ _ ⟨⟩; exact ⟨_, _, _, _, _, _, by rfl, by assumption, by assumption⟩) ?_; simp only [Act.put, List.setIfInBounds_toArray, List.set_cons_zero, List.set_cons_succ]) | (refine WpH.pure (by rfl) (fun w_ => by go_simp; (try go_bits); rfl) ?_; simp only [Act.put, List.setIfInBounds_toArray, List.set_cons_zero, List.set_cons_succ]) | (refine WpH.wild1 (by rfl) (fun _ _ => ?_)) | (refine WpH.skip (by rfl) ?_; simp only [Act.put, List.setIfInBounds_toArray, List.set_cons_zero, List.set_cons_succ])) | ((with_reducible refine WpO.here ?_); first | (refine WpO.done ?_; first | refine NoP.normal ?_ | refine NoO.normal ?_) | (refine WpO.load (by rfl) (by rfl) (by go_simp; rfl) ?_; simp only [Act.put, List.setIfInBounds_toArray, List.set_cons_zero, List.set_cons_succ]) | (refine WpO.loadT (by rfl) (by rfl) (by go_simp; rfl) (by rintro _ _ ⟨⟩; exact ⟨_, _, _, _, _, _, by rfl, by assumption, by assumption⟩) ?_; simp only [Act.put, List.setIfInBounds_toArray, List.set_cons_zero, List.set_cons_succ]) | (refine WpO.pure (by rfl) (fun w_ => by go_simp; (try go_bits); rfl) ?_; simp only [Act.put, List.setIfInBounds_toArray, List.set_cons_zero, List.set_cons_succ]) | (refine WpO.skip (by rfl) ?_; simp only [Act.put, List.setIfInBounds_toArray, List.set_cons_zero, List.set_cons_succ]) | refine WpO.wild ?_ | refine WpO.two ?_ ?_ | refine WpO.three ?_ ?_ ?_) | ((with_reducible refine wildO.here ?_); first | (refine wildO.go (by rfl) (fun _ _ => ?_)) | (refine wildO.skip (by rfl) ?_; simp only [Act.put, List.setIfInBounds_toArray, List.set_cons_zero, List.set_cons_succ])) | go_values | go_skip | go_guarded | go_step | go_upon | go_back)
  all_goals
    go_ret
    exact ⟨rfl, (b1.alloc b1.size _).drew⟩
theorem IsIds.eq {w : World} {b K : Nat} {s s' : List Nm} (h : IsIds w b K s) (he : ∀ i, i ∈ s ↔ i ∈ s') : IsIds w b K s' := by
  obtain ⟨n, D, ho, hn, hs⟩ := h
  exact ⟨n, D, ho, hn, fun i hi => by rw [hs i hi]; simp [he i]⟩
theorem IsTree.empty {w : World} {S : Nat → Prop} {T : Tr} {p : Option Addr} (h : IsTree w S T p) (he : T.all = []) : T = .nil ∧ p = none := by
  cases T with
  | nil => exact ⟨rfl, h⟩
  | node l row r =>
    obtain ⟨hne, _⟩ := h
    simp [Tr.all] at he
    exact absurd he.2.1 hne
set_option maxRecDepth 50000 in
set_option maxHeartbeats 2000000 in
theorem mof_ok (w : World) (A : Option Addr) (n c : Nat) (ls : List El) (SB : Nat → Prop) (hr : Row w SB A n c ls) (hn : n ≤ 1048576) (hg : ∀ e ∈ ls, e.Good) (hd : (ls.map El.nm).Nodup) :
    Calls Tryd.prog 13 #[.slice A n c] w fun r w' => ∃ mb, r = .returned (.tuple #[.pointer (some ⟨mb, 0, none⟩), .nilIface]) ∧ Mdl w' (fun b => w.heap.size ≤ b) mb ls n ∧ Below w.heap.size w w' := by
  have HN := hid (mnew_any w)
  have Hr := hid hr
  have Hg := hid hg
  have Hd := hid hd
  have hnc := hr.2.1
  clear hr hg hd
  go_enter Tryd.func13, Tryd.ntmps13
  repeat' (first | (go_at_call 26; go_must ((with_reducible refine Calls.mono HN.out ?_); rintro _ w1 ⟨mb, rfl, hM, hb1⟩; dsimp only)) | go_values | go_skip | go_guarded | go_step | go_upon | go_back)
  obtain ⟨gt, gm, p, T, h1, h2, h3, h4, h5, h6, h7, h8, h9⟩ := hM
  obtain ⟨rfl, rfl⟩ := h3.empty h4
  clear h4 h9 h3
  go_loopw [11] (fun i wr => ∃ k : Nat, i = .int .i64 k ∧ k ≤ n ∧ Blk wr mb 80 #[.pointer (some ⟨gt, 0, none⟩), .map (some gm)] ∧ Blk wr gt 127 #[.int .i64 64, .pointer none] ∧ IsIds wr gm k ((ls.take k).map El.nm) ∧ Below w.heap.size w wr) (fun i _ => n - (intOf i).toNat)
  case atStart => exact ⟨0, rfl, Nat.zero_le _, h1, h2, by simpa using h5, hb1⟩
  case round =>
    obtain ⟨k, rfl, hk, g1, g2, g5, hbr⟩ := hrel
    by_cases hlt : k < n
    · obtain ⟨b, off, e, rfl, hS, he, c0, c1, c2, c3, c4⟩ := (Hr.out.step hbr).at_ hlt
      have hbl := lt_of_cell' c0
      have heg := Hg.out e (List.mem_of_getElem? he)
      have hnot : e.nm ∉ (ls.take k).map El.nm := by
        intro hm
        have hd := Hd.out
        have htk := take_snoc_el he
        have h1 : ((ls.take (k + 1)).map El.nm).Nodup := by
          rw [List.map_take]
          exact hd.sublist (List.take_sublist _ _)
        rw [htk, List.map_append, List.nodup_append] at h1
        exact h1.2.2 _ hm _ (by simp) rfl
      have eb : Below wr.heap.size wr (wr.alloc (.cells #[.int .i64 e.epoch, .int .i64 e.rep, .int .i64 e.num, .int .i32 e.char, .int .i64 e.hides] 48)) := (Below.refl _ _).alloc (Nat.le_refl _) _
      have g1b := g1.step eb
      have g5b := g5.heap (eb.block _ g5.lt)
      have heb := Blk.new wr 48 #[.int .i64 e.epoch, .int .i64 e.rep, .int .i64 e.num, .int .i32 e.char, .int .i64 e.hides]
      have HT := hid (takes_ok e _ mb gt gm _ k g1b g5b heg hnot)
      have He := hid (And.intro he heg)
      have Hkeep := hid (And.intro g1b (And.intro (g2.step eb) (And.intro g5b heb)))
      clear he heg hnot g1 g2 g5 g1b g5b heb
      repeat' (first | (go_at_call 27; go_must ((with_reducible refine Calls.mono HT.out ?_); rintro _ w3 ⟨rfl, hb3⟩; have k1 := Hkeep.out.1.step hb3; have k2 := Hkeep.out.2.1.step hb3; have ke := Hkeep.out.2.2.2.step hb3; obtain ⟨w4, hrun, hI4, hT4⟩ := ((Hkeep.out.2.2.1.heap (hb3.block _ Hkeep.out.2.2.1.lt)).drew).put e.nm He.out.2.nm (by omega); have m1 := k1.cell 1; have x0 := ke.cell 0; have x1 := ke.cell 1; have x2 := ke.cell 2; simp at m1 x0 x1 x2; simp only [Nm.val, El.nm] at hrun; have HI4 := hid (And.intro hI4 hT4); clear hI4 hT4; dsimp only)) | ((with_reducible refine region_at 8 ?_); refine wp_region_order [(0, true, false), (1, true, false), (2, true, false), (3, true, false), (4, true, false), (5, true, false), (6, true, false), (7, true, false), (8, false, true)] (by kernel_rfl) (by kernel_rfl) (by kernel_rfl) rfl rfl ?_) | (with_reducible refine Keep.last ?_) | (with_reducible refine Keep.below (by assumption) ?_) | (with_reducible refine Keep.kept (by assumption) ?_) | (with_reducible refine Keep.alloc ?_) | (with_reducible refine Keep.same ?_) | ((with_reducible refine WpH.here ?_); first | (refine WpH.nil ?_; refine NoP.normal ?_) | (refine WpH.load (by rfl) (by rfl) (by go_simp; rfl) ?_; simp only [Act.put, List.setIfInBounds_toArray, List.set_cons_zero, List.set_cons_succ]) | (refine WpH.loadT (by rfl) (by rfl) (by go_simp; rfl) (by rintro _ _ ⟨⟩; exact ⟨_, _, _, _, _, _, by rfl, by assumption, by assumption⟩) ?_; simp only [Act.put, List.setIfInBounds_toArray, List.set_cons_zero, List.set_cons_succ]) | (refine WpH.pure (by rfl) (fun w_ => by go_simp; (try go_bits); rfl) ?_; simp only [Act.put, List.setIfInBounds_toArray, List.set_cons_zero, List.set_cons_succ]) | (refine WpH.wild1 (by rfl) (fun _ _ => ?_)) | (refine WpH.skip (by rfl) ?_; simp only [Act.put, List.setIfInBounds_toArray, List.set_cons_zero, List.set_cons_succ])) | ((with_reducible refine WpO.here ?_); first | (refine WpO.done ?_; first | refine NoP.normal ?_ | refine NoO.normal ?_) | (refine WpO.load (by rfl) (by rfl) (by go_simp; rfl) ?_; simp only [Act.put, List.setIfInBounds_toArray, List.set_cons_zero, List.set_cons_succ]) | (refine WpO.loadT (by rfl) (by rfl) (by go_simp; rfl) (by rintro _ _ ⟨⟩; exact ⟨_, _, _, _, _, _, by rfl, by assumption, by assumption⟩) ?_; simp only [Act.put, List.setIfInBounds_toArray, List.set_cons_zero, List.set_cons_succ]) | (refine WpO.pure (by rfl) (fun w_ => by go_simp; (try go_bits); rfl) ?_; simp only [Act.put, List.setIfInBounds_toArray, List.set_cons_zero, List.set_cons_succ]) | (refine WpO.skip (by rfl) ?_; simp only [Act.put, List.setIfInBounds_toArray, List.set_cons_zero, List.set_cons_succ]) | refine WpO.wild ?_ | refine WpO.two ?_ ?_ | refine WpO.three ?_ ?_ ?_) | ((with_reducible refine wildO.here ?_); first | (refine wildO.go (by rfl) (fun _ _ => ?_)) | (refine wildO.skip (by rfl) ?_; simp only [Act.put, List.setIfInBounds_toArray, List.set_cons_zero, List.set_cons_succ])) | go_values | go_skip | go_guarded | go_step | go_upon | go_back)
      go_roundw
      case rel =>
        have b3 := eb.trans (hb3.mono eb.size)
        have B3 := hbr.trans (b3.mono hbr.size)
        have hbut := But.of_turned HI4.out.2
        have n1 := HI4.out.1
        have e1 := Hkeep.out.2.2.1.ne_blk Hkeep.out.1
        have e2 := Hkeep.out.2.2.1.ne_blk Hkeep.out.2.1
        refine ⟨k + 1, by go_num, by omega, hbut.blk k1.drew e1, hbut.blk k2.drew e2, HI4.out.1.eq fun i => ?_, hbut.below_new (w1 := w3.drew) B3.drew h8⟩
        rw [take_snoc_el He.out.1]
        simp [or_comm]
      case measure => simp [intOf]; omega
    · obtain rfl : k = n := by omega
      have hl : ls.take k = ls := List.take_of_length_le (by rw [Hr.out.1]; omega)
      rw [hl] at g5
      have m0 := g1.cell 0
      simp at m0
      have hmg := g1.ne g2 (by decide)
      have HI := hid (insert_ok .nil none gt 64 0 A k c ls (fun _ => False) SB wr g2 rfl (fun h => h) (Hr.out.step hbr) (by simp [Tr.all]; omega) (Nat.zero_le _) (by decide) (by decide))
      rw [show ((0 : Nat) : Int) = 0 from rfl] at HI
      have G5 := hid g5
      have hgl := g1.lt
      clear g5 hl
      repeat' (first | (go_at_call 29; go_must ((with_reducible refine Calls.mono HI.out ?_); rintro _ w5 ⟨p5, T5, rfl, hT5, hb5, ⟨hq5, _⟩, hB5⟩; dsimp only)) | (with_reducible refine Keep.last ?_) | (with_reducible refine Keep.below (by assumption) ?_) | (with_reducible refine Keep.kept (by assumption) ?_) | (with_reducible refine Keep.alloc ?_) | (with_reducible refine Keep.same ?_) | ((with_reducible refine WpH.here ?_); first | (refine WpH.nil ?_; refine NoP.normal ?_) | (refine WpH.load (by rfl) (by rfl) (by go_simp; rfl) ?_; simp only [Act.put, List.setIfInBounds_toArray, List.set_cons_zero, List.set_cons_succ]) | (refine WpH.loadT (by rfl) (by rfl) (by go_simp; rfl) (by rintro _ _ ⟨⟩; exact ⟨_, _, _, _, _, _, by rfl, by assumption, by assumption⟩) ?_; simp only [Act.put, List.setIfInBounds_toArray, List.set_cons_zero, List.set_cons_succ]) | (refine WpH.pure (by rfl) (fun w_ => by go_simp; (try go_bits); rfl) ?_; simp only [Act.put, List.setIfInBounds_toArray, List.set_cons_zero, List.set_cons_succ]) | (refine WpH.wild1 (by rfl) (fun _ _ => ?_)) | (refine WpH.skip (by rfl) ?_; simp only [Act.put, List.setIfInBounds_toArray, List.set_cons_zero, List.set_cons_succ])) | ((with_reducible refine WpO.here ?_); first | (refine WpO.done ?_; first | refine NoP.normal ?_ | refine NoO.normal ?_) | (refine WpO.load (by rfl) (by rfl) (by go_simp; rfl) ?_; simp only [Act.put, List.setIfInBounds_toArray, List.set_cons_zero, List.set_cons_succ]) | (refine WpO.loadT (by rfl) (by rfl) (by go_simp; rfl) (by rintro _ _ ⟨⟩; exact ⟨_, _, _, _, _, _, by rfl, by assumption, by assumption⟩) ?_; simp only [Act.put, List.setIfInBounds_toArray, List.set_cons_zero, List.set_cons_succ]) | (refine WpO.pure (by rfl) (fun w_ => by go_simp; (try go_bits); rfl) ?_; simp only [Act.put, List.setIfInBounds_toArray, List.set_cons_zero, List.set_cons_succ]) | (refine WpO.skip (by rfl) ?_; simp only [Act.put, List.setIfInBounds_toArray, List.set_cons_zero, List.set_cons_succ]) | refine WpO.wild ?_ | refine WpO.two ?_ ?_ | refine WpO.three ?_ ?_ ?_) | ((with_reducible refine wildO.here ?_); first | (refine wildO.go (by rfl) (fun _ _ => ?_)) | (refine wildO.skip (by rfl) ?_; simp only [Act.put, List.setIfInBounds_toArray, List.set_cons_zero, List.set_cons_succ])) | go_values | go_skip | go_guarded | go_step | go_upon | go_back)
      go_ret2
      have hgm := G5.out.ne_blk g2
      refine ⟨mb, rfl, ⟨gt, gm, p5, T5, hB5.blk g1 hmg, hb5, hT5.more (fun b _ h => ?_), by rw [hq5]; simp [Tr.all], G5.out.heap (hB5.block _ G5.out.lt (Ne.symm hgm)), h6, h7, h8, Hg.out⟩, hB5.below_new hbr h7⟩
      rcases h with h | h
      · exact h.elim
      · exact ⟨Nat.le_trans hbr.size h, by have := g2.lt; omega⟩
end Go.Proofs.YtnpbbidiloahdaaDoor
namespace Go.Proofs.YtnpbbidiloahdaaDoor
set_option linter.unusedSimpArgs false
set_option linter.unusedVariables false
open Go Go.RowKit
set_option maxHeartbeats 1000000 in
theorem ref5Right_any (c : Int) (w : World) : Calls Tryd.prog 46 #[.int .i32 c] w fun e w' => e = .returned (.bool (rightC c)) ∧ w = w' := by
  go_enter Tryd.func46, Tryd.ntmps46
  repeat' (first | go_values | go_skip | go_guarded | go_step | go_upon | go_back)
  all_goals
    go_ret
    refine ⟨congrArg (fun x => Ending.returned (.bool x)) ?_, rfl⟩
    try simp only [beq_iff_eq, beq_eq_false_iff_ne, ne_eq] at *
    unfold rightC
    first
      | (simp_all; done)
      | (simp_all; omega)
      | (rw [Bool.eq_iff_iff]; simp_all; done)
      | (rw [Bool.eq_iff_iff]; simp_all; omega)
      | (go_goals; fail)
end Go.Proofs.YtnpbbidiloahdaaDoor
namespace Go.Proofs.YtnpbbidiloahdaaDoor
set_option linter.unusedSimpArgs false
set_option linter.unusedVariables false
open Go Go.RowKit
theorem Own.turn {w w' : World} {base base' : Nat} {A : Option Addr} {n c : Nat} {es : List El} (h : Own w base A n c es) (hT : Turn 3 base' w w') : Own w' base A n c es := by
  refine ⟨h.1, h.2.1, ?_⟩
  rcases h.2.2 with h0 | ⟨g, cap, cur, e, hbg, hh, r⟩
  · exact .inl h0
  · exact .inr ⟨g, cap, cur, e, hbg, (hT.cells g _ _ _ hh (fun h => by have := h.2.1; revert this; decide)).trans hh, r⟩
theorem Own.begun {w w' : World} {l base : Nat} {A : Option Addr} {n c : Nat} {es : List El} (h : Own w base A n c es) (hT : Begun l w w') : Own w' base A n c es := by
  refine ⟨h.1, h.2.1, ?_⟩
  rcases h.2.2 with h0 | ⟨g, cap, cur, e, hbg, hh, r⟩
  · exact .inl h0
  · obtain ⟨q, q', hr, _⟩ := hT.record
    exact .inr ⟨g, cap, cur, e, hbg, (hT.block g (fun e' => by subst e'; rw [hr] at hh; cases hh)).trans hh, r⟩
theorem mem_ins (l : List El) (i : Nat) (e : El) (j : Nm) : j ∈ e.nm :: l.map El.nm ↔ j ∈ (l.take i ++ e :: l.drop i).map El.nm := by
  have hp : (l.take i ++ e :: l.drop i).Perm (e :: l) := by
    have := List.perm_middle (a := e) (l₁ := l.take i) (l₂ := l.drop i)
    rwa [List.take_append_drop] at this
  rw [(hp.map El.nm).mem_iff]
  rfl
set_option maxRecDepth 50000 in
set_option maxHeartbeats 4000000 in
/-- an element laid in where it may be -/
theorem minsert_ok (w : World) (S : Nat → Prop) (mb : Nat) (l : List El) (K i : Nat) (e : El) (h : Mdl w S mb l K) (hl : l.length ≤ 536870912) (hK : K ≤ 1099511627776) (hi : i ≤ l.length) (hg : e.Good) (hn : e.nm ∉ l.map El.nm) :
    Calls Tryd.prog 21 #[.pointer (some ⟨mb, 0, none⟩), .int .i64 i, .agg #[.int .i64 e.epoch, .int .i64 e.rep, .int .i64 e.num, .int .i32 e.char, .int .i64 e.hides]] w fun r w' => r = .returned .nilIface ∧ Mdl w' (Fr w S) mb (l.take i ++ e :: l.drop i) (K + 1) ∧ Out S w w' := by
  have b1 : Below w.heap.size w (w.alloc (.cells #[.int .i64 e.epoch, .int .i64 e.rep, .int .i64 e.num, .int .i32 e.char, .int .i64 e.hides] 48)) := (Below.refl _ _).alloc (Nat.le_refl _) _
  have hx1 := Blk.new w 48 #[.int .i64 e.epoch, .int .i64 e.rep, .int .i64 e.num, .int .i32 e.char, .int .i64 e.hides]
  have HL := hid (mlen_any _ S mb l K (h.step b1))
  have HW := hid (fun W => within_ok i l.length W (by omega) (by omega))
  obtain ⟨gt, gm, p, T, h1, h2, h3, rfl, h5, h6, h7, h8, h9⟩ := h
  have HT := hid (takes_ok e _ mb gt gm _ K (h1.step b1) (h5.heap (b1.block _ h5.lt)) hg hn)
  have Hk := hid (And.intro (h1.step b1) (And.intro (h2.step b1) (And.intro (h3.step b1) (h5.heap (b1.block _ h5.lt)))))
  have h0 := h1.lt
  have Ho := hid (And.intro h1 (And.intro h2 (And.intro h5 h9)))
  have hn' := hid hn
  clear h1 h2 h3 h5 h9 hn
  go_enter Tryd.func21, Tryd.ntmps21
  repeat' (first | (go_at_call 38; go_must ((with_reducible refine Calls.mono HL.out ?_); rintro _ _ ⟨rfl, rfl⟩; dsimp only)) | (go_at_call 37; go_must ((with_reducible refine Calls.mono (HW.out _) ?_); rintro _ _ ⟨rfl, rfl⟩; dsimp only)) | (go_at_call 27; go_must ((with_reducible refine Calls.mono HT.out ?_); rintro _ w3 ⟨rfl, hb3⟩; dsimp only)) | (with_reducible refine stop_region 6 ?_) | go_values | go_skip | go_guarded | go_step | go_upon | go_back)
  refine Stop.go ?_
  have k1 := Hk.out.1.step hb3
  have k2 := Hk.out.2.1.step hb3
  have k3 := Hk.out.2.2.1.step hb3
  have kx := hx1.step hb3
  obtain ⟨w4, hrun, hI4, hT4⟩ := ((Hk.out.2.2.2.heap (hb3.block _ Hk.out.2.2.2.lt)).drew).put e.nm hg.nm (by omega)
  have hB4 := But.of_turned hT4
  have e1 := Hk.out.2.2.2.ne_blk Hk.out.1
  have e2 := Hk.out.2.2.2.ne_blk Hk.out.2.1
  have e3 := Hk.out.2.2.2.ne_blk hx1
  have j1 := hB4.blk k1.drew e1
  have j2 := hB4.blk k2.drew e2
  have jx := hB4.blk kx.drew e3
  have j3 : IsTree w4 (fun b => S b ∧ b ≠ gt) T p := (((k3.drew).strict).keep (S := fun b => (S b ∧ b ≠ gt) ∧ Big w3.drew b) fun b hb hl => hB4.block b hl (fun e => by
    subst e
    obtain ⟨cs, u, z, hc, _⟩ := hb.2
    obtain ⟨n, D, ⟨es, clock, hm, _⟩, _⟩ := Hk.out.2.2.2.heap (w' := w3.drew) (hb3.block _ Hk.out.2.2.2.lt)
    rw [hm] at hc
    cases hc)).more fun b _ h => h.1
  have m1 := k1.cell 1
  have x0 := kx.cell 0
  have x1 := kx.cell 1
  have x2 := kx.cell 2
  simp at m1 x0 x1 x2
  simp only [Nm.val, El.nm] at hrun
  have HI4 := hid (And.intro hI4 (And.intro hT4 hB4))
  clear hI4 hT4 hB4
  repeat' (first | ((with_reducible refine region_at 6 ?_); refine wp_region_order [(0, true, false), (1, true, false), (2, true, false), (3, true, false), (4, true, false), (5, true, false), (6, true, false), (7, true, false), (8, false, true)] (by kernel_rfl) (by kernel_rfl) (by kernel_rfl) rfl rfl ?_) | (with_reducible refine stop_region 7 ?_) | (with_reducible refine Keep.last ?_) | (with_reducible refine Keep.below (by assumption) ?_) | (with_reducible refine Keep.kept (by assumption) ?_) | (with_reducible refine Keep.alloc ?_) | (with_reducible refine Keep.same ?_) | ((with_reducible refine WpH.here ?_); first | (refine WpH.nil ?_; refine NoP.normal ?_) | (refine WpH.load (by rfl) (by rfl) (by go_simp; rfl) ?_; simp only [Act.put, List.setIfInBounds_toArray, List.set_cons_zero, List.set_cons_succ]) | (refine WpH.loadT (by rfl) (by rfl) (by go_simp; rfl) (by rintro _ _ ⟨⟩; exact ⟨_, _, _, _, _, _, by rfl, by assumption, by assumption⟩) ?_; simp only [Act.put, List.setIfInBounds_toArray, List.set_cons_zero, List.set_cons_succ]) | (refine WpH.pure (by rfl) (fun w_ => by go_simp; (try go_bits); rfl) ?_; simp only [Act.put, List.setIfInBounds_toArray, List.set_cons_zero, List.set_cons_succ]) | (refine WpH.wild1 (by rfl) (fun _ _ => ?_)) | (refine WpH.skip (by rfl) ?_; simp only [Act.put, List.setIfInBounds_toArray, List.set_cons_zero, List.set_cons_succ])) | go_values | go_skip | go_guarded | go_step | go_upon | go_back)
  refine Stop.go ?_
  have s3 := Nat.le_trans b1.size hb3.size
  have e4 : Below w4.heap.size w4 ((w4.alloc (.cells #[.int .i64 e.epoch, .int .i64 e.rep, .int .i64 e.num, .int .i32 e.char, .int .i64 e.hides] 48)).drew) := ((Below.refl _ _).alloc (Nat.le_refl _) _).drew
  have s4 : (w4.alloc (.cells #[.int .i64 e.epoch, .int .i64 e.rep, .int .i64 e.num, .int .i32 e.char, .int .i64 e.hides] 48)).drew.heap.size = w4.heap.size + 1 := Array.size_push _
  have HI := hid (insert_ok T p gt 64 i (some ⟨w4.heap.size, 0, none⟩) 1 1 [e] (fun b => S b ∧ b ≠ gt) (fun _ => True) _ (j2.step e4) (j3.step e4) (fun h => h.2 rfl) (Row.one w4 e).drew (by omega) hi (by decide) (by decide))
  have t1 : mb ≠ gt := j1.ne j2 (by decide)
  have t2 : w.heap.size ≠ gt := jx.ne j2 (by decide)
  have q1 : w4.drew.heap[mb]? = some (.cells #[.pointer (some ⟨gt, 0, none⟩), .map (some gm)] 80 (0, 0)) := j1
  have q2 : w4.drew.heap[w.heap.size]? = some (.cells #[.int .i64 e.epoch, .int .i64 e.rep, .int .i64 e.num, .int .i32 e.char, .int .i64 e.hides] 48 (0, 0)) := jx
  have m0 := j1.cell 0
  have y0 := jx.cell 0
  have y1 := jx.cell 1
  have y2 := jx.cell 2
  have y3 := jx.cell 3
  have y4 := jx.cell 4
  simp at m0 y0 y1 y2 y3 y4
  have hgl := j2.lt
  clear m1 x0 x1 x2 hrun
  repeat' (first | ((with_reducible refine region_at 7 ?_); refine wp_region_orderT (fun b => b ≠ gt) [(0, true, false), (1, true, false), (2, true, false), (3, true, false), (4, true, false), (5, true, false), (6, true, false), (7, false, false), (8, false, false), (9, true, false)] (by kernel_rfl) (by kernel_rfl) (by kernel_rfl) rfl rfl ?_) | (with_reducible refine Keep.allocD ?_) | (go_at_call 29; go_must ((with_reducible refine Calls.mono HI.out ?_); rintro _ w5 ⟨p5, T5, rfl, hT5, hb5, ⟨hq5, _⟩, hB5⟩; have hq5' := hid hq5; clear hq5; have hk5 : KeepT (fun b => b ≠ gt) _ w5 := ⟨hB5.size, fun b hl hb => hB5.block b hl hb⟩; dsimp only)) | (with_reducible refine Keep.last ?_) | (with_reducible refine Keep.below (by assumption) ?_) | (with_reducible refine Keep.kept (by assumption) ?_) | (with_reducible refine Keep.alloc ?_) | (with_reducible refine Keep.same ?_) | ((with_reducible refine WpH.here ?_); first | (refine WpH.nil ?_; refine NoP.normal ?_) | (refine WpH.load (by rfl) (by rfl) (by go_simp; rfl) ?_; simp only [Act.put, List.setIfInBounds_toArray, List.set_cons_zero, List.set_cons_succ]) | (refine WpH.loadT (by rfl) (by rfl) (by go_simp; rfl) (by rintro _ _ ⟨⟩; exact ⟨_, _, _, _, _, _, by rfl, by assumption, by assumption⟩) ?_; simp only [Act.put, List.setIfInBounds_toArray, List.set_cons_zero, List.set_cons_succ]) | (refine WpH.pure (by rfl) (fun w_ => by go_simp; (try go_bits); rfl) ?_; simp only [Act.put, List.setIfInBounds_toArray, List.set_cons_zero, List.set_cons_succ]) | (refine WpH.wild1 (by rfl) (fun _ _ => ?_)) | (refine WpH.skip (by rfl) ?_; simp only [Act.put, List.setIfInBounds_toArray, List.set_cons_zero, List.set_cons_succ])) | go_values | go_skip | go_guarded | go_step | go_upon | go_back)
  go_ret
  have hO : Out S w w5 := ((((Out.of_below (b1.trans (hb3.mono b1.size))).trans (Out.drew (S := S)) (fun _ _ h => h)).trans (Out.of_but HI4.out.2.2 h8) (fun _ _ h => h)).trans (Out.of_below (S := S) e4) (fun _ _ h => h)).trans (Out.of_but hB5 h7) (fun _ _ h => h)
  have hz4 : w.heap.size ≤ w4.heap.size := Nat.le_trans s3 HI4.out.2.2.size
  have hgm : gm ≠ gt := fun e' => (HI4.out.1.ne_blk j2) e'.symm
  refine ⟨rfl, ⟨gt, gm, p5, T5, hB5.blk (j1.step e4) t1, hb5, hT5.more (fun b _ h => ?_), by rw [hq5'.out]; simp, ((HI4.out.1.heap (e4.block _ HI4.out.1.lt)).heap (hB5.block _ (Nat.lt_of_lt_of_le HI4.out.1.lt e4.size) hgm)).eq fun j => ?_, .inl h6, .inl h7, .inl h8, ?_⟩, hO⟩
  · rcases h with h | h
    · exact ⟨.inl h.1, h.2⟩
    · rw [s4] at h
      exact ⟨.inr (by omega), by omega⟩
  · exact mem_ins T.all i e j
  · intro x hx
    simp only [List.mem_append, List.mem_cons] at hx
    rcases hx with hx | rfl | hx
    · exact Ho.out.2.2.2 x (List.mem_of_mem_take hx)
    · exact hg
    · exact Ho.out.2.2.2 x (List.mem_of_mem_drop hx)
end Go.Proofs.YtnpbbidiloahdaaDoor
