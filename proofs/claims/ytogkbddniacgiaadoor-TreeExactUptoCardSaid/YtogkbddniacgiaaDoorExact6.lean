/- All that is told of a tree held against its plain list: the walk. Conditions: both lie in memory, fewer than 601 elements; the leaves are as the document has them. -/
import Derived.Test.YtogkbddniacgiaaDoorChunks
import Derived.Test.YtogkbddniacgiaaDoorTurn
import Derived.Test.YtogkbddniacgiaaDoorModel2
namespace Go.Proofs.YtogkbddniacgiaaDoor
set_option linter.unusedSimpArgs false
set_option linter.unusedVariables false
open Go Go.RowKit
@[go_sem] theorem eq_iter_nil' (f : Fn) (a c : Array Value) (w : World) : (binOp .eql 38 (.func f a c) .nilFunc).run Tryd.prog w = .ok (.bool false) w := by kernel_rfl
theorem below_turn' {w A B : World} {base c : Nat} {t : TypeId} (g : Below base w A) (hT : Turn t c A B) (hc : base ≤ c) (hz : base ≤ w.heap.size) : Below base w B :=
  ⟨hT.os.trans g.os, hT.tape.trans g.tape, hT.output.trans g.output, Nat.le_trans g.size hT.size, fun k hk => (hT.low k (by have := g.size; omega) (by omega)).trans (g.block k hk)⟩
theorem below_begun' {w A B : World} {base l : Nat} (h : Below base w A) (hB : Begun l A B) (hl : base ≤ l) : Below base w B :=
  ⟨hB.os.trans h.os, hB.tape.trans h.tape, hB.output.trans h.output, by rw [hB.size]; exact h.size, fun k hk => (hB.block k (by omega)).trans (h.block k hk)⟩
/-- what stands through the range -/
structure SameAt (w W : World) (pb nb : Nat) (m : Nat) : Prop where
  p : Blk W w.heap.size 25 #[.pointer (some ⟨pb, 0, none⟩)]
  o : Blk W (w.heap.size + 1) 4 #[.bool false]
  n : Blk W nb 3 #[.int .i64 m]
  b : Below w.heap.size w W
set_option maxRecDepth 200000 in
set_option maxHeartbeats 8000000 in
theorem same_any (w : World) (pb gt ck base : Nat) (T : Tr) (h : PairAt w pb gt ck T base) (hg : Good ck T.rows) (hl : T.all.length ≤ 600) (hc64 : ck ≤ 64) :
    Calls Tryd.prog 63 #[.pointer (some ⟨pb, 0, none⟩)] w fun e w' => e = .returned (.bool true) ∧ Below w.heap.size w w' := by
  have HC := hid (fun W (hb : Below w.heap.size w W) => pchunks_any W pb gt ck base T (h.step hb) hg hl hc64)
  obtain ⟨⟨hlp, hlg⟩, ⟨A, c, hp, hr⟩, p, hgt, hT⟩ := h
  have HL := hid (fun W (hb : Below w.heap.size w W) => tlen_any T p gt ck W (hgt.step hb) (hT.step hb))
  have HW := hid (fun W (hb : Below w.heap.size w W) => tweight_any T p gt ck W (hgt.step hb) (hT.step hb))
  have HS := hid (fun W (hb : Below w.heap.size w W) => refSum_any A T.all.length c T.all _ W (hr.step hb) (by omega))
  have hpl := hp.lt
  have hgl := hgt.lt
  have hlc := hr.2.1
  have hlm := hr.2.2.1
  clear hg
  generalize hq1 : liveOf T.all = q1 at *
  generalize hq2 : linesOf T.all = q2 at *
  clear hq1 hq2
  obtain ⟨hQ, hO, b2⟩ := boxes2 w 25 4 #[.pointer (some ⟨pb, 0, none⟩)] #[.bool false]
  refine calls_of_marks Tryd.func63 rfl ?_
  simp only [Tryd.ntmps63, List.size_toArray, List.length_cons, List.length_nil, Nat.reduceAdd, Nat.reduceSub, Array.replicate_succ, Array.replicate_zero, List.push_toArray, List.append_toArray, List.nil_append, List.cons_append]
  repeat' (first | (with_reducible refine stop_region 1 ?_) | (with_reducible refine Keep.last ?_) | (with_reducible refine Keep.below (by assumption) ?_) | (with_reducible refine Keep.kept (by assumption) ?_) | (with_reducible refine Keep.alloc ?_) | (with_reducible refine Keep.same ?_) | ((with_reducible refine WpH.here ?_); first | (refine WpH.nil ?_; refine NoP.normal ?_) | (refine WpH.load (by rfl) (by rfl) (by go_simp; rfl) ?_; simp only [Act.put, List.setIfInBounds_toArray, List.set_cons_zero, List.set_cons_succ]) | (refine WpH.loadT (by rfl) (by rfl) (by go_simp; rfl) (by rintro _ _ ⟨⟩; exact ⟨_, _, _, _, _, _, by rfl, by assumption, by assumption⟩) ?_; simp only [Act.put, List.setIfInBounds_toArray, List.set_cons_zero, List.set_cons_succ]) | (refine WpH.pure (by rfl) (fun w_ => by go_simp; (try go_bits); rfl) ?_; simp only [Act.put, List.setIfInBounds_toArray, List.set_cons_zero, List.set_cons_succ]) | (refine WpH.wild1 (by rfl) (fun _ _ => ?_)) | (refine WpH.skip (by rfl) ?_; simp only [Act.put, List.setIfInBounds_toArray, List.set_cons_zero, List.set_cons_succ])) | ((with_reducible refine WpO.here ?_); first | (refine WpO.done ?_; first | refine NoP.normal ?_ | refine NoO.normal ?_) | (refine WpO.load (by rfl) (by rfl) (by go_simp; rfl) ?_; simp only [Act.put, List.setIfInBounds_toArray, List.set_cons_zero, List.set_cons_succ]) | (refine WpO.loadT (by rfl) (by rfl) (by go_simp; rfl) (by rintro _ _ ⟨⟩; exact ⟨_, _, _, _, _, _, by rfl, by assumption, by assumption⟩) ?_; simp only [Act.put, List.setIfInBounds_toArray, List.set_cons_zero, List.set_cons_succ]) | (refine WpO.pure (by rfl) (fun w_ => by go_simp; (try go_bits); rfl) ?_; simp only [Act.put, List.setIfInBounds_toArray, List.set_cons_zero, List.set_cons_succ]) | (refine WpO.skip (by rfl) ?_; simp only [Act.put, List.setIfInBounds_toArray, List.set_cons_zero, List.set_cons_succ]) | refine WpO.wild ?_ | refine WpO.two ?_ ?_ | refine WpO.three ?_ ?_ ?_) | ((with_reducible refine wildO.here ?_); first | (refine wildO.go (by rfl) (fun _ _ => ?_)) | (refine wildO.skip (by rfl) ?_; simp only [Act.put, List.setIfInBounds_toArray, List.set_cons_zero, List.set_cons_succ])) | go_values | go_skip | go_guarded | go_step | go_upon | go_back)
  refine Stop.go ?_
  generalize (w.alloc (.cells #[.pointer (some ⟨pb, 0, none⟩)] 25)).alloc (.cells #[.bool false] 4) = X at *
  have q0 := hQ.cell 0
  have ql := hQ.lt
  simp at q0
  obtain ⟨p0, p1, p2, pl⟩ := (hp.step b2).three'
  repeat' (first | (with_reducible refine stop_block 0 ?_) | ((with_reducible refine region_at 1 ?_); refine wp_region_order [(0, true, false), (1, true, false), (2, true, false), (3, true, false), (5, true, false), (6, true, false), (7, true, false), (8, true, false), (9, true, false), (4, false, false), (10, true, false), (11, true, false), (12, true, false), (13, true, false), (14, true, false), (15, true, false), (17, true, false), (18, true, false), (19, true, false), (20, true, false), (16, false, false), (21, false, false), (22, true, false), (23, true, false), (24, true, false), (25, true, false), (26, false, false), (27, true, false), (28, true, false)] (by kernel_rfl) (by kernel_rfl) (by kernel_rfl) rfl rfl ?_) | ((with_reducible refine WpH.here ?_); refine WpH.wild2 (by rfl) (fun _ _ => ?_)) | (go_at_call 22; go_must ((with_reducible refine Calls.mono (HL.out _ (by (repeat' (first | (with_reducible exact Below.refl _ _) | (with_reducible assumption) | (with_reducible refine balloc ?_) | (with_reducible refine bdrew ?_) | (with_reducible refine bset ?_ (by (try dsimp only); omega)) | (with_reducible refine bvia ?_ (by assumption)))))) ?_); rintro _ _ ⟨rfl, rfl⟩; dsimp only)) | (go_at_call 60; go_must ((with_reducible refine Calls.mono (HW.out _ (by (repeat' (first | (with_reducible exact Below.refl _ _) | (with_reducible assumption) | (with_reducible refine balloc ?_) | (with_reducible refine bdrew ?_) | (with_reducible refine bset ?_ (by (try dsimp only); omega)) | (with_reducible refine bvia ?_ (by assumption)))))) ?_); rintro _ w1 ⟨rfl, hb1⟩; have hbb1 := bvia (bdrew b2) hb1; have hQ1 := hQ.drew.step hb1; have q0 := hQ1.cell 0; have ql := hQ1.lt; simp at q0; obtain ⟨p0, p1, p2, pl⟩ := (hp.step hbb1).three'; dsimp only)) | (go_at_call 101; go_must ((with_reducible refine Calls.mono (HS.out _ hbb1) ?_); rintro _ w2 ⟨rfl, hb2⟩; have hbb2 := bvia hbb1 hb2; have hQ2 := hQ1.step hb2; have q0 := hQ2.cell 0; have ql := hQ2.lt; simp at q0; obtain ⟨p0, p1, p2, pl⟩ := (hp.step hbb2).three'; dsimp only)) | (go_at_call 39; go_must ((with_reducible refine Calls.mono (HC.out _ hbb2) ?_); rintro _ w3 ⟨rfl, hb3⟩; have hbb3 := bvia hbb2 hb3; have hQ3 := hQ2.step hb3; have q0 := hQ3.cell 0; have ql := hQ3.lt; simp at q0; obtain ⟨p0, p1, p2, pl⟩ := (hp.step hbb3).three'; dsimp only)) | (go_at_call 21; go_must ((with_reducible refine Calls.mono (all_any gt _) ?_); rintro _ _ ⟨rfl, rfl⟩; dsimp only)) | (with_reducible refine Keep.last ?_) | (with_reducible refine Keep.below (by assumption) ?_) | (with_reducible refine Keep.kept (by assumption) ?_) | (with_reducible refine Keep.alloc ?_) | (with_reducible refine Keep.same ?_) | ((with_reducible refine WpH.here ?_); first | (refine WpH.nil ?_; refine NoP.normal ?_) | (refine WpH.load (by rfl) (by rfl) (by go_simp; rfl) ?_; simp only [Act.put, List.setIfInBounds_toArray, List.set_cons_zero, List.set_cons_succ]) | (refine WpH.loadT (by rfl) (by rfl) (by go_simp; rfl) (by rintro _ _ ⟨⟩; exact ⟨_, _, _, _, _, _, by rfl, by assumption, by assumption⟩) ?_; simp only [Act.put, List.setIfInBounds_toArray, List.set_cons_zero, List.set_cons_succ]) | (refine WpH.pure (by rfl) (fun w_ => by go_simp; (try go_bits); rfl) ?_; simp only [Act.put, List.setIfInBounds_toArray, List.set_cons_zero, List.set_cons_succ]) | (refine WpH.wild1 (by rfl) (fun _ _ => ?_)) | (refine WpH.skip (by rfl) ?_; simp only [Act.put, List.setIfInBounds_toArray, List.set_cons_zero, List.set_cons_succ])) | ((with_reducible refine WpO.here ?_); first | (refine WpO.done ?_; first | refine NoP.normal ?_ | refine NoO.normal ?_) | (refine WpO.load (by rfl) (by rfl) (by go_simp; rfl) ?_; simp only [Act.put, List.setIfInBounds_toArray, List.set_cons_zero, List.set_cons_succ]) | (refine WpO.loadT (by rfl) (by rfl) (by go_simp; rfl) (by rintro _ _ ⟨⟩; exact ⟨_, _, _, _, _, _, by rfl, by assumption, by assumption⟩) ?_; simp only [Act.put, List.setIfInBounds_toArray, List.set_cons_zero, List.set_cons_succ]) | (refine WpO.pure (by rfl) (fun w_ => by go_simp; (try go_bits); rfl) ?_; simp only [Act.put, List.setIfInBounds_toArray, List.set_cons_zero, List.set_cons_succ]) | (refine WpO.skip (by rfl) ?_; simp only [Act.put, List.setIfInBounds_toArray, List.set_cons_zero, List.set_cons_succ]) | refine WpO.wild ?_ | refine WpO.two ?_ ?_ | refine WpO.three ?_ ?_ ?_) | ((with_reducible refine wildO.here ?_); first | (refine wildO.go (by rfl) (fun _ _ => ?_)) | (refine wildO.skip (by rfl) ?_; simp only [Act.put, List.setIfInBounds_toArray, List.set_cons_zero, List.set_cons_succ])) | go_values | go_skip | go_guarded | go_step | go_upon | go_back)
  refine Stop.go ?_
  obtain ⟨hga, hn, eZ⟩ := boxes2 w3 29 3 #[.pointer (some ⟨gt, 0, none⟩)] #[.int .i64 0]
  have hO3 := ((((hO.drew).step hb1).step hb2).step hb3).step eZ
  have hQZ := hQ3.step eZ
  have hz3 := hbb3.size
  have hz3' : w.heap.size + 1 < w3.heap.size := ((((hO.drew).step hb1).step hb2).step hb3).lt
  generalize (w3.alloc (.cells #[.pointer (some ⟨gt, 0, none⟩)] 29)).alloc (.cells #[.int .i64 0] 3) = Z at *
  have hbZ := bvia hbb3 eZ
  have hnl := hn.lt
  have htZ := hgt.step hbZ
  have hTZ : IsTree Z (fun b => b < w.heap.size) T p := (hT.more (S' := fun b => b < w.heap.size) fun b hl _ => hl).step hbZ
  obtain ⟨nb, hnb⟩ : ∃ nb, nb = w3.heap.size + 1 := ⟨_, rfl⟩
  rw [← hnb] at hn hnl ⊢
  have hnb' : w.heap.size + 1 < nb := by omega
  have hgZ := hga.lt
  have hS0 : SameAt w Z pb nb 0 := ⟨hQZ, hO3, hn, hbZ⟩
  clear q0 p0 p1 p2 hQ hQ1 hQ2 hQ3 hQZ hO hO3 hn hb1 hb2 hb3 hbb1 hbb2 hbb3 HL HW HS HC eZ b2 hnb ql
  refine wp_rangeFunc_block 3 (gf := 74) (lb := #[.pointer (some ⟨w3.heap.size, 0, none⟩)]) rfl (enters_fn Tryd.func74 (by kernel_rfl) rfl)
    (allSeq T p gt w3.heap.size ck (fun b => b < w.heap.size) Z hga htZ hTZ (by omega)) (fun h k => h.trans k) (fun W l o o' hl h hc => KpT.putObj W l o o' hl h hc) (fun _ => rfl)
    (fun (pre : List (El × Nat)) W => SameAt w W pb nb pre.length) (fun W => SameAt w W pb nb T.all.length)
    (fun s A B h hT => ⟨h.p.turn hT (by omega), h.o.turn hT (by omega), h.n.turn hT (by omega), below_turn' h.b hT (by omega) (Nat.le_refl _)⟩)
    (fun _ A B h hT => ⟨h.p.turn hT (by omega), h.o.turn hT (by omega), h.n.turn hT (by omega), below_turn' h.b hT (by omega) (Nat.le_refl _)⟩)
    hS0 ?round ?done ?end_
  case round =>
    rintro ll pre ⟨e, i⟩ W hll ⟨rc, hrc⟩ hS hG
    obtain ⟨hi, he, hlt⟩ := zipIdx_prefix hG
    simp only at hi he
    subst hi
    simp only [elNum, El.agg, putArgs2, List.setIfInBounds_toArray, List.set_cons_zero, List.set_cons_succ]
    repeat' (first | ((with_reducible refine regionIn_ff ?_); refine wpIn_region_r rfl ?_) | (with_reducible refine Keep.last ?_) | (with_reducible refine Keep.below (by assumption) ?_) | (with_reducible refine Keep.kept (by assumption) ?_) | (with_reducible refine Keep.alloc ?_) | (with_reducible refine Keep.same ?_) | ((with_reducible refine WpH.here ?_); first | (refine WpH.nil ?_; refine NoP.normal ?_) | (refine WpH.load (by rfl) (by rfl) (by go_simp; rfl) ?_; simp only [Act.put, List.setIfInBounds_toArray, List.set_cons_zero, List.set_cons_succ]) | (refine WpH.loadT (by rfl) (by rfl) (by go_simp; rfl) (by rintro _ _ ⟨⟩; exact ⟨_, _, _, _, _, _, by rfl, by assumption, by assumption⟩) ?_; simp only [Act.put, List.setIfInBounds_toArray, List.set_cons_zero, List.set_cons_succ]) | (refine WpH.pure (by rfl) (fun w_ => by go_simp; (try go_bits); rfl) ?_; simp only [Act.put, List.setIfInBounds_toArray, List.set_cons_zero, List.set_cons_succ]) | (refine WpH.wild1 (by rfl) (fun _ _ => ?_)) | (refine WpH.skip (by rfl) ?_; simp only [Act.put, List.setIfInBounds_toArray, List.set_cons_zero, List.set_cons_succ])) | ((with_reducible refine WpO.here ?_); first | (refine WpO.done ?_; first | refine NoP.normal ?_ | refine NoO.normal ?_) | (refine WpO.load (by rfl) (by rfl) (by go_simp; rfl) ?_; simp only [Act.put, List.setIfInBounds_toArray, List.set_cons_zero, List.set_cons_succ]) | (refine WpO.loadT (by rfl) (by rfl) (by go_simp; rfl) (by rintro _ _ ⟨⟩; exact ⟨_, _, _, _, _, _, by rfl, by assumption, by assumption⟩) ?_; simp only [Act.put, List.setIfInBounds_toArray, List.set_cons_zero, List.set_cons_succ]) | (refine WpO.pure (by rfl) (fun w_ => by go_simp; (try go_bits); rfl) ?_; simp only [Act.put, List.setIfInBounds_toArray, List.set_cons_zero, List.set_cons_succ]) | (refine WpO.skip (by rfl) ?_; simp only [Act.put, List.setIfInBounds_toArray, List.set_cons_zero, List.set_cons_succ]) | refine WpO.wild ?_ | refine WpO.two ?_ ?_ | refine WpO.three ?_ ?_ ?_) | ((with_reducible refine wildO.here ?_); first | (refine wildO.go (by rfl) (fun _ _ => ?_)) | (refine wildO.skip (by rfl) ?_; simp only [Act.put, List.setIfInBounds_toArray, List.set_cons_zero, List.set_cons_succ])) | go_values | go_skip | go_guarded | go_step | go_upon | go_back | (with_reducible refine NoO.normal ?_) | gi_step | gi_upon)
    have eW : Below W.heap.size W (W.alloc (.cells #[.int .i64 e.epoch, .int .i64 e.rep, .int .i64 e.num, .int .i32 e.char, .int .i64 e.hides] 36)) := (Below.refl _ _).alloc (Nat.le_refl _) _
    refine ⟨KeepN.of_below eW, KpT.of_below eW, fun W2 hB2 => ?_⟩
    have k1 := hB2.blk (hS.p.step eW)
    have k2 := hB2.blk (hS.o.step eW)
    have k3 := hB2.blk (hS.n.step eW)
    have k4 : Below w.heap.size w W2 := below_begun' (hS.b.trans (eW.mono hS.b.size)) hB2 (by omega)
    have hx2 := hB2.blk (Blk.new W 36 #[.int .i64 e.epoch, .int .i64 e.rep, .int .i64 e.num, .int .i32 e.char, .int .i64 e.hides])
    have hG' := hid hG
    clear hG hS eW hB2 hrc
    generalize W.heap.size = xb at *
    generalize hm : pre.length = m at *
    have Hm := hid hm
    clear hm
    have n0 := k3.cell 0
    have nf := k3.frozen 0
    have nl := k3.lt
    have t0 := k1.cell 0
    have tl := k1.lt
    simp at n0 t0
    obtain ⟨x0, x1, x2, x3, x4, xl⟩ := Blk.five hx2
    obtain ⟨p0, p1, p2, pl⟩ := (hp.step k4).three'
    have j2 : ¬ (m : Int) ≥ T.all.length := by omega
    obtain ⟨b, off, e1, rfl, -, he1, c0, c1, c2, c3, c4⟩ := (hr.step k4).at_ hlt
    obtain rfl := Option.some.inj (he1.symm.trans he)
    have hcb := lt_of_cell' c0
    dsimp only at hcb
    clear he he1
    have HX := hid (And.intro k1 (And.intro k2 (And.intro k3 k4)))
    repeat' (first | ((with_reducible refine regionIn_at 10 ?_); refine wpIn_region_ordT (fun _ => True) rfl (.one 0 true false (.one 1 true false (.one 2 true false (.one 3 true false (.one 4 true false (.one 5 true false (.one 6 true false (.one 7 true false (.one 8 true false (.one 9 true false (.one 10 true false (.one 11 true false (.one 12 true false (.one 13 true false (.one 14 true false (.one 15 true false (.one 16 true false (.one 17 true false (.one 18 true false (.one 19 true false (.one 20 true false (.one 21 true false (.one 22 true false .nil))))))))))))))))))))))) (by kernel_rfl) (by kernel_rfl) (by kernel_rfl) rfl rfl ?_) | ((with_reducible refine regionIn_ff ?_); refine wpIn_region_r rfl ?_) | (with_reducible refine Keep.last ?_) | (with_reducible refine Keep.below (by assumption) ?_) | (with_reducible refine Keep.kept (by assumption) ?_) | (with_reducible refine Keep.alloc ?_) | (with_reducible refine Keep.same ?_) | ((with_reducible refine WpH.here ?_); first | (refine WpH.nil ?_; refine NoP.normal ?_) | (refine WpH.load (by rfl) (by rfl) (by go_simp; rfl) ?_; simp only [Act.put, List.setIfInBounds_toArray, List.set_cons_zero, List.set_cons_succ]) | (refine WpH.loadT (by rfl) (by rfl) (by go_simp; rfl) (by rintro _ _ ⟨⟩; exact ⟨_, _, _, _, _, _, by rfl, by assumption, by assumption⟩) ?_; simp only [Act.put, List.setIfInBounds_toArray, List.set_cons_zero, List.set_cons_succ]) | (refine WpH.pure (by rfl) (fun w_ => by go_simp; (try go_bits); rfl) ?_; simp only [Act.put, List.setIfInBounds_toArray, List.set_cons_zero, List.set_cons_succ]) | (refine WpH.wild1 (by rfl) (fun _ _ => ?_)) | (refine WpH.skip (by rfl) ?_; simp only [Act.put, List.setIfInBounds_toArray, List.set_cons_zero, List.set_cons_succ])) | ((with_reducible refine WpO.here ?_); first | (refine WpO.done ?_; first | refine NoP.normal ?_ | refine NoO.normal ?_) | (refine WpO.load (by rfl) (by rfl) (by go_simp; rfl) ?_; simp only [Act.put, List.setIfInBounds_toArray, List.set_cons_zero, List.set_cons_succ]) | (refine WpO.loadT (by rfl) (by rfl) (by go_simp; rfl) (by rintro _ _ ⟨⟩; exact ⟨_, _, _, _, _, _, by rfl, by assumption, by assumption⟩) ?_; simp only [Act.put, List.setIfInBounds_toArray, List.set_cons_zero, List.set_cons_succ]) | (refine WpO.pure (by rfl) (fun w_ => by go_simp; (try go_bits); rfl) ?_; simp only [Act.put, List.setIfInBounds_toArray, List.set_cons_zero, List.set_cons_succ]) | (refine WpO.skip (by rfl) ?_; simp only [Act.put, List.setIfInBounds_toArray, List.set_cons_zero, List.set_cons_succ]) | refine WpO.wild ?_ | refine WpO.two ?_ ?_ | refine WpO.three ?_ ?_ ?_) | ((with_reducible refine wildO.here ?_); first | (refine wildO.go (by rfl) (fun _ _ => ?_)) | (refine wildO.skip (by rfl) ?_; simp only [Act.put, List.setIfInBounds_toArray, List.set_cons_zero, List.set_cons_succ])) | go_values | go_skip | go_guarded | go_step | go_upon | go_back | (with_reducible refine NoO.normal ?_) | gi_step | gi_upon)
    have hd : But2 nb nb W2 (W2.setCell ⟨nb, 0, none⟩ (.int .i64 ((m : Int) + 1))).drew := (But2.setY W2 _).trans (But2.of_below (Below.refl _ _).drew)
    refine ⟨hd.keepN k3 k3, hd.kpT hnl hnl (fun h => by have h' : nb < w.heap.size := h; omega) (fun h => by have h' : nb < w.heap.size := h; omega), (k1.far (p := ⟨nb, 0, none⟩) (by show w.heap.size ≠ nb; omega) _).drew, (k2.far (p := ⟨nb, 0, none⟩) (by show w.heap.size + 1 ≠ nb; omega) _).drew, ?_, (Below.setCell k4 (by show w.heap.size ≤ nb; omega) _).drew⟩
    rw [List.length_append, Hm.out]
    exact (k3.set_ 0 (.int .i64 ((m : Int) + 1))).drew
  case done =>
    rintro xs W rfl hS
    rw [List.length_zipIdx] at hS
    exact hS
  case end_ =>
    rintro D W hD hS hK
    have n0 := hS.n.cell 0
    have nl := hS.n.lt
    have t0 := hS.p.cell 0
    have tl := hS.p.lt
    have o0 := hS.o.cell 0
    have of0 := hS.o.frozen 0
    have ol := hS.o.lt
    simp at n0 t0 o0
    obtain ⟨p0, p1, p2, pl⟩ := (hp.step hS.b).three'
    have hDo : D ≠ w.heap.size + 1 := fun e => by have h2 := hS.o; unfold Blk at h2; rw [← e, hK] at h2; cases h2
    repeat' (first | ((with_reducible refine region_at 13 ?_); refine wp_region_order [(0, true, false), (1, true, false), (2, true, false), (3, true, false), (4, true, false), (5, true, false), (6, true, false), (7, false, true)] (by kernel_rfl) (by kernel_rfl) (by kernel_rfl) rfl rfl ?_) | (with_reducible refine Keep.last ?_) | (with_reducible refine Keep.below (by assumption) ?_) | (with_reducible refine Keep.kept (by assumption) ?_) | (with_reducible refine Keep.alloc ?_) | (with_reducible refine Keep.same ?_) | ((with_reducible refine WpH.here ?_); first | (refine WpH.nil ?_; refine NoP.normal ?_) | (refine WpH.load (by rfl) (by rfl) (by go_simp; rfl) ?_; simp only [Act.put, List.setIfInBounds_toArray, List.set_cons_zero, List.set_cons_succ]) | (refine WpH.loadT (by rfl) (by rfl) (by go_simp; rfl) (by rintro _ _ ⟨⟩; exact ⟨_, _, _, _, _, _, by rfl, by assumption, by assumption⟩) ?_; simp only [Act.put, List.setIfInBounds_toArray, List.set_cons_zero, List.set_cons_succ]) | (refine WpH.pure (by rfl) (fun w_ => by go_simp; (try go_bits); rfl) ?_; simp only [Act.put, List.setIfInBounds_toArray, List.set_cons_zero, List.set_cons_succ]) | (refine WpH.wild1 (by rfl) (fun _ _ => ?_)) | (refine WpH.skip (by rfl) ?_; simp only [Act.put, List.setIfInBounds_toArray, List.set_cons_zero, List.set_cons_succ])) | ((with_reducible refine WpO.here ?_); first | (refine WpO.done ?_; first | refine NoP.normal ?_ | refine NoO.normal ?_) | (refine WpO.load (by rfl) (by rfl) (by go_simp; rfl) ?_; simp only [Act.put, List.setIfInBounds_toArray, List.set_cons_zero, List.set_cons_succ]) | (refine WpO.loadT (by rfl) (by rfl) (by go_simp; rfl) (by rintro _ _ ⟨⟩; exact ⟨_, _, _, _, _, _, by rfl, by assumption, by assumption⟩) ?_; simp only [Act.put, List.setIfInBounds_toArray, List.set_cons_zero, List.set_cons_succ]) | (refine WpO.pure (by rfl) (fun w_ => by go_simp; (try go_bits); rfl) ?_; simp only [Act.put, List.setIfInBounds_toArray, List.set_cons_zero, List.set_cons_succ]) | (refine WpO.skip (by rfl) ?_; simp only [Act.put, List.setIfInBounds_toArray, List.set_cons_zero, List.set_cons_succ]) | refine WpO.wild ?_ | refine WpO.two ?_ ?_ | refine WpO.three ?_ ?_ ?_) | ((with_reducible refine wildO.here ?_); first | (refine wildO.go (by rfl) (fun _ _ => ?_)) | (refine wildO.skip (by rfl) ?_; simp only [Act.put, List.setIfInBounds_toArray, List.set_cons_zero, List.set_cons_succ])) | go_values | go_skip | go_guarded | go_step | go_upon | go_back)
    have hO9 := (hS.o.set_ 0 (.bool true)).drew
    have hsA : (W.setCell ⟨w.heap.size + 1, 0, none⟩ (.bool true)).drew.heap[D]? = some (.deferred (some [])) := (Below.heap_setCell W ⟨w.heap.size + 1, 0, none⟩ (.bool true) D hDo).trans hK
    refine leaves1 (v := .bool true) hsA ?_ ⟨rfl, ?_⟩
    · rintro w' rfl
      have c9 : ((W.setCell ⟨w.heap.size + 1, 0, none⟩ (.bool true)).drew.putObj D (.deferred none)).cell? ⟨w.heap.size + 1, 0, none⟩ = some (.bool true) :=
        (World.cell?_of_block (World.putObj_heap_other (Ne.symm hDo))).trans (hO9.cell 0)
      simp [results, Tryd.results63, go_sem, c9]
    · have q1 := (Below.setCell hS.b (p := ⟨w.heap.size + 1, 0, none⟩) (Nat.le_succ _) (.bool true)).drew
      have hzZ := hbZ.size
      exact ⟨q1.os, q1.tape, q1.output, by simpa using q1.size, fun k hk => (World.putObj_heap_other (by omega)).trans (q1.block k hk)⟩
end Go.Proofs.YtogkbddniacgiaaDoor
