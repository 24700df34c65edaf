/- A tree beside its plain list: Set by both: the walks. Conditions: both lie in memory, fewer than 601 elements; the reasons lie in memory. -/
import Derived.Test.YtogkbddniacgiaaDoorExact1
import Derived.Test.YtogkbddniacgiaaDoorTree14
namespace Go.Proofs.YtogkbddniacgiaaDoor
set_option linter.unusedSimpArgs false
set_option linter.unusedVariables false
open Go Go.RowKit
variable {a : Nat → Addr}
theorem Blk.set5 {w : World} {g : Nat} {t : TypeId} {x y z u v : Value} (h : Blk w g t #[x, y, z, u, v]) (x' y' z' u' v' : Value) : Blk (((((w.setCell ⟨g, 0, none⟩ x').setCell ⟨g, 1, none⟩ y').setCell ⟨g, 2, none⟩ z').setCell ⟨g, 3, none⟩ u').setCell ⟨g, 4, none⟩ v') g t #[x', y', z', u', v'] := by
  simpa using ((((h.set_ 0 x').set_ 1 y').set_ 2 z').set_ 3 u').set_ 4 v'
theorem first_at {w : World} {S : Nat → Prop} {A : Option Addr} {n c : Nat} {es : List El} (h : Row w S A n c es) (hn : 0 < n) : ∃ b off e, A = some ⟨b, off, none⟩ ∧ S b ∧ es[0]? = some e ∧
    w.cell? ⟨b, off, none⟩ = some (.int .i64 e.epoch) ∧ w.cell? ⟨b, off + 1, none⟩ = some (.int .i64 e.rep) ∧ w.cell? ⟨b, off + 2, none⟩ = some (.int .i64 e.num) ∧ w.cell? ⟨b, off + 3, none⟩ = some (.int .i32 e.char) ∧ w.cell? ⟨b, off + 4, none⟩ = some (.int .i64 e.hides) := by
  obtain ⟨b, off, e, h1, h2, h3, h4, h5, h6, h7, h8⟩ := h.at_ hn
  simp only [Nat.zero_mul, Nat.add_zero] at h4 h5 h6 h7 h8
  exact ⟨b, off, e, h1, h2, h3, h4, h5, h6, h7, h8⟩
/-- the element that Set lays in: the first of the list, or none -/
def firstOf (ls : List El) : El := ls[0]?.getD ⟨0, 0, 0, 0, 0⟩
set_option maxRecDepth 100000 in
set_option maxHeartbeats 4000000 in
theorem chgSet (w : World) (pb gt ck base : Nat) (T : Tr) (do_ n : Int) (i : Nat) (B : Option Addr) (m d : Nat) (ls : List El) (hls : Row w (fun b => b < base) B m d ls) (h : PairAt w pb gt ck T base) (hd : do_ % 8 = 2) (hl : T.all.length ≤ 600) (hi : i < T.all.length) (hb : base ≤ w.heap.size) (hc2 : 2 ≤ ck) (hc64 : ck ≤ 64) :
    Calls Tryd.prog 38 #[.pointer (some ⟨pb, 0, none⟩), .agg #[.int .i64 do_, .int .i64 i, .int .i64 n, .slice B m d]] w (ChgRet pb gt ck base T (fun T' => T'.all = T.all.set i (firstOf ls)) w) := by
  have hmx := hls.len_le
  unfold maxLen at hmx
  have hmd := hls.2.1
  have hlsl := hls.1
  obtain ⟨x, hxf⟩ : ∃ x, x = firstOf ls := ⟨_, rfl⟩
  by_cases hm : 0 < m
  · obtain ⟨fb, foff, fe, rfl, hfb, hfe, c0, c1, c2, c3, c4⟩ := first_at hls hm
    obtain rfl : x = fe := by rw [hxf]; unfold firstOf; rw [hfe]; rfl
    have Hf := hid (And.intro c0 (And.intro c1 (And.intro c2 (And.intro c3 c4))))
    have hfbl := lt_of_cell' c0
    dsimp only at hfbl
    have Hxf := hid hxf
    clear c0 c1 c2 c3 c4 hfe hxf
    generalize hB : (some ⟨fb, foff, none⟩ : Option Addr) = B at *
    obtain ⟨⟨hlp, hlg⟩, ⟨A, c, hp, hr⟩, p, hg, hT⟩ := h
    have b1 : Below w.heap.size w (w.alloc (.cells #[.int .i64 do_, .int .i64 i, .int .i64 n, .slice B m d] 76)) := balloc (Below.refl _ _)
    have hx1 := Blk.new w 76 #[.int .i64 do_, .int .i64 i, .int .i64 n, .slice B m d]
    have hp1 := hp.step b1
    have HW := hid (fun W => within_any do_ 8 (by decide) (by decide) W)
    rw [hd] at HW
    have hgl := hg.lt
    have hpl := hp.lt
    have hpg : pb ≠ gt := hp.ne hg (by decide)
    have Hpg := hid (And.intro hg (And.intro hT hr))
    clear hg hT hr hd hls
    go_enter Tryd.func38, Tryd.ntmps38
    repeat' (first | (with_reducible refine stop_region 1 ?_) | (with_reducible refine Keep.last ?_) | (with_reducible refine Keep.below (by assumption) ?_) | (with_reducible refine Keep.kept (by assumption) ?_) | (with_reducible refine Keep.alloc ?_) | (with_reducible refine Keep.same ?_) | ((with_reducible refine WpH.here ?_); first | (refine WpH.nil ?_; refine NoP.normal ?_) | (refine WpH.load (by rfl) (by rfl) (by go_simp; rfl) ?_; simp only [Act.put, List.setIfInBounds_toArray, List.set_cons_zero, List.set_cons_succ]) | (refine WpH.loadT (by rfl) (by rfl) (by go_simp; rfl) (by rintro _ _ ⟨⟩; exact ⟨_, _, _, _, _, _, by rfl, by assumption, by assumption⟩) ?_; simp only [Act.put, List.setIfInBounds_toArray, List.set_cons_zero, List.set_cons_succ]) | (refine WpH.pure (by rfl) (fun w_ => by go_simp; (try go_bits); rfl) ?_; simp only [Act.put, List.setIfInBounds_toArray, List.set_cons_zero, List.set_cons_succ]) | (refine WpH.wild1 (by rfl) (fun _ _ => ?_)) | (refine WpH.skip (by rfl) ?_; simp only [Act.put, List.setIfInBounds_toArray, List.set_cons_zero, List.set_cons_succ])) | go_values | go_skip | go_guarded | go_step | go_upon | go_back)
    refine Stop.go ?_
    have hs1 : (w.alloc (.cells #[.int .i64 do_, .int .i64 i, .int .i64 n, .slice B m d] 76)).heap.size = w.heap.size + 1 := box_sz _ _
    generalize w.alloc (.cells #[.int .i64 do_, .int .i64 i, .int .i64 n, .slice B m d] 76) = W1 at *
    obtain ⟨p0, p1, p2, pl⟩ := hp1.three'
    obtain ⟨x0, x1, x2, x3, -, -, -, -, xl⟩ := hx1.four
    repeat' (first | (with_reducible refine stop_region 22 ?_) | (go_at_call 23; go_must ((with_reducible refine Calls.mono (HW.out _) ?_); rintro _ _ ⟨rfl, rfl⟩; dsimp only)) | (with_reducible refine Keep.last ?_) | (with_reducible refine Keep.below (by assumption) ?_) | (with_reducible refine Keep.kept (by assumption) ?_) | (with_reducible refine Keep.alloc ?_) | (with_reducible refine Keep.same ?_) | ((with_reducible refine WpH.here ?_); first | (refine WpH.nil ?_; refine NoP.normal ?_) | (refine WpH.load (by rfl) (by rfl) (by go_simp; rfl) ?_; simp only [Act.put, List.setIfInBounds_toArray, List.set_cons_zero, List.set_cons_succ]) | (refine WpH.loadT (by rfl) (by rfl) (by go_simp; rfl) (by rintro _ _ ⟨⟩; exact ⟨_, _, _, _, _, _, by rfl, by assumption, by assumption⟩) ?_; simp only [Act.put, List.setIfInBounds_toArray, List.set_cons_zero, List.set_cons_succ]) | (refine WpH.pure (by rfl) (fun w_ => by go_simp; (try go_bits); rfl) ?_; simp only [Act.put, List.setIfInBounds_toArray, List.set_cons_zero, List.set_cons_succ]) | (refine WpH.wild1 (by rfl) (fun _ _ => ?_)) | (refine WpH.skip (by rfl) ?_; simp only [Act.put, List.setIfInBounds_toArray, List.set_cons_zero, List.set_cons_succ])) | go_values | go_skip | go_guarded | go_step | go_upon | go_back)
    refine Stop.go ?_
    have eX := balloc (o := .cells #[.int .i64 0, .int .i64 0, .int .i64 0, .int .i32 0, .int .i64 0] 36) (Below.refl _ W1)
    have hE := Blk.new W1 36 #[.int .i64 0, .int .i64 0, .int .i64 0, .int .i32 0, .int .i64 0]
    have hp2 := hp1.step eX
    have hx2 := hx1.step eX
    have hb2 := bvia b1 eX
    generalize W1.alloc (.cells #[.int .i64 0, .int .i64 0, .int .i64 0, .int .i32 0, .int .i64 0] 36) = W2 at *
    obtain ⟨eb, heb⟩ : ∃ eb, eb = w.heap.size + 1 := ⟨_, rfl⟩
    rw [hs1, ← heb] at hE
    rw [← heb]
    have hebw : w.heap.size < eb := by omega
    clear p0 p1 p2 x0 x1 x2 x3 b1 hp1 hx1 eX heb hs1
    obtain ⟨p0, p1, p2, pl⟩ := hp2.three'
    obtain ⟨x0, x1, x2, x3, -, -, -, -, xl⟩ := hx2.four
    subst hB
    have c0 := kc hb2 Hf.out.1
    have c1 := kc hb2 Hf.out.2.1
    have c2 := kc hb2 Hf.out.2.2.1
    have c3 := kc hb2 Hf.out.2.2.2.1
    have c4 := kc hb2 Hf.out.2.2.2.2
    have hcb : fb < W2.heap.size := Nat.lt_of_lt_of_le hfbl hb2.size
    obtain ⟨e0, e1, e2, e3, e4, el⟩ := hE.five
    have f0 := hE.frozen 0
    have f1 := hE.frozen 1
    have f2 := hE.frozen 2
    have f3 := hE.frozen 3
    have f4 := hE.frozen 4
    repeat' (first | (with_reducible refine stop_region 24 ?_) | (with_reducible refine Keep.last ?_) | (with_reducible refine Keep.below (by assumption) ?_) | (with_reducible refine Keep.kept (by assumption) ?_) | (with_reducible refine Keep.alloc ?_) | (with_reducible refine Keep.same ?_) | ((with_reducible refine WpH.here ?_); first | (refine WpH.nil ?_; refine NoP.normal ?_) | (refine WpH.load (by rfl) (by rfl) (by go_simp; rfl) ?_; simp only [Act.put, List.setIfInBounds_toArray, List.set_cons_zero, List.set_cons_succ]) | (refine WpH.loadT (by rfl) (by rfl) (by go_simp; rfl) (by rintro _ _ ⟨⟩; exact ⟨_, _, _, _, _, _, by rfl, by assumption, by assumption⟩) ?_; simp only [Act.put, List.setIfInBounds_toArray, List.set_cons_zero, List.set_cons_succ]) | (refine WpH.pure (by rfl) (fun w_ => by go_simp; (try go_bits); rfl) ?_; simp only [Act.put, List.setIfInBounds_toArray, List.set_cons_zero, List.set_cons_succ]) | (refine WpH.wild1 (by rfl) (fun _ _ => ?_)) | (refine WpH.skip (by rfl) ?_; simp only [Act.put, List.setIfInBounds_toArray, List.set_cons_zero, List.set_cons_succ])) | go_values | go_skip | go_guarded | go_step | go_upon | go_back)
    refine Stop.go ?_
    have hpZ := ((((hp2.far (p := ⟨eb, 0, none⟩) (by show pb ≠ eb; omega) (.int .i64 x.epoch)).far (p := ⟨eb, 1, none⟩) (by show pb ≠ eb; omega) (.int .i64 x.rep)).far (p := ⟨eb, 2, none⟩) (by show pb ≠ eb; omega) (.int .i64 x.num)).far (p := ⟨eb, 3, none⟩) (by show pb ≠ eb; omega) (.int .i32 x.char)).far (p := ⟨eb, 4, none⟩) (by show pb ≠ eb; omega) (.int .i64 x.hides)
    have hxZ := ((((hx2.far (p := ⟨eb, 0, none⟩) (by show w.heap.size ≠ eb; omega) (.int .i64 x.epoch)).far (p := ⟨eb, 1, none⟩) (by show w.heap.size ≠ eb; omega) (.int .i64 x.rep)).far (p := ⟨eb, 2, none⟩) (by show w.heap.size ≠ eb; omega) (.int .i64 x.num)).far (p := ⟨eb, 3, none⟩) (by show w.heap.size ≠ eb; omega) (.int .i32 x.char)).far (p := ⟨eb, 4, none⟩) (by show w.heap.size ≠ eb; omega) (.int .i64 x.hides)
    have hEZ := hE.set5 (.int .i64 x.epoch) (.int .i64 x.rep) (.int .i64 x.num) (.int .i32 x.char) (.int .i64 x.hides)
    have hbY : Below w.heap.size w (((((W2.setCell ⟨eb, 0, none⟩ (.int .i64 x.epoch)).setCell ⟨eb, 1, none⟩ (.int .i64 x.rep)).setCell ⟨eb, 2, none⟩ (.int .i64 x.num)).setCell ⟨eb, 3, none⟩ (.int .i32 x.char)).setCell ⟨eb, 4, none⟩ (.int .i64 x.hides)) := bset (bset (bset (bset (bset hb2 (by show w.heap.size ≤ eb; omega)) (by show w.heap.size ≤ eb; omega)) (by show w.heap.size ≤ eb; omega)) (by show w.heap.size ≤ eb; omega)) (by show w.heap.size ≤ eb; omega)
    clear hp2 hx2 hE hb2 c0 c1 c2 c3 c4 e0 e1 e2 e3 e4 f0 f1 f2 f3 f4 p0 p1 p2 x0 x1 x2 x3
    generalize ((((W2.setCell ⟨eb, 0, none⟩ (.int .i64 x.epoch)).setCell ⟨eb, 1, none⟩ (.int .i64 x.rep)).setCell ⟨eb, 2, none⟩ (.int .i64 x.num)).setCell ⟨eb, 3, none⟩ (.int .i32 x.char)).setCell ⟨eb, 4, none⟩ (.int .i64 x.hides) = Y at *
    generalize (some ⟨fb, foff, none⟩ : Option Addr) = B at *
    have hpY := hpZ
    have nx : w.heap.size ≠ gt := by omega
    have ne : eb ≠ gt := by omega
    have HS := hid (tset_ok T p gt ck i x (fun b => (base ≤ b ∧ b ≠ gt ∧ b ≠ pb) ∧ b < w.heap.size) Y.drew (Hpg.out.1.step hbY).drew (((Hpg.out.2.1.more (S' := fun b => (base ≤ b ∧ b ≠ gt ∧ b ≠ pb) ∧ b < w.heap.size) fun b h1 h2 => ⟨h2, h1⟩).step hbY).drew) (fun h => h.1.2.1 rfl) (by omega) hi)
    have hrY := ((Hpg.out.2.2.more (S' := fun b => (base ≤ b ∧ b ≠ gt ∧ b ≠ pb) ∧ b < w.heap.size) fun b h1 h2 => ⟨h2, h1⟩).step hbY).drew
    obtain ⟨p0, p1, p2, pl⟩ := hpY.three'
    obtain ⟨x0, x1, x2, x3, -, -, -, -, xl⟩ := hxZ.four
    obtain ⟨e0, e1, e2, e3, e4, el⟩ := hEZ.five
    have qp : Y.drew.heap[pb]? = some (.cells #[.pointer (some ⟨gt, 0, none⟩), .slice A T.all.length c, .int .i64 ck] 31 (0, 0)) := hpY
    have qx : Y.drew.heap[w.heap.size]? = some (.cells #[.int .i64 do_, .int .i64 i, .int .i64 n, .slice B m d] 76 (0, 0)) := hxZ
    have qe : Y.drew.heap[eb]? = some (.cells #[.int .i64 x.epoch, .int .i64 x.rep, .int .i64 x.num, .int .i32 x.char, .int .i64 x.hides] 36 (0, 0)) := hEZ
    have HN := hid (fun W => no_none ({ data := #[83, 101, 116] } : ByteArray) i W)
    have HF := hid refused_none
    unfold noNone at HN HF
    have hi1 : ¬ (i : Int) < 0 := by omega
    have hi2 : ¬ (i : Int) ≥ T.all.length := by omega
    repeat' (first | (with_reducible refine stop_region 25 ?_) | ((with_reducible refine region_at 24 ?_); refine wp_region_orderT (fun b => b ≠ gt) [(0, true, false), (1, true, false), (2, true, false), (3, true, false), (4, true, false), (5, true, false), (6, true, false), (7, false, false), (8, true, false)] (by kernel_rfl) (by kernel_rfl) (by kernel_rfl) rfl rfl ?_) | (go_at_call 90; go_must ((with_reducible refine Calls.mono HS.out ?_); rintro _ w5 ⟨p5, T5, rfl, hT5, hg5, hq5, hB5⟩; have hk5 : KeepT (fun b => b ≠ gt) _ w5 := ⟨hB5.size, fun b hl hb => hB5.block b hl hb⟩; have H5 := hid (And.intro hT5 (And.intro hg5 (And.intro hq5 hB5))); clear hT5 hg5 hq5 hB5; dsimp only)) | (with_reducible refine Keep.last ?_) | (with_reducible refine Keep.below (by assumption) ?_) | (with_reducible refine Keep.kept (by assumption) ?_) | (with_reducible refine Keep.alloc ?_) | (with_reducible refine Keep.same ?_) | ((with_reducible refine WpH.here ?_); first | (refine WpH.nil ?_; refine NoP.normal ?_) | (refine WpH.load (by rfl) (by rfl) (by go_simp; rfl) ?_; simp only [Act.put, List.setIfInBounds_toArray, List.set_cons_zero, List.set_cons_succ]) | (refine WpH.loadT (by rfl) (by rfl) (by go_simp; rfl) (by rintro _ _ ⟨⟩; exact ⟨_, _, _, _, _, _, by rfl, by assumption, by assumption⟩) ?_; simp only [Act.put, List.setIfInBounds_toArray, List.set_cons_zero, List.set_cons_succ]) | (refine WpH.pure (by rfl) (fun w_ => by go_simp; (try go_bits); rfl) ?_; simp only [Act.put, List.setIfInBounds_toArray, List.set_cons_zero, List.set_cons_succ]) | (refine WpH.wild1 (by rfl) (fun _ _ => ?_)) | (refine WpH.skip (by rfl) ?_; simp only [Act.put, List.setIfInBounds_toArray, List.set_cons_zero, List.set_cons_succ])) | go_values | go_skip | go_guarded | go_step | go_upon | go_back)
    refine Stop.go ?_
    clear p0 p1 p2 x0 x1 x2 x3 e0 e1 e2 e3 e4 qp qx qe
    have hB5 := H5.out.2.2.2
    have hp5 := hB5.blk hpY.drew hpg
    have hx5 := hB5.blk hxZ.drew nx
    have he5 := hB5.blk hEZ.drew ne
    have hr5 := hrY.keep (hB5.same.sub (S' := fun b => (base ≤ b ∧ b ≠ gt ∧ b ≠ pb) ∧ b < w.heap.size) fun b hb => hb.1.2.1)
    have hzY := hbY.size
    have hz5 : Y.heap.size ≤ w5.heap.size := hB5.size
    have HC := hid (refCopy_any A T.all.length c T.all _ w5 hr5 (by omega))
    obtain ⟨p0, p1, p2, pl⟩ := hp5.three'
    have pf1 := hp5.frozen 1
    obtain ⟨x0, x1, x2, x3, -, -, -, -, xl⟩ := hx5.four
    repeat' (first | (with_reducible refine stop_region 28 ?_) | (go_at_call 91; go_must ((with_reducible refine Calls.mono HC.out ?_); rintro _ w6 ⟨A6, c6, rfl, ho6, hb6⟩; have hp6 := hp5.step hb6; obtain ⟨p0, p1, p2, pl⟩ := hp6.three'; have pf1 := hp6.frozen 1; dsimp only)) | (with_reducible refine Keep.last ?_) | (with_reducible refine Keep.below (by assumption) ?_) | (with_reducible refine Keep.kept (by assumption) ?_) | (with_reducible refine Keep.alloc ?_) | (with_reducible refine Keep.same ?_) | ((with_reducible refine WpH.here ?_); first | (refine WpH.nil ?_; refine NoP.normal ?_) | (refine WpH.load (by rfl) (by rfl) (by go_simp; rfl) ?_; simp only [Act.put, List.setIfInBounds_toArray, List.set_cons_zero, List.set_cons_succ]) | (refine WpH.loadT (by rfl) (by rfl) (by go_simp; rfl) (by rintro _ _ ⟨⟩; exact ⟨_, _, _, _, _, _, by rfl, by assumption, by assumption⟩) ?_; simp only [Act.put, List.setIfInBounds_toArray, List.set_cons_zero, List.set_cons_succ]) | (refine WpH.pure (by rfl) (fun w_ => by go_simp; (try go_bits); rfl) ?_; simp only [Act.put, List.setIfInBounds_toArray, List.set_cons_zero, List.set_cons_succ]) | (refine WpH.wild1 (by rfl) (fun _ _ => ?_)) | (refine WpH.skip (by rfl) ?_; simp only [Act.put, List.setIfInBounds_toArray, List.set_cons_zero, List.set_cons_succ])) | go_values | go_skip | go_guarded | go_step | go_upon | go_back)
    refine Stop.go ?_
    clear p0 p1 p2 x0 x1 x2 x3 pf1
    have hz6 : w5.heap.size ≤ w6.heap.size := hb6.size
    obtain ⟨g6, rfl, hg6⟩ : ∃ g6, A6 = some ⟨g6, 0, none⟩ ∧ w5.heap.size ≤ g6 := by
      obtain ⟨g6, _, e, hb, _⟩ := own_at ho6 (by omega)
      exact ⟨g6, e, hb⟩
    have hp7 := hp6.set_ 1 (.slice (some ⟨g6, 0, none⟩) T.all.length c6)
    have hx7 := (hx5.step hb6).far (p := ⟨pb, 1, none⟩) (by show w.heap.size ≠ pb; omega) (.slice (some ⟨g6, 0, none⟩) T.all.length c6)
    have he7 := (he5.step hb6).far (p := ⟨pb, 1, none⟩) (by show eb ≠ pb; omega) (.slice (some ⟨g6, 0, none⟩) T.all.length c6)
    have ho7 := ho6.keep (S := fun b => b ≠ pb) (Same.setCell (p := ⟨pb, 1, none⟩) w6 (fun h => h rfl) (.slice (some ⟨g6, 0, none⟩) T.all.length c6)) (fun a ha e => by injection ha with ha; subst ha; have e' : g6 = pb := e; omega)
    have hg7 := (H5.out.2.1.step hb6).far (p := ⟨pb, 1, none⟩) (Ne.symm hpg) (.slice (some ⟨g6, 0, none⟩) T.all.length c6)
    have hT7 := (((H5.out.1.more (S' := fun b => (base ≤ b ∧ b ≠ gt ∧ b ≠ pb) ∧ b ≠ g6) fun b hl h => by
      rcases h with h | h
      · exact ⟨h.1, by omega⟩
      · have h' : Y.heap.size ≤ b := h
        exact ⟨by omega, by omega⟩).step hb6).keep (Same.setCell _ (p := ⟨pb, 1, none⟩) (fun h => h.1.2.2 rfl) (.slice (some ⟨g6, 0, none⟩) T.all.length c6)))
    have hb5 : Below base w w5 := (hbY.mono hb).trans ⟨hB5.os, hB5.tape, hB5.output, hB5.size, fun b hb' => hB5.block b (by show b < Y.heap.size; omega) (by omega)⟩
    have hb7 : Below base w (w6.setCell ⟨pb, 1, none⟩ (.slice (some ⟨g6, 0, none⟩) T.all.length c6)) := Below.setCell (hb5.trans (hb6.mono (by omega))) hlp _
    have hlT := congrArg List.length H5.out.2.2.1.1
    rw [List.length_set] at hlT
    have Hq := hid H5.out.2.2.1
    clear H5 hp5 hx5 he5 hr5 hp6 hb6 ho6 hB5 hrY HC hpZ hxZ hEZ hbY
    generalize w6.setCell ⟨pb, 1, none⟩ (.slice (some ⟨g6, 0, none⟩) T.all.length c6) = W7 at *
    obtain ⟨p0, p1, p2, pl⟩ := Blk.three' hp7
    obtain ⟨x0, x1, x2, x3, -, -, -, -, xl⟩ := Blk.four hx7
    obtain ⟨e0, e1, e2, e3, e4, el⟩ := Blk.five he7
    obtain ⟨g', off, y, hge, -, hye, d0, d1, d2, d3, d4⟩ := (ho7.row (S := fun _ => True) fun _ _ _ => trivial).at_ hi
    obtain ⟨rfl, rfl⟩ : g' = g6 ∧ off = 0 := by injection hge with h; injection h with h1 h2; exact ⟨h1.symm, h2.symm⟩
    simp only [Nat.zero_add] at d0 d1 d2 d3 d4
    obtain ⟨g'', cur, e1', -, hcur, -, -, -⟩ := own_at ho7 (by omega)
    obtain rfl : g'' = g' := by injection e1' with h; injection h with h1 h2; exact h1.symm
    have fr0 := hcur.frozen (i * 5)
    have fr1 := hcur.frozen (i * 5 + 1)
    have fr2 := hcur.frozen (i * 5 + 2)
    have fr3 := hcur.frozen (i * 5 + 3)
    have fr4 := hcur.frozen (i * 5 + 4)
    have hcl := hcur.lt
    clear hye hcur hge e1'
    repeat' (first | (with_reducible refine stop_region 29 ?_) | ((with_reducible refine region_at 28 ?_); refine wp_region_order [(0, true, false), (1, true, false), (2, true, false), (3, true, false), (4, true, false), (5, true, false), (6, true, false), (7, true, false), (8, false, true)] (by kernel_rfl) (by kernel_rfl) (by kernel_rfl) rfl rfl ?_) | (with_reducible refine Keep.last ?_) | (with_reducible refine Keep.below (by assumption) ?_) | (with_reducible refine Keep.kept (by assumption) ?_) | (with_reducible refine Keep.alloc ?_) | (with_reducible refine Keep.same ?_) | ((with_reducible refine WpH.here ?_); first | (refine WpH.nil ?_; refine NoP.normal ?_) | (refine WpH.load (by rfl) (by rfl) (by go_simp; rfl) ?_; simp only [Act.put, List.setIfInBounds_toArray, List.set_cons_zero, List.set_cons_succ]) | (refine WpH.loadT (by rfl) (by rfl) (by go_simp; rfl) (by rintro _ _ ⟨⟩; exact ⟨_, _, _, _, _, _, by rfl, by assumption, by assumption⟩) ?_; simp only [Act.put, List.setIfInBounds_toArray, List.set_cons_zero, List.set_cons_succ]) | (refine WpH.pure (by rfl) (fun w_ => by go_simp; (try go_bits); rfl) ?_; simp only [Act.put, List.setIfInBounds_toArray, List.set_cons_zero, List.set_cons_succ]) | (refine WpH.wild1 (by rfl) (fun _ _ => ?_)) | (refine WpH.skip (by rfl) ?_; simp only [Act.put, List.setIfInBounds_toArray, List.set_cons_zero, List.set_cons_succ])) | go_values | go_skip | go_guarded | go_step | go_upon | go_back)
    skip
    refine Stop.go ?_
    have ho8 := (ho7.set5 x hi).drw
    have sm : Same (fun b => b ≠ g'') W7 (((((W7.setCell ⟨g'', i * 5, none⟩ (.int .i64 x.epoch)).setCell ⟨g'', i * 5 + 1, none⟩ (.int .i64 x.rep)).setCell ⟨g'', i * 5 + 2, none⟩ (.int .i64 x.num)).setCell ⟨g'', i * 5 + 3, none⟩ (.int .i32 x.char)).setCell ⟨g'', i * 5 + 4, none⟩ (.int .i64 x.hides)) :=
      ((((Same.setCell _ (p := ⟨g'', i * 5, none⟩) (fun h => h rfl) _).trans (by simp [World.setCell]) (Same.setCell _ (p := ⟨g'', i * 5 + 1, none⟩) (fun h => h rfl) _)).trans (by simp [World.setCell]) (Same.setCell _ (p := ⟨g'', i * 5 + 2, none⟩) (fun h => h rfl) _)).trans (by simp [World.setCell]) (Same.setCell _ (p := ⟨g'', i * 5 + 3, none⟩) (fun h => h rfl) _)).trans (by simp [World.setCell]) (Same.setCell _ (p := ⟨g'', i * 5 + 4, none⟩) (fun h => h rfl) _)
    have hp8 := (hp7.keepS sm (by show pb ≠ g''; omega)).drew
    have hg8 := (hg7.keepS sm (by show gt ≠ g''; omega)).drew
    have hx8 := (hx7.keepS sm (by show w.heap.size ≠ g''; omega)).drew
    have hT8 := ((hT7.keep (sm.sub fun b h => h.2)).drew).more (S' := fun b => base ≤ b ∧ b ≠ gt ∧ b ≠ pb) fun b _ h => h.1
    have hb8 : Below base w (((((W7.setCell ⟨g'', i * 5, none⟩ (.int .i64 x.epoch)).setCell ⟨g'', i * 5 + 1, none⟩ (.int .i64 x.rep)).setCell ⟨g'', i * 5 + 2, none⟩ (.int .i64 x.num)).setCell ⟨g'', i * 5 + 3, none⟩ (.int .i32 x.char)).setCell ⟨g'', i * 5 + 4, none⟩ (.int .i64 x.hides)).drew := Below.drew <|
      Below.setCell (Below.setCell (Below.setCell (Below.setCell (Below.setCell hb7 (by show base ≤ g''; omega) _) (by show base ≤ g''; omega) _) (by show base ≤ g''; omega) _) (by show base ≤ g''; omega) _) (by show base ≤ g''; omega) _
    clear p0 p1 p2 x0 x1 x2 x3 e0 e1 e2 e3 e4 d0 d1 d2 d3 d4 fr0 fr1 fr2 fr3 fr4 hp7 hx7 he7 ho7 hg7 hT7 hb7 sm
    generalize (((((W7.setCell ⟨g'', i * 5, none⟩ (.int .i64 x.epoch)).setCell ⟨g'', i * 5 + 1, none⟩ (.int .i64 x.rep)).setCell ⟨g'', i * 5 + 2, none⟩ (.int .i64 x.num)).setCell ⟨g'', i * 5 + 3, none⟩ (.int .i32 x.char)).setCell ⟨g'', i * 5 + 4, none⟩ (.int .i64 x.hides)).drew = W8 at *
    have hr8 : Row W8 (fun b => base ≤ b ∧ b ≠ gt ∧ b ≠ pb) (some ⟨g'', 0, none⟩) T5.all.length c6 T5.all := by
      have h := ho8.row (S := fun b => base ≤ b ∧ b ≠ gt ∧ b ≠ pb) (fun b h1 h2 => by have h1' : w5.heap.size ≤ b := h1; omega)
      rw [hlT, Hq.out.1]
      exact h
    obtain ⟨x0, x1, x2, x3, -, -, -, -, xl⟩ := Blk.four hx8
    repeat' (first | (go_at_call 89; go_must ((with_reducible refine Calls.mono (HN.out _) ?_); rintro _ w8 ⟨rfl, hb9⟩; dsimp only)) | (go_at_call 28; go_must ((with_reducible refine Calls.mono (HF.out _) ?_); rintro _ w9 ⟨rfl, hb10⟩; dsimp only)) | (with_reducible refine Keep.last ?_) | (with_reducible refine Keep.below (by assumption) ?_) | (with_reducible refine Keep.kept (by assumption) ?_) | (with_reducible refine Keep.alloc ?_) | (with_reducible refine Keep.same ?_) | ((with_reducible refine WpH.here ?_); first | (refine WpH.nil ?_; refine NoP.normal ?_) | (refine WpH.load (by rfl) (by rfl) (by go_simp; rfl) ?_; simp only [Act.put, List.setIfInBounds_toArray, List.set_cons_zero, List.set_cons_succ]) | (refine WpH.loadT (by rfl) (by rfl) (by go_simp; rfl) (by rintro _ _ ⟨⟩; exact ⟨_, _, _, _, _, _, by rfl, by assumption, by assumption⟩) ?_; simp only [Act.put, List.setIfInBounds_toArray, List.set_cons_zero, List.set_cons_succ]) | (refine WpH.pure (by rfl) (fun w_ => by go_simp; (try go_bits); rfl) ?_; simp only [Act.put, List.setIfInBounds_toArray, List.set_cons_zero, List.set_cons_succ]) | (refine WpH.wild1 (by rfl) (fun _ _ => ?_)) | (refine WpH.skip (by rfl) ?_; simp only [Act.put, List.setIfInBounds_toArray, List.set_cons_zero, List.set_cons_succ])) | go_values | go_skip | go_guarded | go_step | go_upon | go_back)
    skip
    go_ret
    have e9 := bvia hb9 hb10
    refine ⟨T5, rfl, PairAt.step ⟨⟨hlp, hlg⟩, ⟨_, c6, by rw [hlT]; exact hp8, hr8⟩, p5, hg8, hT8⟩ e9, hb8.trans (e9.mono (Nat.le_trans hb hb8.size)), by omega, fun hg => Good.of_map Hq.out.2 hg, by show T5.all = _; rw [Hq.out.1, Hxf.out]⟩
  · have hx0 : x = ⟨0, 0, 0, 0, 0⟩ := by
      rw [hxf]
      unfold firstOf
      obtain rfl := List.eq_nil_of_length_eq_zero (show ls.length = 0 by omega)
      rfl
    have hm' : ¬ ((m : Int) > 0) := by omega
    have Hx0 := hid hx0
    have Hxf := hid hxf
    clear hx0 hxf
    obtain ⟨⟨hlp, hlg⟩, ⟨A, c, hp, hr⟩, p, hg, hT⟩ := h
    have b1 : Below w.heap.size w (w.alloc (.cells #[.int .i64 do_, .int .i64 i, .int .i64 n, .slice B m d] 76)) := balloc (Below.refl _ _)
    have hx1 := Blk.new w 76 #[.int .i64 do_, .int .i64 i, .int .i64 n, .slice B m d]
    have hp1 := hp.step b1
    have HW := hid (fun W => within_any do_ 8 (by decide) (by decide) W)
    rw [hd] at HW
    have hgl := hg.lt
    have hpl := hp.lt
    have hpg : pb ≠ gt := hp.ne hg (by decide)
    have Hpg := hid (And.intro hg (And.intro hT hr))
    clear hg hT hr hd hls
    go_enter Tryd.func38, Tryd.ntmps38
    repeat' (first | (with_reducible refine stop_region 1 ?_) | (with_reducible refine Keep.last ?_) | (with_reducible refine Keep.below (by assumption) ?_) | (with_reducible refine Keep.kept (by assumption) ?_) | (with_reducible refine Keep.alloc ?_) | (with_reducible refine Keep.same ?_) | ((with_reducible refine WpH.here ?_); first | (refine WpH.nil ?_; refine NoP.normal ?_) | (refine WpH.load (by rfl) (by rfl) (by go_simp; rfl) ?_; simp only [Act.put, List.setIfInBounds_toArray, List.set_cons_zero, List.set_cons_succ]) | (refine WpH.loadT (by rfl) (by rfl) (by go_simp; rfl) (by rintro _ _ ⟨⟩; exact ⟨_, _, _, _, _, _, by rfl, by assumption, by assumption⟩) ?_; simp only [Act.put, List.setIfInBounds_toArray, List.set_cons_zero, List.set_cons_succ]) | (refine WpH.pure (by rfl) (fun w_ => by go_simp; (try go_bits); rfl) ?_; simp only [Act.put, List.setIfInBounds_toArray, List.set_cons_zero, List.set_cons_succ]) | (refine WpH.wild1 (by rfl) (fun _ _ => ?_)) | (refine WpH.skip (by rfl) ?_; simp only [Act.put, List.setIfInBounds_toArray, List.set_cons_zero, List.set_cons_succ])) | go_values | go_skip | go_guarded | go_step | go_upon | go_back)
    refine Stop.go ?_
    have hs1 : (w.alloc (.cells #[.int .i64 do_, .int .i64 i, .int .i64 n, .slice B m d] 76)).heap.size = w.heap.size + 1 := box_sz _ _
    generalize w.alloc (.cells #[.int .i64 do_, .int .i64 i, .int .i64 n, .slice B m d] 76) = W1 at *
    obtain ⟨p0, p1, p2, pl⟩ := hp1.three'
    obtain ⟨x0, x1, x2, x3, -, -, -, -, xl⟩ := hx1.four
    repeat' (first | (with_reducible refine stop_region 22 ?_) | (go_at_call 23; go_must ((with_reducible refine Calls.mono (HW.out _) ?_); rintro _ _ ⟨rfl, rfl⟩; dsimp only)) | (with_reducible refine Keep.last ?_) | (with_reducible refine Keep.below (by assumption) ?_) | (with_reducible refine Keep.kept (by assumption) ?_) | (with_reducible refine Keep.alloc ?_) | (with_reducible refine Keep.same ?_) | ((with_reducible refine WpH.here ?_); first | (refine WpH.nil ?_; refine NoP.normal ?_) | (refine WpH.load (by rfl) (by rfl) (by go_simp; rfl) ?_; simp only [Act.put, List.setIfInBounds_toArray, List.set_cons_zero, List.set_cons_succ]) | (refine WpH.loadT (by rfl) (by rfl) (by go_simp; rfl) (by rintro _ _ ⟨⟩; exact ⟨_, _, _, _, _, _, by rfl, by assumption, by assumption⟩) ?_; simp only [Act.put, List.setIfInBounds_toArray, List.set_cons_zero, List.set_cons_succ]) | (refine WpH.pure (by rfl) (fun w_ => by go_simp; (try go_bits); rfl) ?_; simp only [Act.put, List.setIfInBounds_toArray, List.set_cons_zero, List.set_cons_succ]) | (refine WpH.wild1 (by rfl) (fun _ _ => ?_)) | (refine WpH.skip (by rfl) ?_; simp only [Act.put, List.setIfInBounds_toArray, List.set_cons_zero, List.set_cons_succ])) | go_values | go_skip | go_guarded | go_step | go_upon | go_back)
    refine Stop.go ?_
    have eX := balloc (o := .cells #[.int .i64 0, .int .i64 0, .int .i64 0, .int .i32 0, .int .i64 0] 36) (Below.refl _ W1)
    have hE := Blk.new W1 36 #[.int .i64 0, .int .i64 0, .int .i64 0, .int .i32 0, .int .i64 0]
    have hp2 := hp1.step eX
    have hx2 := hx1.step eX
    have hb2 := bvia b1 eX
    generalize W1.alloc (.cells #[.int .i64 0, .int .i64 0, .int .i64 0, .int .i32 0, .int .i64 0] 36) = W2 at *
    obtain ⟨eb, heb⟩ : ∃ eb, eb = w.heap.size + 1 := ⟨_, rfl⟩
    rw [hs1, ← heb] at hE
    rw [← heb]
    have hebw : w.heap.size < eb := by omega
    clear p0 p1 p2 x0 x1 x2 x3 b1 hp1 hx1 eX heb hs1
    obtain ⟨p0, p1, p2, pl⟩ := hp2.three'
    obtain ⟨x0, x1, x2, x3, -, -, -, -, xl⟩ := hx2.four
    repeat' (first | (with_reducible refine stop_region 24 ?_) | (with_reducible refine Keep.last ?_) | (with_reducible refine Keep.below (by assumption) ?_) | (with_reducible refine Keep.kept (by assumption) ?_) | (with_reducible refine Keep.alloc ?_) | (with_reducible refine Keep.same ?_) | ((with_reducible refine WpH.here ?_); first | (refine WpH.nil ?_; refine NoP.normal ?_) | (refine WpH.load (by rfl) (by rfl) (by go_simp; rfl) ?_; simp only [Act.put, List.setIfInBounds_toArray, List.set_cons_zero, List.set_cons_succ]) | (refine WpH.loadT (by rfl) (by rfl) (by go_simp; rfl) (by rintro _ _ ⟨⟩; exact ⟨_, _, _, _, _, _, by rfl, by assumption, by assumption⟩) ?_; simp only [Act.put, List.setIfInBounds_toArray, List.set_cons_zero, List.set_cons_succ]) | (refine WpH.pure (by rfl) (fun w_ => by go_simp; (try go_bits); rfl) ?_; simp only [Act.put, List.setIfInBounds_toArray, List.set_cons_zero, List.set_cons_succ]) | (refine WpH.wild1 (by rfl) (fun _ _ => ?_)) | (refine WpH.skip (by rfl) ?_; simp only [Act.put, List.setIfInBounds_toArray, List.set_cons_zero, List.set_cons_succ])) | go_values | go_skip | go_guarded | go_step | go_upon | go_back)
    refine Stop.go ?_
    have hEZ : Blk W2 eb 36 #[.int .i64 x.epoch, .int .i64 x.rep, .int .i64 x.num, .int .i32 x.char, .int .i64 x.hides] := by rw [Hx0.out]; exact hE
    have hpZ := hp2
    have hxZ := hx2
    have hbY := hb2
    clear hp2 hx2 hE hb2 p0 p1 p2 x0 x1 x2 x3
    generalize W2 = Y at *
    have hpY := hpZ
    have nx : w.heap.size ≠ gt := by omega
    have ne : eb ≠ gt := by omega
    have HS := hid (tset_ok T p gt ck i x (fun b => (base ≤ b ∧ b ≠ gt ∧ b ≠ pb) ∧ b < w.heap.size) Y.drew (Hpg.out.1.step hbY).drew (((Hpg.out.2.1.more (S' := fun b => (base ≤ b ∧ b ≠ gt ∧ b ≠ pb) ∧ b < w.heap.size) fun b h1 h2 => ⟨h2, h1⟩).step hbY).drew) (fun h => h.1.2.1 rfl) (by omega) hi)
    have hrY := ((Hpg.out.2.2.more (S' := fun b => (base ≤ b ∧ b ≠ gt ∧ b ≠ pb) ∧ b < w.heap.size) fun b h1 h2 => ⟨h2, h1⟩).step hbY).drew
    obtain ⟨p0, p1, p2, pl⟩ := hpY.three'
    obtain ⟨x0, x1, x2, x3, -, -, -, -, xl⟩ := hxZ.four
    obtain ⟨e0, e1, e2, e3, e4, el⟩ := hEZ.five
    have qp : Y.drew.heap[pb]? = some (.cells #[.pointer (some ⟨gt, 0, none⟩), .slice A T.all.length c, .int .i64 ck] 31 (0, 0)) := hpY
    have qx : Y.drew.heap[w.heap.size]? = some (.cells #[.int .i64 do_, .int .i64 i, .int .i64 n, .slice B m d] 76 (0, 0)) := hxZ
    have qe : Y.drew.heap[eb]? = some (.cells #[.int .i64 x.epoch, .int .i64 x.rep, .int .i64 x.num, .int .i32 x.char, .int .i64 x.hides] 36 (0, 0)) := hEZ
    have HN := hid (fun W => no_none ({ data := #[83, 101, 116] } : ByteArray) i W)
    have HF := hid refused_none
    unfold noNone at HN HF
    have hi1 : ¬ (i : Int) < 0 := by omega
    have hi2 : ¬ (i : Int) ≥ T.all.length := by omega
    repeat' (first | (with_reducible refine stop_region 25 ?_) | ((with_reducible refine region_at 24 ?_); refine wp_region_orderT (fun b => b ≠ gt) [(0, true, false), (1, true, false), (2, true, false), (3, true, false), (4, true, false), (5, true, false), (6, true, false), (7, false, false), (8, true, false)] (by kernel_rfl) (by kernel_rfl) (by kernel_rfl) rfl rfl ?_) | (go_at_call 90; go_must ((with_reducible refine Calls.mono HS.out ?_); rintro _ w5 ⟨p5, T5, rfl, hT5, hg5, hq5, hB5⟩; have hk5 : KeepT (fun b => b ≠ gt) _ w5 := ⟨hB5.size, fun b hl hb => hB5.block b hl hb⟩; have H5 := hid (And.intro hT5 (And.intro hg5 (And.intro hq5 hB5))); clear hT5 hg5 hq5 hB5; dsimp only)) | (with_reducible refine Keep.last ?_) | (with_reducible refine Keep.below (by assumption) ?_) | (with_reducible refine Keep.kept (by assumption) ?_) | (with_reducible refine Keep.alloc ?_) | (with_reducible refine Keep.same ?_) | ((with_reducible refine WpH.here ?_); first | (refine WpH.nil ?_; refine NoP.normal ?_) | (refine WpH.load (by rfl) (by rfl) (by go_simp; rfl) ?_; simp only [Act.put, List.setIfInBounds_toArray, List.set_cons_zero, List.set_cons_succ]) | (refine WpH.loadT (by rfl) (by rfl) (by go_simp; rfl) (by rintro _ _ ⟨⟩; exact ⟨_, _, _, _, _, _, by rfl, by assumption, by assumption⟩) ?_; simp only [Act.put, List.setIfInBounds_toArray, List.set_cons_zero, List.set_cons_succ]) | (refine WpH.pure (by rfl) (fun w_ => by go_simp; (try go_bits); rfl) ?_; simp only [Act.put, List.setIfInBounds_toArray, List.set_cons_zero, List.set_cons_succ]) | (refine WpH.wild1 (by rfl) (fun _ _ => ?_)) | (refine WpH.skip (by rfl) ?_; simp only [Act.put, List.setIfInBounds_toArray, List.set_cons_zero, List.set_cons_succ])) | go_values | go_skip | go_guarded | go_step | go_upon | go_back)
    refine Stop.go ?_
    clear p0 p1 p2 x0 x1 x2 x3 e0 e1 e2 e3 e4 qp qx qe
    have hB5 := H5.out.2.2.2
    have hp5 := hB5.blk hpY.drew hpg
    have hx5 := hB5.blk hxZ.drew nx
    have he5 := hB5.blk hEZ.drew ne
    have hr5 := hrY.keep (hB5.same.sub (S' := fun b => (base ≤ b ∧ b ≠ gt ∧ b ≠ pb) ∧ b < w.heap.size) fun b hb => hb.1.2.1)
    have hzY := hbY.size
    have hz5 : Y.heap.size ≤ w5.heap.size := hB5.size
    have HC := hid (refCopy_any A T.all.length c T.all _ w5 hr5 (by omega))
    obtain ⟨p0, p1, p2, pl⟩ := hp5.three'
    have pf1 := hp5.frozen 1
    obtain ⟨x0, x1, x2, x3, -, -, -, -, xl⟩ := hx5.four
    repeat' (first | (with_reducible refine stop_region 28 ?_) | (go_at_call 91; go_must ((with_reducible refine Calls.mono HC.out ?_); rintro _ w6 ⟨A6, c6, rfl, ho6, hb6⟩; have hp6 := hp5.step hb6; obtain ⟨p0, p1, p2, pl⟩ := hp6.three'; have pf1 := hp6.frozen 1; dsimp only)) | (with_reducible refine Keep.last ?_) | (with_reducible refine Keep.below (by assumption) ?_) | (with_reducible refine Keep.kept (by assumption) ?_) | (with_reducible refine Keep.alloc ?_) | (with_reducible refine Keep.same ?_) | ((with_reducible refine WpH.here ?_); first | (refine WpH.nil ?_; refine NoP.normal ?_) | (refine WpH.load (by rfl) (by rfl) (by go_simp; rfl) ?_; simp only [Act.put, List.setIfInBounds_toArray, List.set_cons_zero, List.set_cons_succ]) | (refine WpH.loadT (by rfl) (by rfl) (by go_simp; rfl) (by rintro _ _ ⟨⟩; exact ⟨_, _, _, _, _, _, by rfl, by assumption, by assumption⟩) ?_; simp only [Act.put, List.setIfInBounds_toArray, List.set_cons_zero, List.set_cons_succ]) | (refine WpH.pure (by rfl) (fun w_ => by go_simp; (try go_bits); rfl) ?_; simp only [Act.put, List.setIfInBounds_toArray, List.set_cons_zero, List.set_cons_succ]) | (refine WpH.wild1 (by rfl) (fun _ _ => ?_)) | (refine WpH.skip (by rfl) ?_; simp only [Act.put, List.setIfInBounds_toArray, List.set_cons_zero, List.set_cons_succ])) | go_values | go_skip | go_guarded | go_step | go_upon | go_back)
    refine Stop.go ?_
    clear p0 p1 p2 x0 x1 x2 x3 pf1
    have hz6 : w5.heap.size ≤ w6.heap.size := hb6.size
    obtain ⟨g6, rfl, hg6⟩ : ∃ g6, A6 = some ⟨g6, 0, none⟩ ∧ w5.heap.size ≤ g6 := by
      obtain ⟨g6, _, e, hb, _⟩ := own_at ho6 (by omega)
      exact ⟨g6, e, hb⟩
    have hp7 := hp6.set_ 1 (.slice (some ⟨g6, 0, none⟩) T.all.length c6)
    have hx7 := (hx5.step hb6).far (p := ⟨pb, 1, none⟩) (by show w.heap.size ≠ pb; omega) (.slice (some ⟨g6, 0, none⟩) T.all.length c6)
    have he7 := (he5.step hb6).far (p := ⟨pb, 1, none⟩) (by show eb ≠ pb; omega) (.slice (some ⟨g6, 0, none⟩) T.all.length c6)
    have ho7 := ho6.keep (S := fun b => b ≠ pb) (Same.setCell (p := ⟨pb, 1, none⟩) w6 (fun h => h rfl) (.slice (some ⟨g6, 0, none⟩) T.all.length c6)) (fun a ha e => by injection ha with ha; subst ha; have e' : g6 = pb := e; omega)
    have hg7 := (H5.out.2.1.step hb6).far (p := ⟨pb, 1, none⟩) (Ne.symm hpg) (.slice (some ⟨g6, 0, none⟩) T.all.length c6)
    have hT7 := (((H5.out.1.more (S' := fun b => (base ≤ b ∧ b ≠ gt ∧ b ≠ pb) ∧ b ≠ g6) fun b hl h => by
      rcases h with h | h
      · exact ⟨h.1, by omega⟩
      · have h' : Y.heap.size ≤ b := h
        exact ⟨by omega, by omega⟩).step hb6).keep (Same.setCell _ (p := ⟨pb, 1, none⟩) (fun h => h.1.2.2 rfl) (.slice (some ⟨g6, 0, none⟩) T.all.length c6)))
    have hb5 : Below base w w5 := (hbY.mono hb).trans ⟨hB5.os, hB5.tape, hB5.output, hB5.size, fun b hb' => hB5.block b (by show b < Y.heap.size; omega) (by omega)⟩
    have hb7 : Below base w (w6.setCell ⟨pb, 1, none⟩ (.slice (some ⟨g6, 0, none⟩) T.all.length c6)) := Below.setCell (hb5.trans (hb6.mono (by omega))) hlp _
    have hlT := congrArg List.length H5.out.2.2.1.1
    rw [List.length_set] at hlT
    have Hq := hid H5.out.2.2.1
    clear H5 hp5 hx5 he5 hr5 hp6 hb6 ho6 hB5 hrY HC hpZ hxZ hEZ hbY
    generalize w6.setCell ⟨pb, 1, none⟩ (.slice (some ⟨g6, 0, none⟩) T.all.length c6) = W7 at *
    obtain ⟨p0, p1, p2, pl⟩ := Blk.three' hp7
    obtain ⟨x0, x1, x2, x3, -, -, -, -, xl⟩ := Blk.four hx7
    obtain ⟨e0, e1, e2, e3, e4, el⟩ := Blk.five he7
    obtain ⟨g', off, y, hge, -, hye, d0, d1, d2, d3, d4⟩ := (ho7.row (S := fun _ => True) fun _ _ _ => trivial).at_ hi
    obtain ⟨rfl, rfl⟩ : g' = g6 ∧ off = 0 := by injection hge with h; injection h with h1 h2; exact ⟨h1.symm, h2.symm⟩
    simp only [Nat.zero_add] at d0 d1 d2 d3 d4
    obtain ⟨g'', cur, e1', -, hcur, -, -, -⟩ := own_at ho7 (by omega)
    obtain rfl : g'' = g' := by injection e1' with h; injection h with h1 h2; exact h1.symm
    have fr0 := hcur.frozen (i * 5)
    have fr1 := hcur.frozen (i * 5 + 1)
    have fr2 := hcur.frozen (i * 5 + 2)
    have fr3 := hcur.frozen (i * 5 + 3)
    have fr4 := hcur.frozen (i * 5 + 4)
    have hcl := hcur.lt
    clear hye hcur hge e1'
    repeat' (first | (with_reducible refine stop_region 29 ?_) | ((with_reducible refine region_at 28 ?_); refine wp_region_order [(0, true, false), (1, true, false), (2, true, false), (3, true, false), (4, true, false), (5, true, false), (6, true, false), (7, true, false), (8, false, true)] (by kernel_rfl) (by kernel_rfl) (by kernel_rfl) rfl rfl ?_) | (with_reducible refine Keep.last ?_) | (with_reducible refine Keep.below (by assumption) ?_) | (with_reducible refine Keep.kept (by assumption) ?_) | (with_reducible refine Keep.alloc ?_) | (with_reducible refine Keep.same ?_) | ((with_reducible refine WpH.here ?_); first | (refine WpH.nil ?_; refine NoP.normal ?_) | (refine WpH.load (by rfl) (by rfl) (by go_simp; rfl) ?_; simp only [Act.put, List.setIfInBounds_toArray, List.set_cons_zero, List.set_cons_succ]) | (refine WpH.loadT (by rfl) (by rfl) (by go_simp; rfl) (by rintro _ _ ⟨⟩; exact ⟨_, _, _, _, _, _, by rfl, by assumption, by assumption⟩) ?_; simp only [Act.put, List.setIfInBounds_toArray, List.set_cons_zero, List.set_cons_succ]) | (refine WpH.pure (by rfl) (fun w_ => by go_simp; (try go_bits); rfl) ?_; simp only [Act.put, List.setIfInBounds_toArray, List.set_cons_zero, List.set_cons_succ]) | (refine WpH.wild1 (by rfl) (fun _ _ => ?_)) | (refine WpH.skip (by rfl) ?_; simp only [Act.put, List.setIfInBounds_toArray, List.set_cons_zero, List.set_cons_succ])) | go_values | go_skip | go_guarded | go_step | go_upon | go_back)
    skip
    refine Stop.go ?_
    have ho8 := (ho7.set5 x hi).drw
    have sm : Same (fun b => b ≠ g'') W7 (((((W7.setCell ⟨g'', i * 5, none⟩ (.int .i64 x.epoch)).setCell ⟨g'', i * 5 + 1, none⟩ (.int .i64 x.rep)).setCell ⟨g'', i * 5 + 2, none⟩ (.int .i64 x.num)).setCell ⟨g'', i * 5 + 3, none⟩ (.int .i32 x.char)).setCell ⟨g'', i * 5 + 4, none⟩ (.int .i64 x.hides)) :=
      ((((Same.setCell _ (p := ⟨g'', i * 5, none⟩) (fun h => h rfl) _).trans (by simp [World.setCell]) (Same.setCell _ (p := ⟨g'', i * 5 + 1, none⟩) (fun h => h rfl) _)).trans (by simp [World.setCell]) (Same.setCell _ (p := ⟨g'', i * 5 + 2, none⟩) (fun h => h rfl) _)).trans (by simp [World.setCell]) (Same.setCell _ (p := ⟨g'', i * 5 + 3, none⟩) (fun h => h rfl) _)).trans (by simp [World.setCell]) (Same.setCell _ (p := ⟨g'', i * 5 + 4, none⟩) (fun h => h rfl) _)
    have hp8 := (hp7.keepS sm (by show pb ≠ g''; omega)).drew
    have hg8 := (hg7.keepS sm (by show gt ≠ g''; omega)).drew
    have hx8 := (hx7.keepS sm (by show w.heap.size ≠ g''; omega)).drew
    have hT8 := ((hT7.keep (sm.sub fun b h => h.2)).drew).more (S' := fun b => base ≤ b ∧ b ≠ gt ∧ b ≠ pb) fun b _ h => h.1
    have hb8 : Below base w (((((W7.setCell ⟨g'', i * 5, none⟩ (.int .i64 x.epoch)).setCell ⟨g'', i * 5 + 1, none⟩ (.int .i64 x.rep)).setCell ⟨g'', i * 5 + 2, none⟩ (.int .i64 x.num)).setCell ⟨g'', i * 5 + 3, none⟩ (.int .i32 x.char)).setCell ⟨g'', i * 5 + 4, none⟩ (.int .i64 x.hides)).drew := Below.drew <|
      Below.setCell (Below.setCell (Below.setCell (Below.setCell (Below.setCell hb7 (by show base ≤ g''; omega) _) (by show base ≤ g''; omega) _) (by show base ≤ g''; omega) _) (by show base ≤ g''; omega) _) (by show base ≤ g''; omega) _
    clear p0 p1 p2 x0 x1 x2 x3 e0 e1 e2 e3 e4 d0 d1 d2 d3 d4 fr0 fr1 fr2 fr3 fr4 hp7 hx7 he7 ho7 hg7 hT7 hb7 sm
    generalize (((((W7.setCell ⟨g'', i * 5, none⟩ (.int .i64 x.epoch)).setCell ⟨g'', i * 5 + 1, none⟩ (.int .i64 x.rep)).setCell ⟨g'', i * 5 + 2, none⟩ (.int .i64 x.num)).setCell ⟨g'', i * 5 + 3, none⟩ (.int .i32 x.char)).setCell ⟨g'', i * 5 + 4, none⟩ (.int .i64 x.hides)).drew = W8 at *
    have hr8 : Row W8 (fun b => base ≤ b ∧ b ≠ gt ∧ b ≠ pb) (some ⟨g'', 0, none⟩) T5.all.length c6 T5.all := by
      have h := ho8.row (S := fun b => base ≤ b ∧ b ≠ gt ∧ b ≠ pb) (fun b h1 h2 => by have h1' : w5.heap.size ≤ b := h1; omega)
      rw [hlT, Hq.out.1]
      exact h
    obtain ⟨x0, x1, x2, x3, -, -, -, -, xl⟩ := Blk.four hx8
    repeat' (first | (go_at_call 89; go_must ((with_reducible refine Calls.mono (HN.out _) ?_); rintro _ w8 ⟨rfl, hb9⟩; dsimp only)) | (go_at_call 28; go_must ((with_reducible refine Calls.mono (HF.out _) ?_); rintro _ w9 ⟨rfl, hb10⟩; dsimp only)) | (with_reducible refine Keep.last ?_) | (with_reducible refine Keep.below (by assumption) ?_) | (with_reducible refine Keep.kept (by assumption) ?_) | (with_reducible refine Keep.alloc ?_) | (with_reducible refine Keep.same ?_) | ((with_reducible refine WpH.here ?_); first | (refine WpH.nil ?_; refine NoP.normal ?_) | (refine WpH.load (by rfl) (by rfl) (by go_simp; rfl) ?_; simp only [Act.put, List.setIfInBounds_toArray, List.set_cons_zero, List.set_cons_succ]) | (refine WpH.loadT (by rfl) (by rfl) (by go_simp; rfl) (by rintro _ _ ⟨⟩; exact ⟨_, _, _, _, _, _, by rfl, by assumption, by assumption⟩) ?_; simp only [Act.put, List.setIfInBounds_toArray, List.set_cons_zero, List.set_cons_succ]) | (refine WpH.pure (by rfl) (fun w_ => by go_simp; (try go_bits); rfl) ?_; simp only [Act.put, List.setIfInBounds_toArray, List.set_cons_zero, List.set_cons_succ]) | (refine WpH.wild1 (by rfl) (fun _ _ => ?_)) | (refine WpH.skip (by rfl) ?_; simp only [Act.put, List.setIfInBounds_toArray, List.set_cons_zero, List.set_cons_succ])) | go_values | go_skip | go_guarded | go_step | go_upon | go_back)
    skip
    go_ret
    have e9 := bvia hb9 hb10
    refine ⟨T5, rfl, PairAt.step ⟨⟨hlp, hlg⟩, ⟨_, c6, by rw [hlT]; exact hp8, hr8⟩, p5, hg8, hT8⟩ e9, hb8.trans (e9.mono (Nat.le_trans hb hb8.size)), by omega, fun hg => Good.of_map Hq.out.2 hg, by show T5.all = _; rw [Hq.out.1, Hxf.out]⟩
set_option maxRecDepth 100000 in
set_option maxHeartbeats 4000000 in
theorem chgSet_out (w : World) (pb gt ck base : Nat) (T : Tr) (do_ i n : Int) (B : Option Addr) (m d : Nat) (ls : List El) (hls : Row w (fun b => b < base) B m d ls) (h : PairAt w pb gt ck T base) (hd : do_ % 8 = 2) (hl : T.all.length ≤ 600) (hi : i < 0 ∨ T.all.length ≤ i) (hb : base ≤ w.heap.size) (hs : Sents w (fun b => b < base) a) :
    Calls Tryd.prog 38 #[.pointer (some ⟨pb, 0, none⟩), .agg #[.int .i64 do_, .int .i64 i, .int .i64 n, .slice B m d]] w (ChgRet pb gt ck base T (fun T' => T' = T) w) := by
  have Hh := hid h
  have Hss := hid hs
  by_cases hi0 : i < 0
  · skip
    have hmx := hls.len_le
    unfold maxLen at hmx
    have hmd := hls.2.1
    have hlsl := hls.1
    obtain ⟨x, hxf⟩ : ∃ x, x = firstOf ls := ⟨_, rfl⟩
    by_cases hm : 0 < m
    · obtain ⟨fb, foff, fe, rfl, hfb, hfe, c0, c1, c2, c3, c4⟩ := first_at hls hm
      obtain rfl : x = fe := by rw [hxf]; unfold firstOf; rw [hfe]; rfl
      have Hf := hid (And.intro c0 (And.intro c1 (And.intro c2 (And.intro c3 c4))))
      have hfbl := lt_of_cell' c0
      dsimp only at hfbl
      have Hxf := hid hxf
      clear c0 c1 c2 c3 c4 hfe hxf
      generalize hB : (some ⟨fb, foff, none⟩ : Option Addr) = B at *
      obtain ⟨⟨hlp, hlg⟩, ⟨A, c, hp, hr⟩, p, hg, hT⟩ := h
      have b1 : Below w.heap.size w (w.alloc (.cells #[.int .i64 do_, .int .i64 i, .int .i64 n, .slice B m d] 76)) := balloc (Below.refl _ _)
      have hx1 := Blk.new w 76 #[.int .i64 do_, .int .i64 i, .int .i64 n, .slice B m d]
      have hp1 := hp.step b1
      have HW := hid (fun W => within_any do_ 8 (by decide) (by decide) W)
      rw [hd] at HW
      have hgl := hg.lt
      have hpl := hp.lt
      have hpg : pb ≠ gt := hp.ne hg (by decide)
      have Hpg := hid (And.intro hg (And.intro hT hr))
      clear hg hT hr hd hls
      go_enter Tryd.func38, Tryd.ntmps38
      repeat' (first | (with_reducible refine stop_region 1 ?_) | (with_reducible refine Keep.last ?_) | (with_reducible refine Keep.below (by assumption) ?_) | (with_reducible refine Keep.kept (by assumption) ?_) | (with_reducible refine Keep.alloc ?_) | (with_reducible refine Keep.same ?_) | ((with_reducible refine WpH.here ?_); first | (refine WpH.nil ?_; refine NoP.normal ?_) | (refine WpH.load (by rfl) (by rfl) (by go_simp; rfl) ?_; simp only [Act.put, List.setIfInBounds_toArray, List.set_cons_zero, List.set_cons_succ]) | (refine WpH.loadT (by rfl) (by rfl) (by go_simp; rfl) (by rintro _ _ ⟨⟩; exact ⟨_, _, _, _, _, _, by rfl, by assumption, by assumption⟩) ?_; simp only [Act.put, List.setIfInBounds_toArray, List.set_cons_zero, List.set_cons_succ]) | (refine WpH.pure (by rfl) (fun w_ => by go_simp; (try go_bits); rfl) ?_; simp only [Act.put, List.setIfInBounds_toArray, List.set_cons_zero, List.set_cons_succ]) | (refine WpH.wild1 (by rfl) (fun _ _ => ?_)) | (refine WpH.skip (by rfl) ?_; simp only [Act.put, List.setIfInBounds_toArray, List.set_cons_zero, List.set_cons_succ])) | go_values | go_skip | go_guarded | go_step | go_upon | go_back)
      refine Stop.go ?_
      have hs1 : (w.alloc (.cells #[.int .i64 do_, .int .i64 i, .int .i64 n, .slice B m d] 76)).heap.size = w.heap.size + 1 := box_sz _ _
      generalize w.alloc (.cells #[.int .i64 do_, .int .i64 i, .int .i64 n, .slice B m d] 76) = W1 at *
      obtain ⟨p0, p1, p2, pl⟩ := hp1.three'
      obtain ⟨x0, x1, x2, x3, -, -, -, -, xl⟩ := hx1.four
      repeat' (first | (with_reducible refine stop_region 22 ?_) | (go_at_call 23; go_must ((with_reducible refine Calls.mono (HW.out _) ?_); rintro _ _ ⟨rfl, rfl⟩; dsimp only)) | (with_reducible refine Keep.last ?_) | (with_reducible refine Keep.below (by assumption) ?_) | (with_reducible refine Keep.kept (by assumption) ?_) | (with_reducible refine Keep.alloc ?_) | (with_reducible refine Keep.same ?_) | ((with_reducible refine WpH.here ?_); first | (refine WpH.nil ?_; refine NoP.normal ?_) | (refine WpH.load (by rfl) (by rfl) (by go_simp; rfl) ?_; simp only [Act.put, List.setIfInBounds_toArray, List.set_cons_zero, List.set_cons_succ]) | (refine WpH.loadT (by rfl) (by rfl) (by go_simp; rfl) (by rintro _ _ ⟨⟩; exact ⟨_, _, _, _, _, _, by rfl, by assumption, by assumption⟩) ?_; simp only [Act.put, List.setIfInBounds_toArray, List.set_cons_zero, List.set_cons_succ]) | (refine WpH.pure (by rfl) (fun w_ => by go_simp; (try go_bits); rfl) ?_; simp only [Act.put, List.setIfInBounds_toArray, List.set_cons_zero, List.set_cons_succ]) | (refine WpH.wild1 (by rfl) (fun _ _ => ?_)) | (refine WpH.skip (by rfl) ?_; simp only [Act.put, List.setIfInBounds_toArray, List.set_cons_zero, List.set_cons_succ])) | go_values | go_skip | go_guarded | go_step | go_upon | go_back)
      refine Stop.go ?_
      have eX := balloc (o := .cells #[.int .i64 0, .int .i64 0, .int .i64 0, .int .i32 0, .int .i64 0] 36) (Below.refl _ W1)
      have hE := Blk.new W1 36 #[.int .i64 0, .int .i64 0, .int .i64 0, .int .i32 0, .int .i64 0]
      have hp2 := hp1.step eX
      have hx2 := hx1.step eX
      have hb2 := bvia b1 eX
      generalize W1.alloc (.cells #[.int .i64 0, .int .i64 0, .int .i64 0, .int .i32 0, .int .i64 0] 36) = W2 at *
      obtain ⟨eb, heb⟩ : ∃ eb, eb = w.heap.size + 1 := ⟨_, rfl⟩
      rw [hs1, ← heb] at hE
      rw [← heb]
      have hebw : w.heap.size < eb := by omega
      clear p0 p1 p2 x0 x1 x2 x3 b1 hp1 hx1 eX heb hs1
      obtain ⟨p0, p1, p2, pl⟩ := hp2.three'
      obtain ⟨x0, x1, x2, x3, -, -, -, -, xl⟩ := hx2.four
      subst hB
      have c0 := kc hb2 Hf.out.1
      have c1 := kc hb2 Hf.out.2.1
      have c2 := kc hb2 Hf.out.2.2.1
      have c3 := kc hb2 Hf.out.2.2.2.1
      have c4 := kc hb2 Hf.out.2.2.2.2
      have hcb : fb < W2.heap.size := Nat.lt_of_lt_of_le hfbl hb2.size
      obtain ⟨e0, e1, e2, e3, e4, el⟩ := hE.five
      have f0 := hE.frozen 0
      have f1 := hE.frozen 1
      have f2 := hE.frozen 2
      have f3 := hE.frozen 3
      have f4 := hE.frozen 4
      repeat' (first | (with_reducible refine stop_region 24 ?_) | (with_reducible refine Keep.last ?_) | (with_reducible refine Keep.below (by assumption) ?_) | (with_reducible refine Keep.kept (by assumption) ?_) | (with_reducible refine Keep.alloc ?_) | (with_reducible refine Keep.same ?_) | ((with_reducible refine WpH.here ?_); first | (refine WpH.nil ?_; refine NoP.normal ?_) | (refine WpH.load (by rfl) (by rfl) (by go_simp; rfl) ?_; simp only [Act.put, List.setIfInBounds_toArray, List.set_cons_zero, List.set_cons_succ]) | (refine WpH.loadT (by rfl) (by rfl) (by go_simp; rfl) (by rintro _ _ ⟨⟩; exact ⟨_, _, _, _, _, _, by rfl, by assumption, by assumption⟩) ?_; simp only [Act.put, List.setIfInBounds_toArray, List.set_cons_zero, List.set_cons_succ]) | (refine WpH.pure (by rfl) (fun w_ => by go_simp; (try go_bits); rfl) ?_; simp only [Act.put, List.setIfInBounds_toArray, List.set_cons_zero, List.set_cons_succ]) | (refine WpH.wild1 (by rfl) (fun _ _ => ?_)) | (refine WpH.skip (by rfl) ?_; simp only [Act.put, List.setIfInBounds_toArray, List.set_cons_zero, List.set_cons_succ])) | go_values | go_skip | go_guarded | go_step | go_upon | go_back)
      refine Stop.go ?_
      have hpZ := ((((hp2.far (p := ⟨eb, 0, none⟩) (by show pb ≠ eb; omega) (.int .i64 x.epoch)).far (p := ⟨eb, 1, none⟩) (by show pb ≠ eb; omega) (.int .i64 x.rep)).far (p := ⟨eb, 2, none⟩) (by show pb ≠ eb; omega) (.int .i64 x.num)).far (p := ⟨eb, 3, none⟩) (by show pb ≠ eb; omega) (.int .i32 x.char)).far (p := ⟨eb, 4, none⟩) (by show pb ≠ eb; omega) (.int .i64 x.hides)
      have hxZ := ((((hx2.far (p := ⟨eb, 0, none⟩) (by show w.heap.size ≠ eb; omega) (.int .i64 x.epoch)).far (p := ⟨eb, 1, none⟩) (by show w.heap.size ≠ eb; omega) (.int .i64 x.rep)).far (p := ⟨eb, 2, none⟩) (by show w.heap.size ≠ eb; omega) (.int .i64 x.num)).far (p := ⟨eb, 3, none⟩) (by show w.heap.size ≠ eb; omega) (.int .i32 x.char)).far (p := ⟨eb, 4, none⟩) (by show w.heap.size ≠ eb; omega) (.int .i64 x.hides)
      have hEZ := hE.set5 (.int .i64 x.epoch) (.int .i64 x.rep) (.int .i64 x.num) (.int .i32 x.char) (.int .i64 x.hides)
      have hbY : Below w.heap.size w (((((W2.setCell ⟨eb, 0, none⟩ (.int .i64 x.epoch)).setCell ⟨eb, 1, none⟩ (.int .i64 x.rep)).setCell ⟨eb, 2, none⟩ (.int .i64 x.num)).setCell ⟨eb, 3, none⟩ (.int .i32 x.char)).setCell ⟨eb, 4, none⟩ (.int .i64 x.hides)) := bset (bset (bset (bset (bset hb2 (by show w.heap.size ≤ eb; omega)) (by show w.heap.size ≤ eb; omega)) (by show w.heap.size ≤ eb; omega)) (by show w.heap.size ≤ eb; omega)) (by show w.heap.size ≤ eb; omega)
      clear hp2 hx2 hE hb2 c0 c1 c2 c3 c4 e0 e1 e2 e3 e4 f0 f1 f2 f3 f4 p0 p1 p2 x0 x1 x2 x3
      generalize ((((W2.setCell ⟨eb, 0, none⟩ (.int .i64 x.epoch)).setCell ⟨eb, 1, none⟩ (.int .i64 x.rep)).setCell ⟨eb, 2, none⟩ (.int .i64 x.num)).setCell ⟨eb, 3, none⟩ (.int .i32 x.char)).setCell ⟨eb, 4, none⟩ (.int .i64 x.hides) = Y at *
      generalize (some ⟨fb, foff, none⟩ : Option Addr) = B at *
      have HS := hid (fun V (hb : Below w.heap.size w V) => tset_no T p gt ck i x _ (fun b => b < base) V (Hpg.out.1.step hb) (Hpg.out.2.1.step hb) (hs.step hb) hi)
      obtain ⟨p0, p1, p2, pl⟩ := hpZ.three'
      obtain ⟨x0, x1, x2, x3, -, -, -, -, xl⟩ := hxZ.four
      obtain ⟨e0, e1, e2, e3, e4, el⟩ := hEZ.five
      have HN := hid (fun W => no_any ({ data := #[83, 101, 116] } : ByteArray) i (fun _ => False) W)
      repeat' (first | (with_reducible refine stop_region 25 ?_) | ((with_reducible refine region_at 24 ?_); refine wp_region_order [(0, true, false), (1, true, false), (2, true, false), (3, true, false), (4, true, false), (5, true, false), (6, true, false), (7, false, false), (8, true, false)] (by kernel_rfl) (by kernel_rfl) (by kernel_rfl) rfl rfl ?_) | (go_at_call 90; go_must ((with_reducible refine Calls.mono (HS.out _ hbY.drew) ?_); rintro _ w5 ⟨v5, rfl, he5, hb5⟩; dsimp only)) | (with_reducible refine Keep.last ?_) | (with_reducible refine Keep.below (by assumption) ?_) | (with_reducible refine Keep.kept (by assumption) ?_) | (with_reducible refine Keep.alloc ?_) | (with_reducible refine Keep.same ?_) | ((with_reducible refine WpH.here ?_); first | (refine WpH.nil ?_; refine NoP.normal ?_) | (refine WpH.load (by rfl) (by rfl) (by go_simp; rfl) ?_; simp only [Act.put, List.setIfInBounds_toArray, List.set_cons_zero, List.set_cons_succ]) | (refine WpH.loadT (by rfl) (by rfl) (by go_simp; rfl) (by rintro _ _ ⟨⟩; exact ⟨_, _, _, _, _, _, by rfl, by assumption, by assumption⟩) ?_; simp only [Act.put, List.setIfInBounds_toArray, List.set_cons_zero, List.set_cons_succ]) | (refine WpH.pure (by rfl) (fun w_ => by go_simp; (try go_bits); rfl) ?_; simp only [Act.put, List.setIfInBounds_toArray, List.set_cons_zero, List.set_cons_succ]) | (refine WpH.wild1 (by rfl) (fun _ _ => ?_)) | (refine WpH.skip (by rfl) ?_; simp only [Act.put, List.setIfInBounds_toArray, List.set_cons_zero, List.set_cons_succ])) | go_values | go_skip | go_guarded | go_step | go_upon | go_back)
      refine Stop.go ?_
      clear p0 p1 p2 x0 x1 x2 x3 e0 e1 e2 e3 e4
      have hx5 := hxZ.drew.step hb5
      have hp5 := hpZ.drew.step hb5
      have hbb5 := bvia hbY.drew hb5
      have HV5 := hid he5
      obtain ⟨tv, xv, rfl⟩ := he5.notNil
      obtain ⟨x0, x1, x2, x3, -, -, -, -, xl⟩ := hx5.four
      obtain ⟨p0, p1, p2, pl⟩ := hp5.three'
      have HF := hid (fun V V' v (hno : IsNo V' (Fr V (fun _ => False)) [⟨({ data := #[116, 114, 101, 101] } : ByteArray), ({ data := #[83, 101, 116] } : ByteArray), atOf i⟩] 2 v) (he : IsErr V' (fun _ => True) a [⟨({ data := #[116, 114, 101, 101] } : ByteArray), ({ data := #[83, 101, 116] } : ByteArray), atOf i⟩] 2 (.iface tv (.pointer (some xv)))) (hs : Sents V' (fun _ => True) a) => refused_any _ 2 _ v _ _ V' he hno hs (by simp))
      clear HS hs he5
      repeat' (first | (go_at_call 89; go_must ((with_reducible refine Calls.mono (HN.out _) ?_); rintro _ w9 ⟨v9, rfl, hno9, hb9⟩; dsimp only)) | (go_at_call 28; go_must ((with_reducible refine Calls.mono (HF.out w5 w9 _ hno9 ((HV5.out.step hb9).more fun _ _ _ => trivial) (Hss.out.step (bvia hbb5 hb9)).every) ?_); rintro _ w10 ⟨rfl, hb10⟩; dsimp only)) | (with_reducible refine Keep.last ?_) | (with_reducible refine Keep.below (by assumption) ?_) | (with_reducible refine Keep.kept (by assumption) ?_) | (with_reducible refine Keep.alloc ?_) | (with_reducible refine Keep.same ?_) | ((with_reducible refine WpH.here ?_); first | (refine WpH.nil ?_; refine NoP.normal ?_) | (refine WpH.load (by rfl) (by rfl) (by go_simp; rfl) ?_; simp only [Act.put, List.setIfInBounds_toArray, List.set_cons_zero, List.set_cons_succ]) | (refine WpH.loadT (by rfl) (by rfl) (by go_simp; rfl) (by rintro _ _ ⟨⟩; exact ⟨_, _, _, _, _, _, by rfl, by assumption, by assumption⟩) ?_; simp only [Act.put, List.setIfInBounds_toArray, List.set_cons_zero, List.set_cons_succ]) | (refine WpH.pure (by rfl) (fun w_ => by go_simp; (try go_bits); rfl) ?_; simp only [Act.put, List.setIfInBounds_toArray, List.set_cons_zero, List.set_cons_succ]) | (refine WpH.wild1 (by rfl) (fun _ _ => ?_)) | (refine WpH.skip (by rfl) ?_; simp only [Act.put, List.setIfInBounds_toArray, List.set_cons_zero, List.set_cons_succ])) | go_values | go_skip | go_guarded | go_step | go_upon | go_back)
      skip
      go_ret
      have e9 := bvia (bvia hbb5 hb9) hb10
      exact ⟨T, rfl, Hh.out.step e9, e9.mono hb, hl, id, rfl⟩
    · have hx0 : x = ⟨0, 0, 0, 0, 0⟩ := by
        rw [hxf]
        unfold firstOf
        obtain rfl := List.eq_nil_of_length_eq_zero (show ls.length = 0 by omega)
        rfl
      have hm' : ¬ ((m : Int) > 0) := by omega
      have Hx0 := hid hx0
      have Hxf := hid hxf
      clear hx0 hxf
      obtain ⟨⟨hlp, hlg⟩, ⟨A, c, hp, hr⟩, p, hg, hT⟩ := h
      have b1 : Below w.heap.size w (w.alloc (.cells #[.int .i64 do_, .int .i64 i, .int .i64 n, .slice B m d] 76)) := balloc (Below.refl _ _)
      have hx1 := Blk.new w 76 #[.int .i64 do_, .int .i64 i, .int .i64 n, .slice B m d]
      have hp1 := hp.step b1
      have HW := hid (fun W => within_any do_ 8 (by decide) (by decide) W)
      rw [hd] at HW
      have hgl := hg.lt
      have hpl := hp.lt
      have hpg : pb ≠ gt := hp.ne hg (by decide)
      have Hpg := hid (And.intro hg (And.intro hT hr))
      clear hg hT hr hd hls
      go_enter Tryd.func38, Tryd.ntmps38
      repeat' (first | (with_reducible refine stop_region 1 ?_) | (with_reducible refine Keep.last ?_) | (with_reducible refine Keep.below (by assumption) ?_) | (with_reducible refine Keep.kept (by assumption) ?_) | (with_reducible refine Keep.alloc ?_) | (with_reducible refine Keep.same ?_) | ((with_reducible refine WpH.here ?_); first | (refine WpH.nil ?_; refine NoP.normal ?_) | (refine WpH.load (by rfl) (by rfl) (by go_simp; rfl) ?_; simp only [Act.put, List.setIfInBounds_toArray, List.set_cons_zero, List.set_cons_succ]) | (refine WpH.loadT (by rfl) (by rfl) (by go_simp; rfl) (by rintro _ _ ⟨⟩; exact ⟨_, _, _, _, _, _, by rfl, by assumption, by assumption⟩) ?_; simp only [Act.put, List.setIfInBounds_toArray, List.set_cons_zero, List.set_cons_succ]) | (refine WpH.pure (by rfl) (fun w_ => by go_simp; (try go_bits); rfl) ?_; simp only [Act.put, List.setIfInBounds_toArray, List.set_cons_zero, List.set_cons_succ]) | (refine WpH.wild1 (by rfl) (fun _ _ => ?_)) | (refine WpH.skip (by rfl) ?_; simp only [Act.put, List.setIfInBounds_toArray, List.set_cons_zero, List.set_cons_succ])) | go_values | go_skip | go_guarded | go_step | go_upon | go_back)
      refine Stop.go ?_
      have hs1 : (w.alloc (.cells #[.int .i64 do_, .int .i64 i, .int .i64 n, .slice B m d] 76)).heap.size = w.heap.size + 1 := box_sz _ _
      generalize w.alloc (.cells #[.int .i64 do_, .int .i64 i, .int .i64 n, .slice B m d] 76) = W1 at *
      obtain ⟨p0, p1, p2, pl⟩ := hp1.three'
      obtain ⟨x0, x1, x2, x3, -, -, -, -, xl⟩ := hx1.four
      repeat' (first | (with_reducible refine stop_region 22 ?_) | (go_at_call 23; go_must ((with_reducible refine Calls.mono (HW.out _) ?_); rintro _ _ ⟨rfl, rfl⟩; dsimp only)) | (with_reducible refine Keep.last ?_) | (with_reducible refine Keep.below (by assumption) ?_) | (with_reducible refine Keep.kept (by assumption) ?_) | (with_reducible refine Keep.alloc ?_) | (with_reducible refine Keep.same ?_) | ((with_reducible refine WpH.here ?_); first | (refine WpH.nil ?_; refine NoP.normal ?_) | (refine WpH.load (by rfl) (by rfl) (by go_simp; rfl) ?_; simp only [Act.put, List.setIfInBounds_toArray, List.set_cons_zero, List.set_cons_succ]) | (refine WpH.loadT (by rfl) (by rfl) (by go_simp; rfl) (by rintro _ _ ⟨⟩; exact ⟨_, _, _, _, _, _, by rfl, by assumption, by assumption⟩) ?_; simp only [Act.put, List.setIfInBounds_toArray, List.set_cons_zero, List.set_cons_succ]) | (refine WpH.pure (by rfl) (fun w_ => by go_simp; (try go_bits); rfl) ?_; simp only [Act.put, List.setIfInBounds_toArray, List.set_cons_zero, List.set_cons_succ]) | (refine WpH.wild1 (by rfl) (fun _ _ => ?_)) | (refine WpH.skip (by rfl) ?_; simp only [Act.put, List.setIfInBounds_toArray, List.set_cons_zero, List.set_cons_succ])) | go_values | go_skip | go_guarded | go_step | go_upon | go_back)
      refine Stop.go ?_
      have eX := balloc (o := .cells #[.int .i64 0, .int .i64 0, .int .i64 0, .int .i32 0, .int .i64 0] 36) (Below.refl _ W1)
      have hE := Blk.new W1 36 #[.int .i64 0, .int .i64 0, .int .i64 0, .int .i32 0, .int .i64 0]
      have hp2 := hp1.step eX
      have hx2 := hx1.step eX
      have hb2 := bvia b1 eX
      generalize W1.alloc (.cells #[.int .i64 0, .int .i64 0, .int .i64 0, .int .i32 0, .int .i64 0] 36) = W2 at *
      obtain ⟨eb, heb⟩ : ∃ eb, eb = w.heap.size + 1 := ⟨_, rfl⟩
      rw [hs1, ← heb] at hE
      rw [← heb]
      have hebw : w.heap.size < eb := by omega
      clear p0 p1 p2 x0 x1 x2 x3 b1 hp1 hx1 eX heb hs1
      obtain ⟨p0, p1, p2, pl⟩ := hp2.three'
      obtain ⟨x0, x1, x2, x3, -, -, -, -, xl⟩ := hx2.four
      repeat' (first | (with_reducible refine stop_region 24 ?_) | (with_reducible refine Keep.last ?_) | (with_reducible refine Keep.below (by assumption) ?_) | (with_reducible refine Keep.kept (by assumption) ?_) | (with_reducible refine Keep.alloc ?_) | (with_reducible refine Keep.same ?_) | ((with_reducible refine WpH.here ?_); first | (refine WpH.nil ?_; refine NoP.normal ?_) | (refine WpH.load (by rfl) (by rfl) (by go_simp; rfl) ?_; simp only [Act.put, List.setIfInBounds_toArray, List.set_cons_zero, List.set_cons_succ]) | (refine WpH.loadT (by rfl) (by rfl) (by go_simp; rfl) (by rintro _ _ ⟨⟩; exact ⟨_, _, _, _, _, _, by rfl, by assumption, by assumption⟩) ?_; simp only [Act.put, List.setIfInBounds_toArray, List.set_cons_zero, List.set_cons_succ]) | (refine WpH.pure (by rfl) (fun w_ => by go_simp; (try go_bits); rfl) ?_; simp only [Act.put, List.setIfInBounds_toArray, List.set_cons_zero, List.set_cons_succ]) | (refine WpH.wild1 (by rfl) (fun _ _ => ?_)) | (refine WpH.skip (by rfl) ?_; simp only [Act.put, List.setIfInBounds_toArray, List.set_cons_zero, List.set_cons_succ])) | go_values | go_skip | go_guarded | go_step | go_upon | go_back)
      refine Stop.go ?_
      have hEZ : Blk W2 eb 36 #[.int .i64 x.epoch, .int .i64 x.rep, .int .i64 x.num, .int .i32 x.char, .int .i64 x.hides] := by rw [Hx0.out]; exact hE
      have hpZ := hp2
      have hxZ := hx2
      have hbY := hb2
      clear hp2 hx2 hE hb2 p0 p1 p2 x0 x1 x2 x3
      generalize W2 = Y at *
      have HS := hid (fun V (hb : Below w.heap.size w V) => tset_no T p gt ck i x _ (fun b => b < base) V (Hpg.out.1.step hb) (Hpg.out.2.1.step hb) (hs.step hb) hi)
      obtain ⟨p0, p1, p2, pl⟩ := hpZ.three'
      obtain ⟨x0, x1, x2, x3, -, -, -, -, xl⟩ := hxZ.four
      obtain ⟨e0, e1, e2, e3, e4, el⟩ := hEZ.five
      have HN := hid (fun W => no_any ({ data := #[83, 101, 116] } : ByteArray) i (fun _ => False) W)
      repeat' (first | (with_reducible refine stop_region 25 ?_) | ((with_reducible refine region_at 24 ?_); refine wp_region_order [(0, true, false), (1, true, false), (2, true, false), (3, true, false), (4, true, false), (5, true, false), (6, true, false), (7, false, false), (8, true, false)] (by kernel_rfl) (by kernel_rfl) (by kernel_rfl) rfl rfl ?_) | (go_at_call 90; go_must ((with_reducible refine Calls.mono (HS.out _ hbY.drew) ?_); rintro _ w5 ⟨v5, rfl, he5, hb5⟩; dsimp only)) | (with_reducible refine Keep.last ?_) | (with_reducible refine Keep.below (by assumption) ?_) | (with_reducible refine Keep.kept (by assumption) ?_) | (with_reducible refine Keep.alloc ?_) | (with_reducible refine Keep.same ?_) | ((with_reducible refine WpH.here ?_); first | (refine WpH.nil ?_; refine NoP.normal ?_) | (refine WpH.load (by rfl) (by rfl) (by go_simp; rfl) ?_; simp only [Act.put, List.setIfInBounds_toArray, List.set_cons_zero, List.set_cons_succ]) | (refine WpH.loadT (by rfl) (by rfl) (by go_simp; rfl) (by rintro _ _ ⟨⟩; exact ⟨_, _, _, _, _, _, by rfl, by assumption, by assumption⟩) ?_; simp only [Act.put, List.setIfInBounds_toArray, List.set_cons_zero, List.set_cons_succ]) | (refine WpH.pure (by rfl) (fun w_ => by go_simp; (try go_bits); rfl) ?_; simp only [Act.put, List.setIfInBounds_toArray, List.set_cons_zero, List.set_cons_succ]) | (refine WpH.wild1 (by rfl) (fun _ _ => ?_)) | (refine WpH.skip (by rfl) ?_; simp only [Act.put, List.setIfInBounds_toArray, List.set_cons_zero, List.set_cons_succ])) | go_values | go_skip | go_guarded | go_step | go_upon | go_back)
      refine Stop.go ?_
      clear p0 p1 p2 x0 x1 x2 x3 e0 e1 e2 e3 e4
      have hx5 := hxZ.drew.step hb5
      have hp5 := hpZ.drew.step hb5
      have hbb5 := bvia hbY.drew hb5
      have HV5 := hid he5
      obtain ⟨tv, xv, rfl⟩ := he5.notNil
      obtain ⟨x0, x1, x2, x3, -, -, -, -, xl⟩ := hx5.four
      obtain ⟨p0, p1, p2, pl⟩ := hp5.three'
      have HF := hid (fun V V' v (hno : IsNo V' (Fr V (fun _ => False)) [⟨({ data := #[116, 114, 101, 101] } : ByteArray), ({ data := #[83, 101, 116] } : ByteArray), atOf i⟩] 2 v) (he : IsErr V' (fun _ => True) a [⟨({ data := #[116, 114, 101, 101] } : ByteArray), ({ data := #[83, 101, 116] } : ByteArray), atOf i⟩] 2 (.iface tv (.pointer (some xv)))) (hs : Sents V' (fun _ => True) a) => refused_any _ 2 _ v _ _ V' he hno hs (by simp))
      clear HS hs he5
      repeat' (first | (go_at_call 89; go_must ((with_reducible refine Calls.mono (HN.out _) ?_); rintro _ w9 ⟨v9, rfl, hno9, hb9⟩; dsimp only)) | (go_at_call 28; go_must ((with_reducible refine Calls.mono (HF.out w5 w9 _ hno9 ((HV5.out.step hb9).more fun _ _ _ => trivial) (Hss.out.step (bvia hbb5 hb9)).every) ?_); rintro _ w10 ⟨rfl, hb10⟩; dsimp only)) | (with_reducible refine Keep.last ?_) | (with_reducible refine Keep.below (by assumption) ?_) | (with_reducible refine Keep.kept (by assumption) ?_) | (with_reducible refine Keep.alloc ?_) | (with_reducible refine Keep.same ?_) | ((with_reducible refine WpH.here ?_); first | (refine WpH.nil ?_; refine NoP.normal ?_) | (refine WpH.load (by rfl) (by rfl) (by go_simp; rfl) ?_; simp only [Act.put, List.setIfInBounds_toArray, List.set_cons_zero, List.set_cons_succ]) | (refine WpH.loadT (by rfl) (by rfl) (by go_simp; rfl) (by rintro _ _ ⟨⟩; exact ⟨_, _, _, _, _, _, by rfl, by assumption, by assumption⟩) ?_; simp only [Act.put, List.setIfInBounds_toArray, List.set_cons_zero, List.set_cons_succ]) | (refine WpH.pure (by rfl) (fun w_ => by go_simp; (try go_bits); rfl) ?_; simp only [Act.put, List.setIfInBounds_toArray, List.set_cons_zero, List.set_cons_succ]) | (refine WpH.wild1 (by rfl) (fun _ _ => ?_)) | (refine WpH.skip (by rfl) ?_; simp only [Act.put, List.setIfInBounds_toArray, List.set_cons_zero, List.set_cons_succ])) | go_values | go_skip | go_guarded | go_step | go_upon | go_back)
      skip
      go_ret
      have e9 := bvia (bvia hbb5 hb9) hb10
      exact ⟨T, rfl, Hh.out.step e9, e9.mono hb, hl, id, rfl⟩
  · have hi1 : (T.all.length : Int) ≤ i := by omega
    have hmx := hls.len_le
    unfold maxLen at hmx
    have hmd := hls.2.1
    have hlsl := hls.1
    obtain ⟨x, hxf⟩ : ∃ x, x = firstOf ls := ⟨_, rfl⟩
    by_cases hm : 0 < m
    · obtain ⟨fb, foff, fe, rfl, hfb, hfe, c0, c1, c2, c3, c4⟩ := first_at hls hm
      obtain rfl : x = fe := by rw [hxf]; unfold firstOf; rw [hfe]; rfl
      have Hf := hid (And.intro c0 (And.intro c1 (And.intro c2 (And.intro c3 c4))))
      have hfbl := lt_of_cell' c0
      dsimp only at hfbl
      have Hxf := hid hxf
      clear c0 c1 c2 c3 c4 hfe hxf
      generalize hB : (some ⟨fb, foff, none⟩ : Option Addr) = B at *
      obtain ⟨⟨hlp, hlg⟩, ⟨A, c, hp, hr⟩, p, hg, hT⟩ := h
      have b1 : Below w.heap.size w (w.alloc (.cells #[.int .i64 do_, .int .i64 i, .int .i64 n, .slice B m d] 76)) := balloc (Below.refl _ _)
      have hx1 := Blk.new w 76 #[.int .i64 do_, .int .i64 i, .int .i64 n, .slice B m d]
      have hp1 := hp.step b1
      have HW := hid (fun W => within_any do_ 8 (by decide) (by decide) W)
      rw [hd] at HW
      have hgl := hg.lt
      have hpl := hp.lt
      have hpg : pb ≠ gt := hp.ne hg (by decide)
      have Hpg := hid (And.intro hg (And.intro hT hr))
      clear hg hT hr hd hls
      go_enter Tryd.func38, Tryd.ntmps38
      repeat' (first | (with_reducible refine stop_region 1 ?_) | (with_reducible refine Keep.last ?_) | (with_reducible refine Keep.below (by assumption) ?_) | (with_reducible refine Keep.kept (by assumption) ?_) | (with_reducible refine Keep.alloc ?_) | (with_reducible refine Keep.same ?_) | ((with_reducible refine WpH.here ?_); first | (refine WpH.nil ?_; refine NoP.normal ?_) | (refine WpH.load (by rfl) (by rfl) (by go_simp; rfl) ?_; simp only [Act.put, List.setIfInBounds_toArray, List.set_cons_zero, List.set_cons_succ]) | (refine WpH.loadT (by rfl) (by rfl) (by go_simp; rfl) (by rintro _ _ ⟨⟩; exact ⟨_, _, _, _, _, _, by rfl, by assumption, by assumption⟩) ?_; simp only [Act.put, List.setIfInBounds_toArray, List.set_cons_zero, List.set_cons_succ]) | (refine WpH.pure (by rfl) (fun w_ => by go_simp; (try go_bits); rfl) ?_; simp only [Act.put, List.setIfInBounds_toArray, List.set_cons_zero, List.set_cons_succ]) | (refine WpH.wild1 (by rfl) (fun _ _ => ?_)) | (refine WpH.skip (by rfl) ?_; simp only [Act.put, List.setIfInBounds_toArray, List.set_cons_zero, List.set_cons_succ])) | go_values | go_skip | go_guarded | go_step | go_upon | go_back)
      refine Stop.go ?_
      have hs1 : (w.alloc (.cells #[.int .i64 do_, .int .i64 i, .int .i64 n, .slice B m d] 76)).heap.size = w.heap.size + 1 := box_sz _ _
      generalize w.alloc (.cells #[.int .i64 do_, .int .i64 i, .int .i64 n, .slice B m d] 76) = W1 at *
      obtain ⟨p0, p1, p2, pl⟩ := hp1.three'
      obtain ⟨x0, x1, x2, x3, -, -, -, -, xl⟩ := hx1.four
      repeat' (first | (with_reducible refine stop_region 22 ?_) | (go_at_call 23; go_must ((with_reducible refine Calls.mono (HW.out _) ?_); rintro _ _ ⟨rfl, rfl⟩; dsimp only)) | (with_reducible refine Keep.last ?_) | (with_reducible refine Keep.below (by assumption) ?_) | (with_reducible refine Keep.kept (by assumption) ?_) | (with_reducible refine Keep.alloc ?_) | (with_reducible refine Keep.same ?_) | ((with_reducible refine WpH.here ?_); first | (refine WpH.nil ?_; refine NoP.normal ?_) | (refine WpH.load (by rfl) (by rfl) (by go_simp; rfl) ?_; simp only [Act.put, List.setIfInBounds_toArray, List.set_cons_zero, List.set_cons_succ]) | (refine WpH.loadT (by rfl) (by rfl) (by go_simp; rfl) (by rintro _ _ ⟨⟩; exact ⟨_, _, _, _, _, _, by rfl, by assumption, by assumption⟩) ?_; simp only [Act.put, List.setIfInBounds_toArray, List.set_cons_zero, List.set_cons_succ]) | (refine WpH.pure (by rfl) (fun w_ => by go_simp; (try go_bits); rfl) ?_; simp only [Act.put, List.setIfInBounds_toArray, List.set_cons_zero, List.set_cons_succ]) | (refine WpH.wild1 (by rfl) (fun _ _ => ?_)) | (refine WpH.skip (by rfl) ?_; simp only [Act.put, List.setIfInBounds_toArray, List.set_cons_zero, List.set_cons_succ])) | go_values | go_skip | go_guarded | go_step | go_upon | go_back)
      refine Stop.go ?_
      have eX := balloc (o := .cells #[.int .i64 0, .int .i64 0, .int .i64 0, .int .i32 0, .int .i64 0] 36) (Below.refl _ W1)
      have hE := Blk.new W1 36 #[.int .i64 0, .int .i64 0, .int .i64 0, .int .i32 0, .int .i64 0]
      have hp2 := hp1.step eX
      have hx2 := hx1.step eX
      have hb2 := bvia b1 eX
      generalize W1.alloc (.cells #[.int .i64 0, .int .i64 0, .int .i64 0, .int .i32 0, .int .i64 0] 36) = W2 at *
      obtain ⟨eb, heb⟩ : ∃ eb, eb = w.heap.size + 1 := ⟨_, rfl⟩
      rw [hs1, ← heb] at hE
      rw [← heb]
      have hebw : w.heap.size < eb := by omega
      clear p0 p1 p2 x0 x1 x2 x3 b1 hp1 hx1 eX heb hs1
      obtain ⟨p0, p1, p2, pl⟩ := hp2.three'
      obtain ⟨x0, x1, x2, x3, -, -, -, -, xl⟩ := hx2.four
      subst hB
      have c0 := kc hb2 Hf.out.1
      have c1 := kc hb2 Hf.out.2.1
      have c2 := kc hb2 Hf.out.2.2.1
      have c3 := kc hb2 Hf.out.2.2.2.1
      have c4 := kc hb2 Hf.out.2.2.2.2
      have hcb : fb < W2.heap.size := Nat.lt_of_lt_of_le hfbl hb2.size
      obtain ⟨e0, e1, e2, e3, e4, el⟩ := hE.five
      have f0 := hE.frozen 0
      have f1 := hE.frozen 1
      have f2 := hE.frozen 2
      have f3 := hE.frozen 3
      have f4 := hE.frozen 4
      repeat' (first | (with_reducible refine stop_region 24 ?_) | (with_reducible refine Keep.last ?_) | (with_reducible refine Keep.below (by assumption) ?_) | (with_reducible refine Keep.kept (by assumption) ?_) | (with_reducible refine Keep.alloc ?_) | (with_reducible refine Keep.same ?_) | ((with_reducible refine WpH.here ?_); first | (refine WpH.nil ?_; refine NoP.normal ?_) | (refine WpH.load (by rfl) (by rfl) (by go_simp; rfl) ?_; simp only [Act.put, List.setIfInBounds_toArray, List.set_cons_zero, List.set_cons_succ]) | (refine WpH.loadT (by rfl) (by rfl) (by go_simp; rfl) (by rintro _ _ ⟨⟩; exact ⟨_, _, _, _, _, _, by rfl, by assumption, by assumption⟩) ?_; simp only [Act.put, List.setIfInBounds_toArray, List.set_cons_zero, List.set_cons_succ]) | (refine WpH.pure (by rfl) (fun w_ => by go_simp; (try go_bits); rfl) ?_; simp only [Act.put, List.setIfInBounds_toArray, List.set_cons_zero, List.set_cons_succ]) | (refine WpH.wild1 (by rfl) (fun _ _ => ?_)) | (refine WpH.skip (by rfl) ?_; simp only [Act.put, List.setIfInBounds_toArray, List.set_cons_zero, List.set_cons_succ])) | go_values | go_skip | go_guarded | go_step | go_upon | go_back)
      refine Stop.go ?_
      have hpZ := ((((hp2.far (p := ⟨eb, 0, none⟩) (by show pb ≠ eb; omega) (.int .i64 x.epoch)).far (p := ⟨eb, 1, none⟩) (by show pb ≠ eb; omega) (.int .i64 x.rep)).far (p := ⟨eb, 2, none⟩) (by show pb ≠ eb; omega) (.int .i64 x.num)).far (p := ⟨eb, 3, none⟩) (by show pb ≠ eb; omega) (.int .i32 x.char)).far (p := ⟨eb, 4, none⟩) (by show pb ≠ eb; omega) (.int .i64 x.hides)
      have hxZ := ((((hx2.far (p := ⟨eb, 0, none⟩) (by show w.heap.size ≠ eb; omega) (.int .i64 x.epoch)).far (p := ⟨eb, 1, none⟩) (by show w.heap.size ≠ eb; omega) (.int .i64 x.rep)).far (p := ⟨eb, 2, none⟩) (by show w.heap.size ≠ eb; omega) (.int .i64 x.num)).far (p := ⟨eb, 3, none⟩) (by show w.heap.size ≠ eb; omega) (.int .i32 x.char)).far (p := ⟨eb, 4, none⟩) (by show w.heap.size ≠ eb; omega) (.int .i64 x.hides)
      have hEZ := hE.set5 (.int .i64 x.epoch) (.int .i64 x.rep) (.int .i64 x.num) (.int .i32 x.char) (.int .i64 x.hides)
      have hbY : Below w.heap.size w (((((W2.setCell ⟨eb, 0, none⟩ (.int .i64 x.epoch)).setCell ⟨eb, 1, none⟩ (.int .i64 x.rep)).setCell ⟨eb, 2, none⟩ (.int .i64 x.num)).setCell ⟨eb, 3, none⟩ (.int .i32 x.char)).setCell ⟨eb, 4, none⟩ (.int .i64 x.hides)) := bset (bset (bset (bset (bset hb2 (by show w.heap.size ≤ eb; omega)) (by show w.heap.size ≤ eb; omega)) (by show w.heap.size ≤ eb; omega)) (by show w.heap.size ≤ eb; omega)) (by show w.heap.size ≤ eb; omega)
      clear hp2 hx2 hE hb2 c0 c1 c2 c3 c4 e0 e1 e2 e3 e4 f0 f1 f2 f3 f4 p0 p1 p2 x0 x1 x2 x3
      generalize ((((W2.setCell ⟨eb, 0, none⟩ (.int .i64 x.epoch)).setCell ⟨eb, 1, none⟩ (.int .i64 x.rep)).setCell ⟨eb, 2, none⟩ (.int .i64 x.num)).setCell ⟨eb, 3, none⟩ (.int .i32 x.char)).setCell ⟨eb, 4, none⟩ (.int .i64 x.hides) = Y at *
      generalize (some ⟨fb, foff, none⟩ : Option Addr) = B at *
      have HS := hid (fun V (hb : Below w.heap.size w V) => tset_no T p gt ck i x _ (fun b => b < base) V (Hpg.out.1.step hb) (Hpg.out.2.1.step hb) (hs.step hb) hi)
      obtain ⟨p0, p1, p2, pl⟩ := hpZ.three'
      obtain ⟨x0, x1, x2, x3, -, -, -, -, xl⟩ := hxZ.four
      obtain ⟨e0, e1, e2, e3, e4, el⟩ := hEZ.five
      have HN := hid (fun W => no_any ({ data := #[83, 101, 116] } : ByteArray) i (fun _ => False) W)
      repeat' (first | (with_reducible refine stop_region 25 ?_) | ((with_reducible refine region_at 24 ?_); refine wp_region_order [(0, true, false), (1, true, false), (2, true, false), (3, true, false), (4, true, false), (5, true, false), (6, true, false), (7, false, false), (8, true, false)] (by kernel_rfl) (by kernel_rfl) (by kernel_rfl) rfl rfl ?_) | (go_at_call 90; go_must ((with_reducible refine Calls.mono (HS.out _ hbY.drew) ?_); rintro _ w5 ⟨v5, rfl, he5, hb5⟩; dsimp only)) | (with_reducible refine Keep.last ?_) | (with_reducible refine Keep.below (by assumption) ?_) | (with_reducible refine Keep.kept (by assumption) ?_) | (with_reducible refine Keep.alloc ?_) | (with_reducible refine Keep.same ?_) | ((with_reducible refine WpH.here ?_); first | (refine WpH.nil ?_; refine NoP.normal ?_) | (refine WpH.load (by rfl) (by rfl) (by go_simp; rfl) ?_; simp only [Act.put, List.setIfInBounds_toArray, List.set_cons_zero, List.set_cons_succ]) | (refine WpH.loadT (by rfl) (by rfl) (by go_simp; rfl) (by rintro _ _ ⟨⟩; exact ⟨_, _, _, _, _, _, by rfl, by assumption, by assumption⟩) ?_; simp only [Act.put, List.setIfInBounds_toArray, List.set_cons_zero, List.set_cons_succ]) | (refine WpH.pure (by rfl) (fun w_ => by go_simp; (try go_bits); rfl) ?_; simp only [Act.put, List.setIfInBounds_toArray, List.set_cons_zero, List.set_cons_succ]) | (refine WpH.wild1 (by rfl) (fun _ _ => ?_)) | (refine WpH.skip (by rfl) ?_; simp only [Act.put, List.setIfInBounds_toArray, List.set_cons_zero, List.set_cons_succ])) | go_values | go_skip | go_guarded | go_step | go_upon | go_back)
      refine Stop.go ?_
      clear p0 p1 p2 x0 x1 x2 x3 e0 e1 e2 e3 e4
      have hx5 := hxZ.drew.step hb5
      have hp5 := hpZ.drew.step hb5
      have hbb5 := bvia hbY.drew hb5
      have HV5 := hid he5
      obtain ⟨tv, xv, rfl⟩ := he5.notNil
      obtain ⟨x0, x1, x2, x3, -, -, -, -, xl⟩ := hx5.four
      obtain ⟨p0, p1, p2, pl⟩ := hp5.three'
      have HF := hid (fun V V' v (hno : IsNo V' (Fr V (fun _ => False)) [⟨({ data := #[116, 114, 101, 101] } : ByteArray), ({ data := #[83, 101, 116] } : ByteArray), atOf i⟩] 2 v) (he : IsErr V' (fun _ => True) a [⟨({ data := #[116, 114, 101, 101] } : ByteArray), ({ data := #[83, 101, 116] } : ByteArray), atOf i⟩] 2 (.iface tv (.pointer (some xv)))) (hs : Sents V' (fun _ => True) a) => refused_any _ 2 _ v _ _ V' he hno hs (by simp))
      clear HS hs he5
      repeat' (first | (go_at_call 89; go_must ((with_reducible refine Calls.mono (HN.out _) ?_); rintro _ w9 ⟨v9, rfl, hno9, hb9⟩; dsimp only)) | (go_at_call 28; go_must ((with_reducible refine Calls.mono (HF.out w5 w9 _ hno9 ((HV5.out.step hb9).more fun _ _ _ => trivial) (Hss.out.step (bvia hbb5 hb9)).every) ?_); rintro _ w10 ⟨rfl, hb10⟩; dsimp only)) | (with_reducible refine Keep.last ?_) | (with_reducible refine Keep.below (by assumption) ?_) | (with_reducible refine Keep.kept (by assumption) ?_) | (with_reducible refine Keep.alloc ?_) | (with_reducible refine Keep.same ?_) | ((with_reducible refine WpH.here ?_); first | (refine WpH.nil ?_; refine NoP.normal ?_) | (refine WpH.load (by rfl) (by rfl) (by go_simp; rfl) ?_; simp only [Act.put, List.setIfInBounds_toArray, List.set_cons_zero, List.set_cons_succ]) | (refine WpH.loadT (by rfl) (by rfl) (by go_simp; rfl) (by rintro _ _ ⟨⟩; exact ⟨_, _, _, _, _, _, by rfl, by assumption, by assumption⟩) ?_; simp only [Act.put, List.setIfInBounds_toArray, List.set_cons_zero, List.set_cons_succ]) | (refine WpH.pure (by rfl) (fun w_ => by go_simp; (try go_bits); rfl) ?_; simp only [Act.put, List.setIfInBounds_toArray, List.set_cons_zero, List.set_cons_succ]) | (refine WpH.wild1 (by rfl) (fun _ _ => ?_)) | (refine WpH.skip (by rfl) ?_; simp only [Act.put, List.setIfInBounds_toArray, List.set_cons_zero, List.set_cons_succ])) | go_values | go_skip | go_guarded | go_step | go_upon | go_back)
      skip
      go_ret
      have e9 := bvia (bvia hbb5 hb9) hb10
      exact ⟨T, rfl, Hh.out.step e9, e9.mono hb, hl, id, rfl⟩
    · have hx0 : x = ⟨0, 0, 0, 0, 0⟩ := by
        rw [hxf]
        unfold firstOf
        obtain rfl := List.eq_nil_of_length_eq_zero (show ls.length = 0 by omega)
        rfl
      have hm' : ¬ ((m : Int) > 0) := by omega
      have Hx0 := hid hx0
      have Hxf := hid hxf
      clear hx0 hxf
      obtain ⟨⟨hlp, hlg⟩, ⟨A, c, hp, hr⟩, p, hg, hT⟩ := h
      have b1 : Below w.heap.size w (w.alloc (.cells #[.int .i64 do_, .int .i64 i, .int .i64 n, .slice B m d] 76)) := balloc (Below.refl _ _)
      have hx1 := Blk.new w 76 #[.int .i64 do_, .int .i64 i, .int .i64 n, .slice B m d]
      have hp1 := hp.step b1
      have HW := hid (fun W => within_any do_ 8 (by decide) (by decide) W)
      rw [hd] at HW
      have hgl := hg.lt
      have hpl := hp.lt
      have hpg : pb ≠ gt := hp.ne hg (by decide)
      have Hpg := hid (And.intro hg (And.intro hT hr))
      clear hg hT hr hd hls
      go_enter Tryd.func38, Tryd.ntmps38
      repeat' (first | (with_reducible refine stop_region 1 ?_) | (with_reducible refine Keep.last ?_) | (with_reducible refine Keep.below (by assumption) ?_) | (with_reducible refine Keep.kept (by assumption) ?_) | (with_reducible refine Keep.alloc ?_) | (with_reducible refine Keep.same ?_) | ((with_reducible refine WpH.here ?_); first | (refine WpH.nil ?_; refine NoP.normal ?_) | (refine WpH.load (by rfl) (by rfl) (by go_simp; rfl) ?_; simp only [Act.put, List.setIfInBounds_toArray, List.set_cons_zero, List.set_cons_succ]) | (refine WpH.loadT (by rfl) (by rfl) (by go_simp; rfl) (by rintro _ _ ⟨⟩; exact ⟨_, _, _, _, _, _, by rfl, by assumption, by assumption⟩) ?_; simp only [Act.put, List.setIfInBounds_toArray, List.set_cons_zero, List.set_cons_succ]) | (refine WpH.pure (by rfl) (fun w_ => by go_simp; (try go_bits); rfl) ?_; simp only [Act.put, List.setIfInBounds_toArray, List.set_cons_zero, List.set_cons_succ]) | (refine WpH.wild1 (by rfl) (fun _ _ => ?_)) | (refine WpH.skip (by rfl) ?_; simp only [Act.put, List.setIfInBounds_toArray, List.set_cons_zero, List.set_cons_succ])) | go_values | go_skip | go_guarded | go_step | go_upon | go_back)
      refine Stop.go ?_
      have hs1 : (w.alloc (.cells #[.int .i64 do_, .int .i64 i, .int .i64 n, .slice B m d] 76)).heap.size = w.heap.size + 1 := box_sz _ _
      generalize w.alloc (.cells #[.int .i64 do_, .int .i64 i, .int .i64 n, .slice B m d] 76) = W1 at *
      obtain ⟨p0, p1, p2, pl⟩ := hp1.three'
      obtain ⟨x0, x1, x2, x3, -, -, -, -, xl⟩ := hx1.four
      repeat' (first | (with_reducible refine stop_region 22 ?_) | (go_at_call 23; go_must ((with_reducible refine Calls.mono (HW.out _) ?_); rintro _ _ ⟨rfl, rfl⟩; dsimp only)) | (with_reducible refine Keep.last ?_) | (with_reducible refine Keep.below (by assumption) ?_) | (with_reducible refine Keep.kept (by assumption) ?_) | (with_reducible refine Keep.alloc ?_) | (with_reducible refine Keep.same ?_) | ((with_reducible refine WpH.here ?_); first | (refine WpH.nil ?_; refine NoP.normal ?_) | (refine WpH.load (by rfl) (by rfl) (by go_simp; rfl) ?_; simp only [Act.put, List.setIfInBounds_toArray, List.set_cons_zero, List.set_cons_succ]) | (refine WpH.loadT (by rfl) (by rfl) (by go_simp; rfl) (by rintro _ _ ⟨⟩; exact ⟨_, _, _, _, _, _, by rfl, by assumption, by assumption⟩) ?_; simp only [Act.put, List.setIfInBounds_toArray, List.set_cons_zero, List.set_cons_succ]) | (refine WpH.pure (by rfl) (fun w_ => by go_simp; (try go_bits); rfl) ?_; simp only [Act.put, List.setIfInBounds_toArray, List.set_cons_zero, List.set_cons_succ]) | (refine WpH.wild1 (by rfl) (fun _ _ => ?_)) | (refine WpH.skip (by rfl) ?_; simp only [Act.put, List.setIfInBounds_toArray, List.set_cons_zero, List.set_cons_succ])) | go_values | go_skip | go_guarded | go_step | go_upon | go_back)
      refine Stop.go ?_
      have eX := balloc (o := .cells #[.int .i64 0, .int .i64 0, .int .i64 0, .int .i32 0, .int .i64 0] 36) (Below.refl _ W1)
      have hE := Blk.new W1 36 #[.int .i64 0, .int .i64 0, .int .i64 0, .int .i32 0, .int .i64 0]
      have hp2 := hp1.step eX
      have hx2 := hx1.step eX
      have hb2 := bvia b1 eX
      generalize W1.alloc (.cells #[.int .i64 0, .int .i64 0, .int .i64 0, .int .i32 0, .int .i64 0] 36) = W2 at *
      obtain ⟨eb, heb⟩ : ∃ eb, eb = w.heap.size + 1 := ⟨_, rfl⟩
      rw [hs1, ← heb] at hE
      rw [← heb]
      have hebw : w.heap.size < eb := by omega
      clear p0 p1 p2 x0 x1 x2 x3 b1 hp1 hx1 eX heb hs1
      obtain ⟨p0, p1, p2, pl⟩ := hp2.three'
      obtain ⟨x0, x1, x2, x3, -, -, -, -, xl⟩ := hx2.four
      repeat' (first | (with_reducible refine stop_region 24 ?_) | (with_reducible refine Keep.last ?_) | (with_reducible refine Keep.below (by assumption) ?_) | (with_reducible refine Keep.kept (by assumption) ?_) | (with_reducible refine Keep.alloc ?_) | (with_reducible refine Keep.same ?_) | ((with_reducible refine WpH.here ?_); first | (refine WpH.nil ?_; refine NoP.normal ?_) | (refine WpH.load (by rfl) (by rfl) (by go_simp; rfl) ?_; simp only [Act.put, List.setIfInBounds_toArray, List.set_cons_zero, List.set_cons_succ]) | (refine WpH.loadT (by rfl) (by rfl) (by go_simp; rfl) (by rintro _ _ ⟨⟩; exact ⟨_, _, _, _, _, _, by rfl, by assumption, by assumption⟩) ?_; simp only [Act.put, List.setIfInBounds_toArray, List.set_cons_zero, List.set_cons_succ]) | (refine WpH.pure (by rfl) (fun w_ => by go_simp; (try go_bits); rfl) ?_; simp only [Act.put, List.setIfInBounds_toArray, List.set_cons_zero, List.set_cons_succ]) | (refine WpH.wild1 (by rfl) (fun _ _ => ?_)) | (refine WpH.skip (by rfl) ?_; simp only [Act.put, List.setIfInBounds_toArray, List.set_cons_zero, List.set_cons_succ])) | go_values | go_skip | go_guarded | go_step | go_upon | go_back)
      refine Stop.go ?_
      have hEZ : Blk W2 eb 36 #[.int .i64 x.epoch, .int .i64 x.rep, .int .i64 x.num, .int .i32 x.char, .int .i64 x.hides] := by rw [Hx0.out]; exact hE
      have hpZ := hp2
      have hxZ := hx2
      have hbY := hb2
      clear hp2 hx2 hE hb2 p0 p1 p2 x0 x1 x2 x3
      generalize W2 = Y at *
      have HS := hid (fun V (hb : Below w.heap.size w V) => tset_no T p gt ck i x _ (fun b => b < base) V (Hpg.out.1.step hb) (Hpg.out.2.1.step hb) (hs.step hb) hi)
      obtain ⟨p0, p1, p2, pl⟩ := hpZ.three'
      obtain ⟨x0, x1, x2, x3, -, -, -, -, xl⟩ := hxZ.four
      obtain ⟨e0, e1, e2, e3, e4, el⟩ := hEZ.five
      have HN := hid (fun W => no_any ({ data := #[83, 101, 116] } : ByteArray) i (fun _ => False) W)
      repeat' (first | (with_reducible refine stop_region 25 ?_) | ((with_reducible refine region_at 24 ?_); refine wp_region_order [(0, true, false), (1, true, false), (2, true, false), (3, true, false), (4, true, false), (5, true, false), (6, true, false), (7, false, false), (8, true, false)] (by kernel_rfl) (by kernel_rfl) (by kernel_rfl) rfl rfl ?_) | (go_at_call 90; go_must ((with_reducible refine Calls.mono (HS.out _ hbY.drew) ?_); rintro _ w5 ⟨v5, rfl, he5, hb5⟩; dsimp only)) | (with_reducible refine Keep.last ?_) | (with_reducible refine Keep.below (by assumption) ?_) | (with_reducible refine Keep.kept (by assumption) ?_) | (with_reducible refine Keep.alloc ?_) | (with_reducible refine Keep.same ?_) | ((with_reducible refine WpH.here ?_); first | (refine WpH.nil ?_; refine NoP.normal ?_) | (refine WpH.load (by rfl) (by rfl) (by go_simp; rfl) ?_; simp only [Act.put, List.setIfInBounds_toArray, List.set_cons_zero, List.set_cons_succ]) | (refine WpH.loadT (by rfl) (by rfl) (by go_simp; rfl) (by rintro _ _ ⟨⟩; exact ⟨_, _, _, _, _, _, by rfl, by assumption, by assumption⟩) ?_; simp only [Act.put, List.setIfInBounds_toArray, List.set_cons_zero, List.set_cons_succ]) | (refine WpH.pure (by rfl) (fun w_ => by go_simp; (try go_bits); rfl) ?_; simp only [Act.put, List.setIfInBounds_toArray, List.set_cons_zero, List.set_cons_succ]) | (refine WpH.wild1 (by rfl) (fun _ _ => ?_)) | (refine WpH.skip (by rfl) ?_; simp only [Act.put, List.setIfInBounds_toArray, List.set_cons_zero, List.set_cons_succ])) | go_values | go_skip | go_guarded | go_step | go_upon | go_back)
      refine Stop.go ?_
      clear p0 p1 p2 x0 x1 x2 x3 e0 e1 e2 e3 e4
      have hx5 := hxZ.drew.step hb5
      have hp5 := hpZ.drew.step hb5
      have hbb5 := bvia hbY.drew hb5
      have HV5 := hid he5
      obtain ⟨tv, xv, rfl⟩ := he5.notNil
      obtain ⟨x0, x1, x2, x3, -, -, -, -, xl⟩ := hx5.four
      obtain ⟨p0, p1, p2, pl⟩ := hp5.three'
      have HF := hid (fun V V' v (hno : IsNo V' (Fr V (fun _ => False)) [⟨({ data := #[116, 114, 101, 101] } : ByteArray), ({ data := #[83, 101, 116] } : ByteArray), atOf i⟩] 2 v) (he : IsErr V' (fun _ => True) a [⟨({ data := #[116, 114, 101, 101] } : ByteArray), ({ data := #[83, 101, 116] } : ByteArray), atOf i⟩] 2 (.iface tv (.pointer (some xv)))) (hs : Sents V' (fun _ => True) a) => refused_any _ 2 _ v _ _ V' he hno hs (by simp))
      clear HS hs he5
      repeat' (first | (go_at_call 89; go_must ((with_reducible refine Calls.mono (HN.out _) ?_); rintro _ w9 ⟨v9, rfl, hno9, hb9⟩; dsimp only)) | (go_at_call 28; go_must ((with_reducible refine Calls.mono (HF.out w5 w9 _ hno9 ((HV5.out.step hb9).more fun _ _ _ => trivial) (Hss.out.step (bvia hbb5 hb9)).every) ?_); rintro _ w10 ⟨rfl, hb10⟩; dsimp only)) | (with_reducible refine Keep.last ?_) | (with_reducible refine Keep.below (by assumption) ?_) | (with_reducible refine Keep.kept (by assumption) ?_) | (with_reducible refine Keep.alloc ?_) | (with_reducible refine Keep.same ?_) | ((with_reducible refine WpH.here ?_); first | (refine WpH.nil ?_; refine NoP.normal ?_) | (refine WpH.load (by rfl) (by rfl) (by go_simp; rfl) ?_; simp only [Act.put, List.setIfInBounds_toArray, List.set_cons_zero, List.set_cons_succ]) | (refine WpH.loadT (by rfl) (by rfl) (by go_simp; rfl) (by rintro _ _ ⟨⟩; exact ⟨_, _, _, _, _, _, by rfl, by assumption, by assumption⟩) ?_; simp only [Act.put, List.setIfInBounds_toArray, List.set_cons_zero, List.set_cons_succ]) | (refine WpH.pure (by rfl) (fun w_ => by go_simp; (try go_bits); rfl) ?_; simp only [Act.put, List.setIfInBounds_toArray, List.set_cons_zero, List.set_cons_succ]) | (refine WpH.wild1 (by rfl) (fun _ _ => ?_)) | (refine WpH.skip (by rfl) ?_; simp only [Act.put, List.setIfInBounds_toArray, List.set_cons_zero, List.set_cons_succ])) | go_values | go_skip | go_guarded | go_step | go_upon | go_back)
      skip
      go_ret
      have e9 := bvia (bvia hbb5 hb9) hb10
      exact ⟨T, rfl, Hh.out.step e9, e9.mono hb, hl, id, rfl⟩
end Go.Proofs.YtogkbddniacgiaaDoor
