/- A tree beside its plain list: Insert, Remove and Set by both: the walks. Conditions: both lie in memory, fewer than 601 elements. -/
import Derived.Test.YtogkbddniacgiaaDoorLend
import Derived.Test.YtogkbddniacgiaaDoorGood
import Derived.Test.YtogkbddniacgiaaDoorLaw04
namespace Go.Proofs.YtogkbddniacgiaaDoor
set_option linter.unusedSimpArgs false
set_option linter.unusedVariables false
open Go Go.RowKit
variable {S : Nat → Prop} {a : Nat → Addr}
theorem Blk.three' {w : World} {g : Nat} {t : TypeId} {x y z : Value} (h : Blk w g t #[x, y, z]) : w.cell? ⟨g, 0, none⟩ = some x ∧ w.cell? ⟨g, 1, none⟩ = some y ∧ w.cell? ⟨g, 2, none⟩ = some z ∧ g < w.heap.size :=
  ⟨h.cell 0, h.cell 1, h.cell 2, h.lt⟩
theorem box_sz (w : World) (o : Obj) : (w.alloc o).heap.size = w.heap.size + 1 := Array.size_push _
theorem no_none (call : ByteArray) (n : Int) (w : World) : Calls Tryd.prog 89 #[.string call, .int .i64 n, .bool false] w fun e w' => e = .returned noNone ∧ Below w.heap.size w w' := by
  unfold noNone
  go_enter Tryd.func89, Tryd.ntmps89
  repeat' (first | (with_reducible refine Keep.last ?_) | (with_reducible refine Keep.below (by assumption) ?_) | (with_reducible refine Keep.kept (by assumption) ?_) | (with_reducible refine Keep.alloc ?_) | (with_reducible refine Keep.same ?_) | ((with_reducible refine WpH.here ?_); first | (refine WpH.nil ?_; refine NoP.normal ?_) | (refine WpH.load (by rfl) (by rfl) (by go_simp; rfl) ?_; simp only [Act.put, List.setIfInBounds_toArray, List.set_cons_zero, List.set_cons_succ]) | (refine WpH.loadT (by rfl) (by rfl) (by go_simp; rfl) (by rintro _ _ ⟨⟩; exact ⟨_, _, _, _, _, _, by rfl, by assumption, by assumption⟩) ?_; simp only [Act.put, List.setIfInBounds_toArray, List.set_cons_zero, List.set_cons_succ]) | (refine WpH.pure (by rfl) (fun w_ => by go_simp; (try go_bits); rfl) ?_; simp only [Act.put, List.setIfInBounds_toArray, List.set_cons_zero, List.set_cons_succ]) | (refine WpH.wild1 (by rfl) (fun _ _ => ?_)) | (refine WpH.skip (by rfl) ?_; simp only [Act.put, List.setIfInBounds_toArray, List.set_cons_zero, List.set_cons_succ])) | go_values | go_skip | go_guarded | go_step | go_upon | go_back)
  exact bodyPost_ret (v := .agg #[.int .i64 0, .slice none 0 0, .slice none 0 0]) (by simp [results, Tryd.results89, go_sem]) rfl ⟨rfl, by (repeat' (first | (with_reducible exact Below.refl _ _) | (with_reducible assumption) | (with_reducible refine balloc ?_) | (with_reducible refine bdrew ?_) | (with_reducible refine bset ?_ (by (try dsimp only); omega)) | (with_reducible refine bvia ?_ (by assumption))))⟩
theorem no_any (call : ByteArray) (n : Int) (S : Nat → Prop) (w : World) : Calls Tryd.prog 89 #[.string call, .int .i64 n, .bool true] w fun e w' => ∃ v, e = .returned v ∧ IsNo w' (Fr w S) [⟨({ data := #[116, 114, 101, 101] } : ByteArray), call, atOf n⟩] 2 v ∧ Below w.heap.size w w' := by
  have b1 : Below w.heap.size w (w.alloc (.cells #[.int .i64 0, .slice none 0 0, .slice none 0 0] 50)) := balloc (Below.refl _ _)
  have hB := Blk.new w 50 #[.int .i64 0, .slice none 0 0, .slice none 0 0]
  have HS := hid (say_any ({ data := #[116, 114, 101, 101] } : ByteArray) call n 2 (by omega) (by omega) (fun b => S b ∧ b < w.heap.size) (w.alloc (.cells #[.int .i64 0, .slice none 0 0, .slice none 0 0] 50)))
  go_enter Tryd.func89, Tryd.ntmps89
  repeat' (first | (go_at_call 27; go_must ((with_reducible refine Calls.mono HS.out ?_); rintro _ w2 ⟨v, rfl, ⟨h1, A, m, d, B, e, rfl, hr1, hr2⟩, hb2⟩; have hB2 := hB.step hb2; have c0 := hB2.cell 0; have c1 := hB2.cell 1; have c2 := hB2.cell 2; have f0 := hB2.frozen 0; have f1 := hB2.frozen 1; have f2 := hB2.frozen 2; simp at c0 c1 c2; have hlt := hB2.lt; dsimp only)) | (with_reducible refine Keep.last ?_) | (with_reducible refine Keep.below (by assumption) ?_) | (with_reducible refine Keep.kept (by assumption) ?_) | (with_reducible refine Keep.alloc ?_) | (with_reducible refine Keep.same ?_) | ((with_reducible refine WpH.here ?_); first | (refine WpH.nil ?_; refine NoP.normal ?_) | (refine WpH.load (by rfl) (by rfl) (by go_simp; rfl) ?_; simp only [Act.put, List.setIfInBounds_toArray, List.set_cons_zero, List.set_cons_succ]) | (refine WpH.loadT (by rfl) (by rfl) (by go_simp; rfl) (by rintro _ _ ⟨⟩; exact ⟨_, _, _, _, _, _, by rfl, by assumption, by assumption⟩) ?_; simp only [Act.put, List.setIfInBounds_toArray, List.set_cons_zero, List.set_cons_succ]) | (refine WpH.pure (by rfl) (fun w_ => by go_simp; (try go_bits); rfl) ?_; simp only [Act.put, List.setIfInBounds_toArray, List.set_cons_zero, List.set_cons_succ]) | (refine WpH.wild1 (by rfl) (fun _ _ => ?_)) | (refine WpH.skip (by rfl) ?_; simp only [Act.put, List.setIfInBounds_toArray, List.set_cons_zero, List.set_cons_succ])) | go_values | go_skip | go_guarded | go_step | go_upon | go_back)
  have hz := box_sz w (.cells #[.int .i64 0, .slice none 0 0, .slice none 0 0] 50)
  have ns : ¬ Fr (w.alloc (.cells #[.int .i64 0, .slice none 0 0, .slice none 0 0] 50)) (fun b => S b ∧ b < w.heap.size) w.heap.size := fun h => by
    rcases h with h | h
    · omega
    · rw [hz] at h
      omega
  have sm : ∀ x y z : Value, Same (Fr (w.alloc (.cells #[.int .i64 0, .slice none 0 0, .slice none 0 0] 50)) (fun b => S b ∧ b < w.heap.size)) w2 (((w2.setCell ⟨w.heap.size, 0, none⟩ x).setCell ⟨w.heap.size, 1, none⟩ y).setCell ⟨w.heap.size, 2, none⟩ z) := fun x y z =>
    ((Same.setCell w2 ns _).trans (by simp [World.setCell]) (Same.setCell _ ns _)).trans (by simp [World.setCell]) (Same.setCell _ ns _)
  have hre : ∀ b, Fr (w.alloc (.cells #[.int .i64 0, .slice none 0 0, .slice none 0 0] 50)) (fun b => S b ∧ b < w.heap.size) b → Fr w S b := by
    intro b h
    rcases h with h | h
    · exact .inl h.1
    · rw [hz] at h
      exact .inr (by omega)
  refine bodyPost_ret (v := .agg #[.int .i64 2, .slice A m d, .slice B 1 e]) (by simp [results, Tryd.results89, go_sem, c0, c1, c2, hlt, size_set]) rfl ⟨_, rfl, ⟨h1, A, m, d, B, e, rfl, ?_, ?_⟩, ?_⟩
  · exact (hr1.keep (by simp [World.setCell]) (sm _ _ _)).more fun b _ h => hre b h
  · exact (hr2.keep (by simp [World.setCell]) (sm _ _ _)).more fun b _ h => hre b h
  · exact (((b1.trans (hb2.mono b1.size)).setCell (Nat.le_refl _) _).setCell (Nat.le_refl _) _).setCell (Nat.le_refl _) _
/-- the tree and its list at w; all of it laid by the call's own steps -/
structure PairAt (w : World) (pb gt ck : Nat) (T : Tr) (base : Nat) : Prop where
  lo : base ≤ pb ∧ base ≤ gt
  pair : ∃ A c, Blk w pb 31 #[.pointer (some ⟨gt, 0, none⟩), .slice A T.all.length c, .int .i64 ck] ∧ Row w (fun b => base ≤ b ∧ b ≠ gt ∧ b ≠ pb) A T.all.length c T.all
  tree : ∃ p, Blk w gt 121 #[.int .i64 ck, .pointer p] ∧ IsTree w (fun b => base ≤ b ∧ b ≠ gt ∧ b ≠ pb) T p
theorem PairAt.step {w w' : World} {pb gt ck : Nat} {T : Tr} {base : Nat} (h : PairAt w pb gt ck T base) (hb : Below w.heap.size w w') : PairAt w' pb gt ck T base := by
  obtain ⟨h1, ⟨A, c, h2, h3⟩, p, h4, h5⟩ := h
  exact ⟨h1, ⟨A, c, h2.step hb, h3.step hb⟩, p, h4.step hb, h5.step hb⟩
theorem PairAt.drew {w : World} {pb gt ck : Nat} {T : Tr} {base : Nat} (h : PairAt w pb gt ck T base) : PairAt w.drew pb gt ck T base := h.step (Below.refl _ _).drew
theorem Good.of_map {chunk : Nat} {a b : List (List El)} (h : a.map List.length = b.map List.length) (hg : Good chunk b) : Good chunk a := by
  refine ⟨fun r hr => ?_, adj_of_get fun i x y hx hy => ?_⟩
  · have h1 : r.length ∈ b.map List.length := by rw [← h]; exact List.mem_map_of_mem hr
    obtain ⟨r', hr', he⟩ := List.mem_map.1 h1
    rw [← he]
    exact hg.each r' hr'
  · have ha := congrArg (fun l => l[i]?) h
    have hb := congrArg (fun l => l[i + 1]?) h
    simp only [List.getElem?_map, hx, hy, Option.map_some] at ha hb
    obtain ⟨x', hx', ex⟩ := Option.map_eq_some_iff.1 ha.symm
    obtain ⟨y', hy', ey⟩ := Option.map_eq_some_iff.1 hb.symm
    have := adj_get hg.pair i x' y' hx' hy'
    rw [ex, ey] at this
    exact this
/-- a call of changes -/
def ChgRet (pb gt ck base : Nat) (T : Tr) (R : Tr → Prop) (w : World) (e : Ending) (w' : World) : Prop :=
  ∃ T', e = .returned (.bool true) ∧ PairAt w' pb gt ck T' base ∧ Below base w w' ∧ T'.all.length ≤ 600 ∧ (Good ck T.rows → Good ck T'.rows) ∧ R T'
set_option maxRecDepth 100000 in
set_option maxHeartbeats 4000000 in
theorem chgRemove (w : World) (pb gt ck base : Nat) (T : Tr) (do_ : Int) (i n : Nat) (L : Value) (h : PairAt w pb gt ck T base) (hd : do_ % 8 = 1) (hl : T.all.length ≤ 600) (hi : i + n ≤ T.all.length) (hb : base ≤ w.heap.size) (hc2 : 2 ≤ ck) (hc64 : ck ≤ 64) :
    Calls Tryd.prog 38 #[.pointer (some ⟨pb, 0, none⟩), .agg #[.int .i64 do_, .int .i64 i, .int .i64 n, L]] w (ChgRet pb gt ck base T (fun T' => T'.all = T.all.take i ++ T.all.drop (i + n)) w) := by
  obtain ⟨⟨hlp, hlg⟩, ⟨A, c, hp, hr⟩, p, hg, hT⟩ := h
  have b1 : Below w.heap.size w (w.alloc (.cells #[.int .i64 do_, .int .i64 i, .int .i64 n, L] 76)) := balloc (Below.refl _ _)
  have hx1 := Blk.new w 76 #[.int .i64 do_, .int .i64 i, .int .i64 n, L]
  have hp1 := hp.step b1
  have hg1 := hg.step b1
  have hT1 := ((hT.more (S' := fun b => (base ≤ b ∧ b ≠ gt ∧ b ≠ pb) ∧ b < w.heap.size) fun b h1 h2 => ⟨h2, h1⟩)).step b1
  have hr1 := ((hr.more (S' := fun b => (base ≤ b ∧ b ≠ gt ∧ b ≠ pb) ∧ b < w.heap.size) fun b h1 h2 => ⟨h2, h1⟩)).step b1
  have HW := hid (fun W => within_any do_ 8 (by decide) (by decide) W)
  rw [hd] at HW
  have HN := hid (fun W => no_none ({ data := #[82, 101, 109, 111, 118, 101] } : ByteArray) i W)
  have HF := hid refused_none
  unfold noNone at HN HF
  have hgl := hg.lt
  have hpl := hp.lt
  have hpg : pb ≠ gt := hp.ne hg (by decide)
  have hi1 : ¬ (i : Int) < 0 := by omega
  have hi2 : ¬ (i : Int) > T.all.length := by omega
  have hn1 : ¬ (n : Int) < 0 := by omega
  have hn2 : ¬ (n : Int) > T.all.length - i := by omega
  have Hd := hid (And.intro hd hb)
  clear hp hg hT hr hd
  go_enter Tryd.func38, Tryd.ntmps38
  repeat' (first | (with_reducible refine stop_region 1 ?_) | (with_reducible refine Keep.last ?_) | (with_reducible refine Keep.below (by assumption) ?_) | (with_reducible refine Keep.kept (by assumption) ?_) | (with_reducible refine Keep.alloc ?_) | (with_reducible refine Keep.same ?_) | ((with_reducible refine WpH.here ?_); first | (refine WpH.nil ?_; refine NoP.normal ?_) | (refine WpH.load (by rfl) (by rfl) (by go_simp; rfl) ?_; simp only [Act.put, List.setIfInBounds_toArray, List.set_cons_zero, List.set_cons_succ]) | (refine WpH.loadT (by rfl) (by rfl) (by go_simp; rfl) (by rintro _ _ ⟨⟩; exact ⟨_, _, _, _, _, _, by rfl, by assumption, by assumption⟩) ?_; simp only [Act.put, List.setIfInBounds_toArray, List.set_cons_zero, List.set_cons_succ]) | (refine WpH.pure (by rfl) (fun w_ => by go_simp; (try go_bits); rfl) ?_; simp only [Act.put, List.setIfInBounds_toArray, List.set_cons_zero, List.set_cons_succ]) | (refine WpH.wild1 (by rfl) (fun _ _ => ?_)) | (refine WpH.skip (by rfl) ?_; simp only [Act.put, List.setIfInBounds_toArray, List.set_cons_zero, List.set_cons_succ])) | go_values | go_skip | go_guarded | go_step | go_upon | go_back)
  refine Stop.go ?_
  have hs1 : (w.alloc (.cells #[.int .i64 do_, .int .i64 i, .int .i64 n, L] 76)).heap.size = w.heap.size + 1 := box_sz _ _
  generalize w.alloc (.cells #[.int .i64 do_, .int .i64 i, .int .i64 n, L] 76) = W1 at *
  have HR := hid (remove_ok T p gt ck i n (fun b => (base ≤ b ∧ b ≠ gt ∧ b ≠ pb) ∧ b < w.heap.size) W1.drew hg1.drew hT1.drew (fun h => h.1.2.1 rfl) (by omega) hi hc2 hc64)
  obtain ⟨p0, p1, p2, pl⟩ := hp1.three'
  obtain ⟨x0, x1, x2, x3, -, -, -, -, xl⟩ := hx1.four
  have qp : W1.drew.heap[pb]? = some (.cells #[.pointer (some ⟨gt, 0, none⟩), .slice A T.all.length c, .int .i64 ck] 31 (0, 0)) := hp1
  have qx : W1.drew.heap[w.heap.size]? = some (.cells #[.int .i64 do_, .int .i64 i, .int .i64 n, L] 76 (0, 0)) := hx1
  have nx : w.heap.size ≠ gt := by omega
  repeat' (first | (with_reducible refine stop_region 17 ?_) | (go_at_call 23; go_must ((with_reducible refine Calls.mono (HW.out _) ?_); rintro _ _ ⟨rfl, rfl⟩; dsimp only)) | ((with_reducible refine region_at 16 ?_); refine wp_region_orderT (fun b => b ≠ gt) [(0, true, false), (1, true, false), (2, true, false), (3, true, false), (4, true, false), (5, true, false), (6, true, false), (7, true, false), (8, false, false), (9, true, false)] (by kernel_rfl) (by kernel_rfl) (by kernel_rfl) rfl rfl ?_) | (go_at_call 24; go_must ((with_reducible refine Calls.mono HR.out ?_); rintro _ w5 ⟨p5, T5, rfl, hT5, hg5, hq5, hB5⟩; have hk5 : KeepT (fun b => b ≠ gt) _ w5 := ⟨hB5.size, fun b hl hb => hB5.block b hl hb⟩; have H5 := hid (And.intro hT5 (And.intro hg5 (And.intro hq5 hB5))); clear hT5 hg5 hq5 hB5; dsimp only)) | (with_reducible refine Keep.last ?_) | (with_reducible refine Keep.below (by assumption) ?_) | (with_reducible refine Keep.kept (by assumption) ?_) | (with_reducible refine Keep.alloc ?_) | (with_reducible refine Keep.same ?_) | ((with_reducible refine WpH.here ?_); first | (refine WpH.nil ?_; refine NoP.normal ?_) | (refine WpH.load (by rfl) (by rfl) (by go_simp; rfl) ?_; simp only [Act.put, List.setIfInBounds_toArray, List.set_cons_zero, List.set_cons_succ]) | (refine WpH.loadT (by rfl) (by rfl) (by go_simp; rfl) (by rintro _ _ ⟨⟩; exact ⟨_, _, _, _, _, _, by rfl, by assumption, by assumption⟩) ?_; simp only [Act.put, List.setIfInBounds_toArray, List.set_cons_zero, List.set_cons_succ]) | (refine WpH.pure (by rfl) (fun w_ => by go_simp; (try go_bits); rfl) ?_; simp only [Act.put, List.setIfInBounds_toArray, List.set_cons_zero, List.set_cons_succ]) | (refine WpH.wild1 (by rfl) (fun _ _ => ?_)) | (refine WpH.skip (by rfl) ?_; simp only [Act.put, List.setIfInBounds_toArray, List.set_cons_zero, List.set_cons_succ])) | go_values | go_skip | go_guarded | go_step | go_upon | go_back)
  refine Stop.go ?_
  clear p0 p1 p2 x0 x1 x2 x3 qp qx
  have hB5 := H5.out.2.2.2
  have hp5 := hB5.blk hp1.drew hpg
  have hx5 := hB5.blk hx1.drew nx
  have hr5 := (hr1.drew.keep (hB5.same.sub (S' := fun b => (base ≤ b ∧ b ≠ gt ∧ b ≠ pb) ∧ b < w.heap.size) fun b hb => hb.1.2.1))
  have hb5 : But gt w w5 := ((But.of_below b1).trans (But.of_below (Below.refl _ _).drew)).trans hB5
  have hz5 := hb5.size
  have HC := hid (refCut_any A T.all.length c i n T.all _ w5.drew hr5.drew (by omega) hi)
  obtain ⟨p0, p1, p2, pl⟩ := hp5.three'
  obtain ⟨pf0, pf1, pf2⟩ := And.intro (hp5.frozen 0) (And.intro (hp5.frozen 1) (hp5.frozen 2))
  obtain ⟨x0, x1, x2, x3, -, -, -, -, xl⟩ := hx5.four
  repeat' (first | (with_reducible refine stop_region 20 ?_) | ((with_reducible refine region_at 19 ?_); refine wp_region_order [(0, true, false), (1, true, false), (2, true, false), (3, true, false), (4, true, false), (5, true, false), (6, true, false), (7, true, false), (8, true, false), (9, false, false), (10, true, false), (11, true, false), (12, false, true)] (by kernel_rfl) (by kernel_rfl) (by kernel_rfl) rfl rfl ?_) | (go_at_call 70; go_must ((with_reducible refine Calls.mono HC.out ?_); rintro _ w6 ⟨A6, c6, rfl, ho6, hb6⟩; have hp6 := hp5.drew.step hb6; have hx6 := hx5.drew.step hb6; obtain ⟨p0, p1, p2, pl⟩ := hp6.three'; have pf1 := hp6.frozen 1; dsimp only)) | (with_reducible refine Keep.last ?_) | (with_reducible refine Keep.below (by assumption) ?_) | (with_reducible refine Keep.kept (by assumption) ?_) | (with_reducible refine Keep.alloc ?_) | (with_reducible refine Keep.same ?_) | ((with_reducible refine WpH.here ?_); first | (refine WpH.nil ?_; refine NoP.normal ?_) | (refine WpH.load (by rfl) (by rfl) (by go_simp; rfl) ?_; simp only [Act.put, List.setIfInBounds_toArray, List.set_cons_zero, List.set_cons_succ]) | (refine WpH.loadT (by rfl) (by rfl) (by go_simp; rfl) (by rintro _ _ ⟨⟩; exact ⟨_, _, _, _, _, _, by rfl, by assumption, by assumption⟩) ?_; simp only [Act.put, List.setIfInBounds_toArray, List.set_cons_zero, List.set_cons_succ]) | (refine WpH.pure (by rfl) (fun w_ => by go_simp; (try go_bits); rfl) ?_; simp only [Act.put, List.setIfInBounds_toArray, List.set_cons_zero, List.set_cons_succ]) | (refine WpH.wild1 (by rfl) (fun _ _ => ?_)) | (refine WpH.skip (by rfl) ?_; simp only [Act.put, List.setIfInBounds_toArray, List.set_cons_zero, List.set_cons_succ])) | go_values | go_skip | go_guarded | go_step | go_upon | go_back)
  refine Stop.go ?_
  have hp7 := hp6.set_ 1 (.slice A6 (T.all.length - n) c6)
  have hx7 := hx6.far (p := ⟨pb, 1, none⟩) (by show w.heap.size ≠ pb; omega) (.slice A6 (T.all.length - n) c6)
  have hl5 := congrArg List.length H5.out.2.2.1.1
  simp only [List.append_nil, List.length_append, List.length_take, List.length_drop] at hl5
  have hlT : T5.all.length = T.all.length - n := by omega
  have hr7 : Row (w6.setCell ⟨pb, 1, none⟩ (.slice A6 (T.all.length - n) c6)) (fun b => base ≤ b ∧ b ≠ gt ∧ b ≠ pb) A6 T5.all.length c6 T5.all := by
    have h := ho6.row (S := fun b => base ≤ b ∧ b ≠ gt ∧ b ≠ pb) (fun b h1 h2 => by have h1' : w5.heap.size ≤ b := h1; omega)
    rw [hlT, H5.out.2.2.1.1, List.append_nil]
    exact h.keep (Same.setCell _ (fun h => h.2.2 rfl) _)
  have hg7 := ((H5.out.2.1.drew.step hb6).far (p := ⟨pb, 1, none⟩) (Ne.symm hpg) (.slice A6 (T.all.length - n) c6))
  have hT7 : IsTree (w6.setCell ⟨pb, 1, none⟩ (.slice A6 (T.all.length - n) c6)) (fun b => base ≤ b ∧ b ≠ gt ∧ b ≠ pb) T5 p5 := by
    refine ((H5.out.1.drew.step hb6).more fun b _ h => ?_).keep (Same.setCell _ (fun h => h.2.2 rfl) _)
    rcases h with h | h
    · exact h.1
    · have h' : W1.heap.size ≤ b := h
      omega
  have hb7 : Below base w (w6.setCell ⟨pb, 1, none⟩ (.slice A6 (T.all.length - n) c6)) := by
    refine Below.setCell ?_ (by exact hlp) _
    refine (show Below base w w5 from ⟨hb5.os, hb5.tape, hb5.output, hb5.size, fun b hb' => hb5.block b (by omega) (by omega)⟩).trans ?_
    exact (undrew hb6).mono (by omega)
  have hs7 : (w6.setCell ⟨pb, 1, none⟩ (.slice A6 (T.all.length - n) c6)).heap.size = w6.heap.size := size_set _ _ _
  have hz6 : w5.heap.size ≤ w6.heap.size := hb6.size
  clear p0 p1 p2 pl pf0 pf1 pf2 x0 x1 x2 x3 xl
  generalize w6.setCell ⟨pb, 1, none⟩ (.slice A6 (T.all.length - n) c6) = W7 at *
  obtain ⟨x0, x1, x2, x3, -, -, -, -, xl⟩ := hx7.four
  repeat' (first | (go_at_call 89; go_must ((with_reducible refine Calls.mono (HN.out _) ?_); rintro _ w8 ⟨rfl, hb8⟩; dsimp only)) | (go_at_call 28; go_must ((with_reducible refine Calls.mono (HF.out _) ?_); rintro _ w9 ⟨rfl, hb9⟩; dsimp only)) | (with_reducible refine Keep.last ?_) | (with_reducible refine Keep.below (by assumption) ?_) | (with_reducible refine Keep.kept (by assumption) ?_) | (with_reducible refine Keep.alloc ?_) | (with_reducible refine Keep.same ?_) | ((with_reducible refine WpH.here ?_); first | (refine WpH.nil ?_; refine NoP.normal ?_) | (refine WpH.load (by rfl) (by rfl) (by go_simp; rfl) ?_; simp only [Act.put, List.setIfInBounds_toArray, List.set_cons_zero, List.set_cons_succ]) | (refine WpH.loadT (by rfl) (by rfl) (by go_simp; rfl) (by rintro _ _ ⟨⟩; exact ⟨_, _, _, _, _, _, by rfl, by assumption, by assumption⟩) ?_; simp only [Act.put, List.setIfInBounds_toArray, List.set_cons_zero, List.set_cons_succ]) | (refine WpH.pure (by rfl) (fun w_ => by go_simp; (try go_bits); rfl) ?_; simp only [Act.put, List.setIfInBounds_toArray, List.set_cons_zero, List.set_cons_succ]) | (refine WpH.wild1 (by rfl) (fun _ _ => ?_)) | (refine WpH.skip (by rfl) ?_; simp only [Act.put, List.setIfInBounds_toArray, List.set_cons_zero, List.set_cons_succ])) | go_values | go_skip | go_guarded | go_step | go_upon | go_back)
  skip
  go_ret
  have e9 := bvia hb8 hb9
  refine ⟨T5, rfl, PairAt.step ⟨⟨hlp, hlg⟩, ⟨A6, c6, by rw [hlT]; exact hp7, hr7⟩, p5, hg7, hT7⟩ e9, hb7.trans (e9.mono (by omega)), by omega, fun hg => hg.edit H5.out.2.2.1 hc2, by show T5.all = _; rw [H5.out.2.2.1.1]; simp⟩
set_option maxRecDepth 100000 in
set_option maxHeartbeats 4000000 in
theorem chgInsert (w : World) (pb gt ck base : Nat) (T : Tr) (do_ n : Int) (i : Nat) (B : Option Addr) (m d : Nat) (ls : List El) (hls : Row w (fun b => b < base) B m d ls) (h : PairAt w pb gt ck T base) (hd : do_ % 8 = 0) (hl : T.all.length ≤ 600) (hi : i ≤ T.all.length) (hb : base ≤ w.heap.size) (hc2 : 2 ≤ ck) (hc64 : ck ≤ 64) (hm : T.all.length + min m 60 ≤ 600) :
    Calls Tryd.prog 38 #[.pointer (some ⟨pb, 0, none⟩), .agg #[.int .i64 do_, .int .i64 i, .int .i64 n, .slice B m d]] w (ChgRet pb gt ck base T (fun T' => T'.all = T.all.take i ++ ls.take 60 ++ T.all.drop i) w) := by
  have hmx := hls.len_le
  unfold maxLen at hmx
  have hmd := hls.2.1
  by_cases hm60 : m ≤ 60
  · have ht : ls.take 60 = ls := List.take_of_length_le (by rw [hls.1]; exact hm60)
    rw [ht]
    rw [Nat.min_eq_left hm60] at hm
    have hLR := hls
    obtain ⟨⟨hlp, hlg⟩, ⟨A, c, hp, hr⟩, p, hg, hT⟩ := h
    have hlsl : (ls).length = m := (hLR).1
    have b1 : Below w.heap.size w (w.alloc (.cells #[.int .i64 do_, .int .i64 i, .int .i64 n, .slice B m d] 76)) := balloc (Below.refl _ _)
    have hx1 := Blk.new w 76 #[.int .i64 do_, .int .i64 i, .int .i64 n, .slice B m d]
    have hp1 := hp.step b1
    have hg1 := hg.step b1
    have hT1 := ((hT.more (S' := fun b => (base ≤ b ∧ b ≠ gt ∧ b ≠ pb) ∧ b < w.heap.size) fun b h1 h2 => ⟨h2, h1⟩)).step b1
    have hr1 := ((hr.more (S' := fun b => (base ≤ b ∧ b ≠ gt ∧ b ≠ pb) ∧ b < w.heap.size) fun b h1 h2 => ⟨h2, h1⟩)).step b1
    have hq1 := (hLR).step b1
    have HW := hid (fun W => within_any do_ 8 (by decide) (by decide) W)
    rw [hd] at HW
    have HN := hid (fun W => no_none ({ data := #[73, 110, 115, 101, 114, 116] } : ByteArray) i W)
    have HF := hid refused_none
    unfold noNone at HN HF
    have hgl := hg.lt
    have hpl := hp.lt
    have hpg : pb ≠ gt := hp.ne hg (by decide)
    have hi1 : ¬ (i : Int) < 0 := by omega
    have hi2 : ¬ (i : Int) > T.all.length := by omega
    clear hp hg hT hr hd hls
    go_enter Tryd.func38, Tryd.ntmps38
    repeat' (first | (with_reducible refine stop_region 1 ?_) | (with_reducible refine Keep.last ?_) | (with_reducible refine Keep.below (by assumption) ?_) | (with_reducible refine Keep.kept (by assumption) ?_) | (with_reducible refine Keep.alloc ?_) | (with_reducible refine Keep.same ?_) | ((with_reducible refine WpH.here ?_); first | (refine WpH.nil ?_; refine NoP.normal ?_) | (refine WpH.load (by rfl) (by rfl) (by go_simp; rfl) ?_; simp only [Act.put, List.setIfInBounds_toArray, List.set_cons_zero, List.set_cons_succ]) | (refine WpH.loadT (by rfl) (by rfl) (by go_simp; rfl) (by rintro _ _ ⟨⟩; exact ⟨_, _, _, _, _, _, by rfl, by assumption, by assumption⟩) ?_; simp only [Act.put, List.setIfInBounds_toArray, List.set_cons_zero, List.set_cons_succ]) | (refine WpH.pure (by rfl) (fun w_ => by go_simp; (try go_bits); rfl) ?_; simp only [Act.put, List.setIfInBounds_toArray, List.set_cons_zero, List.set_cons_succ]) | (refine WpH.wild1 (by rfl) (fun _ _ => ?_)) | (refine WpH.skip (by rfl) ?_; simp only [Act.put, List.setIfInBounds_toArray, List.set_cons_zero, List.set_cons_succ])) | go_values | go_skip | go_guarded | go_step | go_upon | go_back)
    refine Stop.go ?_
    have hs1 : (w.alloc (.cells #[.int .i64 do_, .int .i64 i, .int .i64 n, .slice B m d] 76)).heap.size = w.heap.size + 1 := box_sz _ _
    generalize w.alloc (.cells #[.int .i64 do_, .int .i64 i, .int .i64 n, .slice B m d] 76) = W1 at *
    obtain ⟨p0, p1, p2, pl⟩ := hp1.three'
    obtain ⟨x0, x1, x2, x3, -, -, -, -, xl⟩ := hx1.four
    have nx : w.heap.size ≠ gt := by omega
    have HL := hid (lend_any B m d (ls) _ W1 hq1 (by omega))
    repeat' (first | (with_reducible refine stop_region 10 ?_) | (go_at_call 23; go_must ((with_reducible refine Calls.mono (HW.out _) ?_); rintro _ _ ⟨rfl, rfl⟩; dsimp only)) | (go_at_call 86; go_must ((with_reducible refine Calls.mono HL.out ?_); rintro _ w2 ⟨A2, c2, rfl, ho2, ⟨g2, rfl, hg2⟩, hb2⟩; dsimp only)) | (with_reducible refine Keep.last ?_) | (with_reducible refine Keep.below (by assumption) ?_) | (with_reducible refine Keep.kept (by assumption) ?_) | (with_reducible refine Keep.alloc ?_) | (with_reducible refine Keep.same ?_) | ((with_reducible refine WpH.here ?_); first | (refine WpH.nil ?_; refine NoP.normal ?_) | (refine WpH.load (by rfl) (by rfl) (by go_simp; rfl) ?_; simp only [Act.put, List.setIfInBounds_toArray, List.set_cons_zero, List.set_cons_succ]) | (refine WpH.loadT (by rfl) (by rfl) (by go_simp; rfl) (by rintro _ _ ⟨⟩; exact ⟨_, _, _, _, _, _, by rfl, by assumption, by assumption⟩) ?_; simp only [Act.put, List.setIfInBounds_toArray, List.set_cons_zero, List.set_cons_succ]) | (refine WpH.pure (by rfl) (fun w_ => by go_simp; (try go_bits); rfl) ?_; simp only [Act.put, List.setIfInBounds_toArray, List.set_cons_zero, List.set_cons_succ]) | (refine WpH.wild1 (by rfl) (fun _ _ => ?_)) | (refine WpH.skip (by rfl) ?_; simp only [Act.put, List.setIfInBounds_toArray, List.set_cons_zero, List.set_cons_succ])) | go_values | go_skip | go_guarded | go_step | go_upon | go_back)
    refine Stop.go ?_
    clear p0 p1 p2 x0 x1 x2 x3
    have hp2 := hp1.step hb2
    have hx2 := hx1.step hb2
    have hlr2 := (ho2.row (S := fun b => W1.heap.size ≤ b) fun b h _ => h).take_ (show m ≤ m + 4 by omega)
    rw [List.take_append_of_le_length (by omega), List.take_of_length_le (by omega)] at hlr2
    have hz2 := hb2.size
    have HI := hid (insert_ok T p gt ck i (some ⟨g2, 0, none⟩) m c2 (ls) (fun b => (base ≤ b ∧ b ≠ gt ∧ b ≠ pb) ∧ b < w.heap.size) _ w2.drew (hg1.step hb2).drew (hT1.step hb2).drew (fun h => h.1.2.1 rfl) hlr2.drew (by omega) hi hc2 hc64)
    obtain ⟨p0, p1, p2, pl⟩ := hp2.three'
    obtain ⟨x0, x1, x2, x3, -, -, -, -, xl⟩ := hx2.four
    have qp : w2.drew.heap[pb]? = some (.cells #[.pointer (some ⟨gt, 0, none⟩), .slice A T.all.length c, .int .i64 ck] 31 (0, 0)) := hp2
    have qx : w2.drew.heap[w.heap.size]? = some (.cells #[.int .i64 do_, .int .i64 i, .int .i64 n, .slice B m d] 76 (0, 0)) := hx2
    repeat' (first | (with_reducible refine stop_region 11 ?_) | ((with_reducible refine region_at 10 ?_); refine wp_region_orderT (fun b => b ≠ gt) [(0, true, false), (1, true, false), (2, true, false), (3, true, false), (4, true, false), (5, true, false), (6, true, false), (7, false, false), (8, true, false)] (by kernel_rfl) (by kernel_rfl) (by kernel_rfl) rfl rfl ?_) | (go_at_call 20; go_must ((with_reducible refine Calls.mono HI.out ?_); rintro _ w5 ⟨p5, T5, rfl, hT5, hg5, hq5, hB5⟩; have hk5 : KeepT (fun b => b ≠ gt) _ w5 := ⟨hB5.size, fun b hl hb => hB5.block b hl hb⟩; have H5 := hid (And.intro hT5 (And.intro hg5 (And.intro hq5 hB5))); clear hT5 hg5 hq5 hB5; dsimp only)) | (with_reducible refine Keep.last ?_) | (with_reducible refine Keep.below (by assumption) ?_) | (with_reducible refine Keep.kept (by assumption) ?_) | (with_reducible refine Keep.alloc ?_) | (with_reducible refine Keep.same ?_) | ((with_reducible refine WpH.here ?_); first | (refine WpH.nil ?_; refine NoP.normal ?_) | (refine WpH.load (by rfl) (by rfl) (by go_simp; rfl) ?_; simp only [Act.put, List.setIfInBounds_toArray, List.set_cons_zero, List.set_cons_succ]) | (refine WpH.loadT (by rfl) (by rfl) (by go_simp; rfl) (by rintro _ _ ⟨⟩; exact ⟨_, _, _, _, _, _, by rfl, by assumption, by assumption⟩) ?_; simp only [Act.put, List.setIfInBounds_toArray, List.set_cons_zero, List.set_cons_succ]) | (refine WpH.pure (by rfl) (fun w_ => by go_simp; (try go_bits); rfl) ?_; simp only [Act.put, List.setIfInBounds_toArray, List.set_cons_zero, List.set_cons_succ]) | (refine WpH.wild1 (by rfl) (fun _ _ => ?_)) | (refine WpH.skip (by rfl) ?_; simp only [Act.put, List.setIfInBounds_toArray, List.set_cons_zero, List.set_cons_succ])) | go_values | go_skip | go_guarded | go_step | go_upon | go_back)
    refine Stop.go ?_
    clear p0 p1 p2 x0 x1 x2 x3 qp qx
    have hB5 := H5.out.2.2.2
    have hg2l : g2 < w2.heap.size := (ho2.block _ rfl).2
    have hp5 := hB5.blk hp2.drew hpg
    have hx5 := hB5.blk hx2.drew nx
    have hr5 := ((hr1.step hb2).drew.keep (hB5.same.sub (S' := fun b => (base ≤ b ∧ b ≠ gt ∧ b ≠ pb) ∧ b < w.heap.size) fun b hb => hb.1.2.1))
    have hq5 := ((hq1.step hb2).drew.keep (hB5.same.sub (S' := fun b => b < base) fun b hb => by omega))
    have ho5 := ho2.drw.keep (S := (· ≠ gt)) hB5.same (fun x hx => by injection hx with hx; subst hx; show g2 ≠ gt; omega)
    have hz5 : w2.heap.size ≤ w5.heap.size := hB5.size
    have hz12 : W1.heap.size ≤ w2.heap.size := hb2.size
    have hb5 : Below base w w5 := by
      have h1 : Below base w w2 := (b1.trans (hb2.mono b1.size)).mono hb
      exact h1.trans ⟨hB5.os, hB5.tape, hB5.output, hB5.size, fun b hb' => hB5.block b (by show b < w2.heap.size; omega) (by omega)⟩
    have HC := hid (refPut_any A T.all.length c i B m d T.all (ls) _ _ w5.drew hr5.drew hq5.drew (by omega) hi)
    obtain ⟨p0, p1, p2, pl⟩ := hp5.three'
    have pf1 := hp5.frozen 1
    obtain ⟨x0, x1, x2, x3, -, -, -, -, xl⟩ := hx5.four
    repeat' (first | (with_reducible refine stop_region 14 ?_) | ((with_reducible refine region_at 13 ?_); refine wp_region_order [(0, true, false), (1, true, false), (2, true, false), (3, true, false), (4, true, false), (5, true, false), (6, true, false), (7, true, false), (8, false, false), (9, true, false), (10, true, false), (11, false, true)] (by kernel_rfl) (by kernel_rfl) (by kernel_rfl) rfl rfl ?_) | (go_at_call 87; go_must ((with_reducible refine Calls.mono HC.out ?_); rintro _ w6 ⟨A6, c6, rfl, ho6, hb6⟩; have hp6 := hp5.drew.step hb6; have hx6 := hx5.drew.step hb6; obtain ⟨p0, p1, p2, pl⟩ := hp6.three'; have pf1 := hp6.frozen 1; dsimp only)) | (with_reducible refine Keep.last ?_) | (with_reducible refine Keep.below (by assumption) ?_) | (with_reducible refine Keep.kept (by assumption) ?_) | (with_reducible refine Keep.alloc ?_) | (with_reducible refine Keep.same ?_) | ((with_reducible refine WpH.here ?_); first | (refine WpH.nil ?_; refine NoP.normal ?_) | (refine WpH.load (by rfl) (by rfl) (by go_simp; rfl) ?_; simp only [Act.put, List.setIfInBounds_toArray, List.set_cons_zero, List.set_cons_succ]) | (refine WpH.loadT (by rfl) (by rfl) (by go_simp; rfl) (by rintro _ _ ⟨⟩; exact ⟨_, _, _, _, _, _, by rfl, by assumption, by assumption⟩) ?_; simp only [Act.put, List.setIfInBounds_toArray, List.set_cons_zero, List.set_cons_succ]) | (refine WpH.pure (by rfl) (fun w_ => by go_simp; (try go_bits); rfl) ?_; simp only [Act.put, List.setIfInBounds_toArray, List.set_cons_zero, List.set_cons_succ]) | (refine WpH.wild1 (by rfl) (fun _ _ => ?_)) | (refine WpH.skip (by rfl) ?_; simp only [Act.put, List.setIfInBounds_toArray, List.set_cons_zero, List.set_cons_succ])) | go_values | go_skip | go_guarded | go_step | go_upon | go_back)
    refine Stop.go ?_
    have hp7 := hp6.set_ 1 (.slice A6 (T.all.length + m) c6)
    have hx7 := hx6.far (p := ⟨pb, 1, none⟩) (by show w.heap.size ≠ pb; omega) (.slice A6 (T.all.length + m) c6)
    have hl5 := congrArg List.length H5.out.2.2.1.1
    simp only [List.length_append, List.length_take, List.length_drop, hlsl] at hl5
    have hlT : T5.all.length = T.all.length + m := by have := hlsl; (try simp only [List.length_take] at this); omega
    have hz6 : w5.heap.size ≤ w6.heap.size := hb6.size
    have hr7 : Row (w6.setCell ⟨pb, 1, none⟩ (.slice A6 (T.all.length + m) c6)) (fun b => (base ≤ b ∧ b ≠ gt ∧ b ≠ pb) ∧ b ≠ g2) A6 T5.all.length c6 T5.all := by
      have h := ho6.row (S := fun b => (base ≤ b ∧ b ≠ gt ∧ b ≠ pb) ∧ b ≠ g2) (fun b h1 h2 => by have h1' : w5.heap.size ≤ b := h1; omega)
      rw [hlT, H5.out.2.2.1.1, Nat.add_zero]
      exact h.keep (Same.setCell _ (fun h => h.1.2.2 rfl) _)
    have hg7 := ((H5.out.2.1.drew.step hb6).far (p := ⟨pb, 1, none⟩) (Ne.symm hpg) (.slice A6 (T.all.length + m) c6))
    have hT7 : IsTree (w6.setCell ⟨pb, 1, none⟩ (.slice A6 (T.all.length + m) c6)) (fun b => (base ≤ b ∧ b ≠ gt ∧ b ≠ pb) ∧ b ≠ g2) T5 p5 := by
      refine ((H5.out.1.drew.step hb6).more fun b _ h => ?_).keep (Same.setCell _ (fun h => h.1.2.2 rfl) _)
      rcases h with h | h
      · exact ⟨h.1, by omega⟩
      · have h' : w2.heap.size ≤ b := h
        exact ⟨by omega, by omega⟩
    have ho7 := (ho5.drw.step hb6).keep (S := fun b => b ≠ pb) (Same.setCell w6 (p := ⟨pb, 1, none⟩) (fun h => h rfl) (.slice A6 (T.all.length + m) c6)) (fun x hx => by injection hx with hx; subst hx; show g2 ≠ pb; omega)
    have hq7 := (hq5.drew.step hb6).keep (Same.setCell w6 (p := ⟨pb, 1, none⟩) (fun h => by have h' : pb < base := h; omega) (.slice A6 (T.all.length + m) c6))
    have hb7 : Below base w (w6.setCell ⟨pb, 1, none⟩ (.slice A6 (T.all.length + m) c6)) := Below.setCell (hb5.trans ((undrew hb6).mono (by omega))) hlp _
    have hs7 : (w6.setCell ⟨pb, 1, none⟩ (.slice A6 (T.all.length + m) c6)).heap.size = w6.heap.size := size_set _ _ _
    clear p0 p1 p2 pl pf1 x0 x1 x2 x3 xl
    generalize w6.setCell ⟨pb, 1, none⟩ (.slice A6 (T.all.length + m) c6) = W7 at *
    have HT := hid (intact_any g2 m c2 B d W1.heap.size (ls) _ W7 ho7 hq7 (by omega) (by omega))
    obtain ⟨x0, x1, x2, x3, -, -, -, -, xl⟩ := hx7.four
    repeat' (first | (go_at_call 88; go_must ((with_reducible refine Calls.mono HT.out ?_); rintro _ w8 ⟨rfl, hB8⟩; have hx8 := hB8.blk hx7 (by omega); obtain ⟨x0, x1, x2, x3, -, -, -, -, xl⟩ := hx8.four; dsimp only)) | (go_at_call 89; go_must ((with_reducible refine Calls.mono (HN.out _) ?_); rintro _ w9 ⟨rfl, hb9⟩; dsimp only)) | (go_at_call 28; go_must ((with_reducible refine Calls.mono (HF.out _) ?_); rintro _ w10 ⟨rfl, hb10⟩; dsimp only)) | (with_reducible refine Keep.last ?_) | (with_reducible refine Keep.below (by assumption) ?_) | (with_reducible refine Keep.kept (by assumption) ?_) | (with_reducible refine Keep.alloc ?_) | (with_reducible refine Keep.same ?_) | ((with_reducible refine WpH.here ?_); first | (refine WpH.nil ?_; refine NoP.normal ?_) | (refine WpH.load (by rfl) (by rfl) (by go_simp; rfl) ?_; simp only [Act.put, List.setIfInBounds_toArray, List.set_cons_zero, List.set_cons_succ]) | (refine WpH.loadT (by rfl) (by rfl) (by go_simp; rfl) (by rintro _ _ ⟨⟩; exact ⟨_, _, _, _, _, _, by rfl, by assumption, by assumption⟩) ?_; simp only [Act.put, List.setIfInBounds_toArray, List.set_cons_zero, List.set_cons_succ]) | (refine WpH.pure (by rfl) (fun w_ => by go_simp; (try go_bits); rfl) ?_; simp only [Act.put, List.setIfInBounds_toArray, List.set_cons_zero, List.set_cons_succ]) | (refine WpH.wild1 (by rfl) (fun _ _ => ?_)) | (refine WpH.skip (by rfl) ?_; simp only [Act.put, List.setIfInBounds_toArray, List.set_cons_zero, List.set_cons_succ])) | go_values | go_skip | go_guarded | go_step | go_upon | go_back)
    skip
    go_ret
    have e9 := bvia hb9 hb10
    have sm : Same (fun b => (base ≤ b ∧ b ≠ gt ∧ b ≠ pb) ∧ b ≠ g2) W7 w8 := hB8.same.sub fun b hb => hb.2
    refine ⟨T5, rfl, PairAt.step ⟨⟨hlp, hlg⟩, ⟨A6, c6, by rw [hlT]; exact hB8.blk hp7 (by omega), (hr7.keep sm).more fun b _ h => h.1⟩, p5, hB8.blk hg7 (by omega), (hT7.keep sm).more fun b _ h => h.1⟩ e9, ?_, by omega, fun hg => hg.edit H5.out.2.2.1 hc2, by show T5.all = _; rw [H5.out.2.2.1.1]; simp⟩
    refine (hb7.trans ?_).trans (e9.mono (by have := hB8.size; omega))
    exact ⟨hB8.os, hB8.tape, hB8.output, hB8.size, fun b hb' => hB8.block b (by omega) (by omega)⟩
  · have hLR := hls.take_ (show 60 ≤ m by omega)
    rw [Nat.min_eq_right (by omega)] at hm
    have hd60 : 60 ≤ d := by omega
    obtain ⟨⟨hlp, hlg⟩, ⟨A, c, hp, hr⟩, p, hg, hT⟩ := h
    have hlsl : ((ls.take 60)).length = 60 := (hLR).1
    have b1 : Below w.heap.size w (w.alloc (.cells #[.int .i64 do_, .int .i64 i, .int .i64 n, .slice B m d] 76)) := balloc (Below.refl _ _)
    have hx1 := Blk.new w 76 #[.int .i64 do_, .int .i64 i, .int .i64 n, .slice B m d]
    have hp1 := hp.step b1
    have hg1 := hg.step b1
    have hT1 := ((hT.more (S' := fun b => (base ≤ b ∧ b ≠ gt ∧ b ≠ pb) ∧ b < w.heap.size) fun b h1 h2 => ⟨h2, h1⟩)).step b1
    have hr1 := ((hr.more (S' := fun b => (base ≤ b ∧ b ≠ gt ∧ b ≠ pb) ∧ b < w.heap.size) fun b h1 h2 => ⟨h2, h1⟩)).step b1
    have hq1 := (hLR).step b1
    have HW := hid (fun W => within_any do_ 8 (by decide) (by decide) W)
    rw [hd] at HW
    have HN := hid (fun W => no_none ({ data := #[73, 110, 115, 101, 114, 116] } : ByteArray) i W)
    have HF := hid refused_none
    unfold noNone at HN HF
    have hgl := hg.lt
    have hpl := hp.lt
    have hpg : pb ≠ gt := hp.ne hg (by decide)
    have hi1 : ¬ (i : Int) < 0 := by omega
    have hi2 : ¬ (i : Int) > T.all.length := by omega
    clear hp hg hT hr hd hls
    go_enter Tryd.func38, Tryd.ntmps38
    repeat' (first | (with_reducible refine stop_region 1 ?_) | (with_reducible refine Keep.last ?_) | (with_reducible refine Keep.below (by assumption) ?_) | (with_reducible refine Keep.kept (by assumption) ?_) | (with_reducible refine Keep.alloc ?_) | (with_reducible refine Keep.same ?_) | ((with_reducible refine WpH.here ?_); first | (refine WpH.nil ?_; refine NoP.normal ?_) | (refine WpH.load (by rfl) (by rfl) (by go_simp; rfl) ?_; simp only [Act.put, List.setIfInBounds_toArray, List.set_cons_zero, List.set_cons_succ]) | (refine WpH.loadT (by rfl) (by rfl) (by go_simp; rfl) (by rintro _ _ ⟨⟩; exact ⟨_, _, _, _, _, _, by rfl, by assumption, by assumption⟩) ?_; simp only [Act.put, List.setIfInBounds_toArray, List.set_cons_zero, List.set_cons_succ]) | (refine WpH.pure (by rfl) (fun w_ => by go_simp; (try go_bits); rfl) ?_; simp only [Act.put, List.setIfInBounds_toArray, List.set_cons_zero, List.set_cons_succ]) | (refine WpH.wild1 (by rfl) (fun _ _ => ?_)) | (refine WpH.skip (by rfl) ?_; simp only [Act.put, List.setIfInBounds_toArray, List.set_cons_zero, List.set_cons_succ])) | go_values | go_skip | go_guarded | go_step | go_upon | go_back)
    refine Stop.go ?_
    have hs1 : (w.alloc (.cells #[.int .i64 do_, .int .i64 i, .int .i64 n, .slice B m d] 76)).heap.size = w.heap.size + 1 := box_sz _ _
    generalize w.alloc (.cells #[.int .i64 do_, .int .i64 i, .int .i64 n, .slice B m d] 76) = W1 at *
    obtain ⟨p0, p1, p2, pl⟩ := hp1.three'
    obtain ⟨x0, x1, x2, x3, -, -, -, -, xl⟩ := hx1.four
    have nx : w.heap.size ≠ gt := by omega
    have HL := hid (lend_any B 60 d ((ls.take 60)) _ W1 hq1 (by omega))
    repeat' (first | (with_reducible refine stop_region 10 ?_) | (go_at_call 23; go_must ((with_reducible refine Calls.mono (HW.out _) ?_); rintro _ _ ⟨rfl, rfl⟩; dsimp only)) | (go_at_call 86; go_must ((with_reducible refine Calls.mono HL.out ?_); rintro _ w2 ⟨A2, c2, rfl, ho2, ⟨g2, rfl, hg2⟩, hb2⟩; dsimp only)) | (with_reducible refine Keep.last ?_) | (with_reducible refine Keep.below (by assumption) ?_) | (with_reducible refine Keep.kept (by assumption) ?_) | (with_reducible refine Keep.alloc ?_) | (with_reducible refine Keep.same ?_) | ((with_reducible refine WpH.here ?_); first | (refine WpH.nil ?_; refine NoP.normal ?_) | (refine WpH.load (by rfl) (by rfl) (by go_simp; rfl) ?_; simp only [Act.put, List.setIfInBounds_toArray, List.set_cons_zero, List.set_cons_succ]) | (refine WpH.loadT (by rfl) (by rfl) (by go_simp; rfl) (by rintro _ _ ⟨⟩; exact ⟨_, _, _, _, _, _, by rfl, by assumption, by assumption⟩) ?_; simp only [Act.put, List.setIfInBounds_toArray, List.set_cons_zero, List.set_cons_succ]) | (refine WpH.pure (by rfl) (fun w_ => by go_simp; (try go_bits); rfl) ?_; simp only [Act.put, List.setIfInBounds_toArray, List.set_cons_zero, List.set_cons_succ]) | (refine WpH.wild1 (by rfl) (fun _ _ => ?_)) | (refine WpH.skip (by rfl) ?_; simp only [Act.put, List.setIfInBounds_toArray, List.set_cons_zero, List.set_cons_succ])) | go_values | go_skip | go_guarded | go_step | go_upon | go_back)
    refine Stop.go ?_
    clear p0 p1 p2 x0 x1 x2 x3
    have hp2 := hp1.step hb2
    have hx2 := hx1.step hb2
    have hlr2 := (ho2.row (S := fun b => W1.heap.size ≤ b) fun b h _ => h).take_ (show 60 ≤ 60 + 4 by omega)
    rw [List.take_append_of_le_length (by omega), List.take_of_length_le (by omega)] at hlr2
    have hz2 := hb2.size
    have HI := hid (insert_ok T p gt ck i (some ⟨g2, 0, none⟩) 60 c2 ((ls.take 60)) (fun b => (base ≤ b ∧ b ≠ gt ∧ b ≠ pb) ∧ b < w.heap.size) _ w2.drew (hg1.step hb2).drew (hT1.step hb2).drew (fun h => h.1.2.1 rfl) hlr2.drew (by omega) hi hc2 hc64)
    obtain ⟨p0, p1, p2, pl⟩ := hp2.three'
    obtain ⟨x0, x1, x2, x3, -, -, -, -, xl⟩ := hx2.four
    have qp : w2.drew.heap[pb]? = some (.cells #[.pointer (some ⟨gt, 0, none⟩), .slice A T.all.length c, .int .i64 ck] 31 (0, 0)) := hp2
    have qx : w2.drew.heap[w.heap.size]? = some (.cells #[.int .i64 do_, .int .i64 i, .int .i64 n, .slice B m d] 76 (0, 0)) := hx2
    repeat' (first | (with_reducible refine stop_region 11 ?_) | ((with_reducible refine region_at 10 ?_); refine wp_region_orderT (fun b => b ≠ gt) [(0, true, false), (1, true, false), (2, true, false), (3, true, false), (4, true, false), (5, true, false), (6, true, false), (7, false, false), (8, true, false)] (by kernel_rfl) (by kernel_rfl) (by kernel_rfl) rfl rfl ?_) | (go_at_call 20; go_must ((with_reducible refine Calls.mono HI.out ?_); rintro _ w5 ⟨p5, T5, rfl, hT5, hg5, hq5, hB5⟩; have hk5 : KeepT (fun b => b ≠ gt) _ w5 := ⟨hB5.size, fun b hl hb => hB5.block b hl hb⟩; have H5 := hid (And.intro hT5 (And.intro hg5 (And.intro hq5 hB5))); clear hT5 hg5 hq5 hB5; dsimp only)) | (with_reducible refine Keep.last ?_) | (with_reducible refine Keep.below (by assumption) ?_) | (with_reducible refine Keep.kept (by assumption) ?_) | (with_reducible refine Keep.alloc ?_) | (with_reducible refine Keep.same ?_) | ((with_reducible refine WpH.here ?_); first | (refine WpH.nil ?_; refine NoP.normal ?_) | (refine WpH.load (by rfl) (by rfl) (by go_simp; rfl) ?_; simp only [Act.put, List.setIfInBounds_toArray, List.set_cons_zero, List.set_cons_succ]) | (refine WpH.loadT (by rfl) (by rfl) (by go_simp; rfl) (by rintro _ _ ⟨⟩; exact ⟨_, _, _, _, _, _, by rfl, by assumption, by assumption⟩) ?_; simp only [Act.put, List.setIfInBounds_toArray, List.set_cons_zero, List.set_cons_succ]) | (refine WpH.pure (by rfl) (fun w_ => by go_simp; (try go_bits); rfl) ?_; simp only [Act.put, List.setIfInBounds_toArray, List.set_cons_zero, List.set_cons_succ]) | (refine WpH.wild1 (by rfl) (fun _ _ => ?_)) | (refine WpH.skip (by rfl) ?_; simp only [Act.put, List.setIfInBounds_toArray, List.set_cons_zero, List.set_cons_succ])) | go_values | go_skip | go_guarded | go_step | go_upon | go_back)
    refine Stop.go ?_
    clear p0 p1 p2 x0 x1 x2 x3 qp qx
    have hB5 := H5.out.2.2.2
    have hg2l : g2 < w2.heap.size := (ho2.block _ rfl).2
    have hp5 := hB5.blk hp2.drew hpg
    have hx5 := hB5.blk hx2.drew nx
    have hr5 := ((hr1.step hb2).drew.keep (hB5.same.sub (S' := fun b => (base ≤ b ∧ b ≠ gt ∧ b ≠ pb) ∧ b < w.heap.size) fun b hb => hb.1.2.1))
    have hq5 := ((hq1.step hb2).drew.keep (hB5.same.sub (S' := fun b => b < base) fun b hb => by omega))
    have ho5 := ho2.drw.keep (S := (· ≠ gt)) hB5.same (fun x hx => by injection hx with hx; subst hx; show g2 ≠ gt; omega)
    have hz5 : w2.heap.size ≤ w5.heap.size := hB5.size
    have hz12 : W1.heap.size ≤ w2.heap.size := hb2.size
    have hb5 : Below base w w5 := by
      have h1 : Below base w w2 := (b1.trans (hb2.mono b1.size)).mono hb
      exact h1.trans ⟨hB5.os, hB5.tape, hB5.output, hB5.size, fun b hb' => hB5.block b (by show b < w2.heap.size; omega) (by omega)⟩
    have HC := hid (refPut_any A T.all.length c i B 60 d T.all ((ls.take 60)) _ _ w5.drew hr5.drew hq5.drew (by omega) hi)
    obtain ⟨p0, p1, p2, pl⟩ := hp5.three'
    have pf1 := hp5.frozen 1
    obtain ⟨x0, x1, x2, x3, -, -, -, -, xl⟩ := hx5.four
    repeat' (first | (with_reducible refine stop_region 14 ?_) | ((with_reducible refine region_at 13 ?_); refine wp_region_order [(0, true, false), (1, true, false), (2, true, false), (3, true, false), (4, true, false), (5, true, false), (6, true, false), (7, true, false), (8, false, false), (9, true, false), (10, true, false), (11, false, true)] (by kernel_rfl) (by kernel_rfl) (by kernel_rfl) rfl rfl ?_) | (go_at_call 87; go_must ((with_reducible refine Calls.mono HC.out ?_); rintro _ w6 ⟨A6, c6, rfl, ho6, hb6⟩; have hp6 := hp5.drew.step hb6; have hx6 := hx5.drew.step hb6; obtain ⟨p0, p1, p2, pl⟩ := hp6.three'; have pf1 := hp6.frozen 1; dsimp only)) | (with_reducible refine Keep.last ?_) | (with_reducible refine Keep.below (by assumption) ?_) | (with_reducible refine Keep.kept (by assumption) ?_) | (with_reducible refine Keep.alloc ?_) | (with_reducible refine Keep.same ?_) | ((with_reducible refine WpH.here ?_); first | (refine WpH.nil ?_; refine NoP.normal ?_) | (refine WpH.load (by rfl) (by rfl) (by go_simp; rfl) ?_; simp only [Act.put, List.setIfInBounds_toArray, List.set_cons_zero, List.set_cons_succ]) | (refine WpH.loadT (by rfl) (by rfl) (by go_simp; rfl) (by rintro _ _ ⟨⟩; exact ⟨_, _, _, _, _, _, by rfl, by assumption, by assumption⟩) ?_; simp only [Act.put, List.setIfInBounds_toArray, List.set_cons_zero, List.set_cons_succ]) | (refine WpH.pure (by rfl) (fun w_ => by go_simp; (try go_bits); rfl) ?_; simp only [Act.put, List.setIfInBounds_toArray, List.set_cons_zero, List.set_cons_succ]) | (refine WpH.wild1 (by rfl) (fun _ _ => ?_)) | (refine WpH.skip (by rfl) ?_; simp only [Act.put, List.setIfInBounds_toArray, List.set_cons_zero, List.set_cons_succ])) | go_values | go_skip | go_guarded | go_step | go_upon | go_back)
    refine Stop.go ?_
    have hp7 := hp6.set_ 1 (.slice A6 (T.all.length + 60) c6)
    have hx7 := hx6.far (p := ⟨pb, 1, none⟩) (by show w.heap.size ≠ pb; omega) (.slice A6 (T.all.length + 60) c6)
    have hl5 := congrArg List.length H5.out.2.2.1.1
    simp only [List.length_append, List.length_take, List.length_drop, hlsl] at hl5
    have hlT : T5.all.length = T.all.length + 60 := by have := hlsl; (try simp only [List.length_take] at this); omega
    have hz6 : w5.heap.size ≤ w6.heap.size := hb6.size
    have hr7 : Row (w6.setCell ⟨pb, 1, none⟩ (.slice A6 (T.all.length + 60) c6)) (fun b => (base ≤ b ∧ b ≠ gt ∧ b ≠ pb) ∧ b ≠ g2) A6 T5.all.length c6 T5.all := by
      have h := ho6.row (S := fun b => (base ≤ b ∧ b ≠ gt ∧ b ≠ pb) ∧ b ≠ g2) (fun b h1 h2 => by have h1' : w5.heap.size ≤ b := h1; omega)
      rw [hlT, H5.out.2.2.1.1, Nat.add_zero]
      exact h.keep (Same.setCell _ (fun h => h.1.2.2 rfl) _)
    have hg7 := ((H5.out.2.1.drew.step hb6).far (p := ⟨pb, 1, none⟩) (Ne.symm hpg) (.slice A6 (T.all.length + 60) c6))
    have hT7 : IsTree (w6.setCell ⟨pb, 1, none⟩ (.slice A6 (T.all.length + 60) c6)) (fun b => (base ≤ b ∧ b ≠ gt ∧ b ≠ pb) ∧ b ≠ g2) T5 p5 := by
      refine ((H5.out.1.drew.step hb6).more fun b _ h => ?_).keep (Same.setCell _ (fun h => h.1.2.2 rfl) _)
      rcases h with h | h
      · exact ⟨h.1, by omega⟩
      · have h' : w2.heap.size ≤ b := h
        exact ⟨by omega, by omega⟩
    have ho7 := (ho5.drw.step hb6).keep (S := fun b => b ≠ pb) (Same.setCell w6 (p := ⟨pb, 1, none⟩) (fun h => h rfl) (.slice A6 (T.all.length + 60) c6)) (fun x hx => by injection hx with hx; subst hx; show g2 ≠ pb; omega)
    have hq7 := (hq5.drew.step hb6).keep (Same.setCell w6 (p := ⟨pb, 1, none⟩) (fun h => by have h' : pb < base := h; omega) (.slice A6 (T.all.length + 60) c6))
    have hb7 : Below base w (w6.setCell ⟨pb, 1, none⟩ (.slice A6 (T.all.length + 60) c6)) := Below.setCell (hb5.trans ((undrew hb6).mono (by omega))) hlp _
    have hs7 : (w6.setCell ⟨pb, 1, none⟩ (.slice A6 (T.all.length + 60) c6)).heap.size = w6.heap.size := size_set _ _ _
    clear p0 p1 p2 pl pf1 x0 x1 x2 x3 xl
    generalize w6.setCell ⟨pb, 1, none⟩ (.slice A6 (T.all.length + 60) c6) = W7 at *
    have HT := hid (intact_any g2 60 c2 B d W1.heap.size ((ls.take 60)) _ W7 ho7 hq7 (by omega) (by omega))
    obtain ⟨x0, x1, x2, x3, -, -, -, -, xl⟩ := hx7.four
    repeat' (first | (go_at_call 88; go_must ((with_reducible refine Calls.mono HT.out ?_); rintro _ w8 ⟨rfl, hB8⟩; have hx8 := hB8.blk hx7 (by omega); obtain ⟨x0, x1, x2, x3, -, -, -, -, xl⟩ := hx8.four; dsimp only)) | (go_at_call 89; go_must ((with_reducible refine Calls.mono (HN.out _) ?_); rintro _ w9 ⟨rfl, hb9⟩; dsimp only)) | (go_at_call 28; go_must ((with_reducible refine Calls.mono (HF.out _) ?_); rintro _ w10 ⟨rfl, hb10⟩; dsimp only)) | (with_reducible refine Keep.last ?_) | (with_reducible refine Keep.below (by assumption) ?_) | (with_reducible refine Keep.kept (by assumption) ?_) | (with_reducible refine Keep.alloc ?_) | (with_reducible refine Keep.same ?_) | ((with_reducible refine WpH.here ?_); first | (refine WpH.nil ?_; refine NoP.normal ?_) | (refine WpH.load (by rfl) (by rfl) (by go_simp; rfl) ?_; simp only [Act.put, List.setIfInBounds_toArray, List.set_cons_zero, List.set_cons_succ]) | (refine WpH.loadT (by rfl) (by rfl) (by go_simp; rfl) (by rintro _ _ ⟨⟩; exact ⟨_, _, _, _, _, _, by rfl, by assumption, by assumption⟩) ?_; simp only [Act.put, List.setIfInBounds_toArray, List.set_cons_zero, List.set_cons_succ]) | (refine WpH.pure (by rfl) (fun w_ => by go_simp; (try go_bits); rfl) ?_; simp only [Act.put, List.setIfInBounds_toArray, List.set_cons_zero, List.set_cons_succ]) | (refine WpH.wild1 (by rfl) (fun _ _ => ?_)) | (refine WpH.skip (by rfl) ?_; simp only [Act.put, List.setIfInBounds_toArray, List.set_cons_zero, List.set_cons_succ])) | go_values | go_skip | go_guarded | go_step | go_upon | go_back)
    skip
    go_ret
    have e9 := bvia hb9 hb10
    have sm : Same (fun b => (base ≤ b ∧ b ≠ gt ∧ b ≠ pb) ∧ b ≠ g2) W7 w8 := hB8.same.sub fun b hb => hb.2
    refine ⟨T5, rfl, PairAt.step ⟨⟨hlp, hlg⟩, ⟨A6, c6, by rw [hlT]; exact hB8.blk hp7 (by omega), (hr7.keep sm).more fun b _ h => h.1⟩, p5, hB8.blk hg7 (by omega), (hT7.keep sm).more fun b _ h => h.1⟩ e9, ?_, by omega, fun hg => hg.edit H5.out.2.2.1 hc2, by show T5.all = _; rw [H5.out.2.2.1.1]; simp⟩
    refine (hb7.trans ?_).trans (e9.mono (by have := hB8.size; omega))
    exact ⟨hB8.os, hB8.tape, hB8.output, hB8.size, fun b hb' => hB8.block b (by omega) (by omega)⟩
end Go.Proofs.YtogkbddniacgiaaDoor
