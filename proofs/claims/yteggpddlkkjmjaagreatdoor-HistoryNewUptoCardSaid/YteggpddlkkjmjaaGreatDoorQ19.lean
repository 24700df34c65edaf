/- Part of a proof: what functions of the program compute. Conditions: as each theorem says. -/
import Derived.Maps.RangeWalk
import Derived.Test.YteggpddlkkjmjaaGreatDoorQ13
import Derived.Test.YteggpddlkkjmjaaGreatDoorQ14
set_option linter.unusedSimpArgs false
set_option linter.unusedVariables false
set_option maxHeartbeats 2000000
set_option maxRecDepth 50000
namespace Go.Proofs.YteggpddlkkjmjaaGreatDoor
open Go Go.RowKit
variable {S' : Nat → Prop} {a : Nat → Addr}
theorem apply_arg (w : World) (mb : Nat) (o : Opn) (id : Nm) (hro : rightOp o = false) (hs : Sents w S' a) :
 Calls Tryz.prog 102 #[.pointer (some ⟨mb, 0, none⟩), o.agg, id.val] w fun e w' => ∃ v, e = .returned v ∧ IsErr w' (Fr w S') a [⟨({ data := #[120, 102, 111, 114, 109] } : ByteArray), ({ data := #[65, 112, 112, 108, 121] } : ByteArray), atOf o.at_⟩] 1 v ∧ Below w.heap.size w w' := by
 have HE := hid (fun W => new_err (S := S') (a := a) ({ data := #[120, 102, 111, 114, 109] } : ByteArray) ({ data := #[65, 112, 112, 108, 121] } : ByteArray) o.at_ [] 1 (reason (a 1)) W ⟨by omega, by omega, rfl⟩)
 obtain ⟨k, t, c, r⟩ := o
 have b1 : Below w.heap.size w ((w.alloc (.cells #[.int .i64 k, .int .i64 t, .int .i32 c, .int .i64 r] 37)).alloc (.cells #[.int .i64 id.epoch, .int .i64 id.rep, .int .i64 id.num] 70)) := balloc (balloc (Below.refl _ _))
 have s1 : (w.alloc (.cells #[.int .i64 k, .int .i64 t, .int .i32 c, .int .i64 r] 37)).heap.size = w.heap.size + 1 := Array.size_push _
 have hx := (Blk.new w 37 #[.int .i64 k, .int .i64 t, .int .i32 c, .int .i64 r]).alloc (.cells #[.int .i64 id.epoch, .int .i64 id.rep, .int .i64 id.num] 70)
 have hy := Blk.new (w.alloc (.cells #[.int .i64 k, .int .i64 t, .int .i32 c, .int .i64 r] 37)) 70 #[.int .i64 id.epoch, .int .i64 id.rep, .int .i64 id.num]
 rw [s1] at hy
 have HR := hid (fun W => rightOp_any ⟨k, t, c, r⟩ W)
 rw [hro] at HR
 unfold Opn.agg Nm.val at *
 dsimp only at HR
 dsimp only at HE
 clear hro
 go_enter Tryz.func102, Tryz.ntmps102
 repeat' (first | (go_at_call 64; go_must ((with_reducible refine Calls.mono (HR.out _) ?_); rintro _ w1 ⟨rfl, hb1⟩; have hbb := bvia b1 hb1; obtain ⟨x0, x1, x2, x3, -, -, -, -, xl⟩ := (hx.step hb1).four; have c1 := (hs.step hbb).cell 1 (by omega) (by omega); simp only [gOf, reason] at c1; dsimp only)) | (go_at_call 51; go_must ((with_reducible refine Calls.mono (HE.out _) ?_); rintro _ w3 ⟨v, rfl, hv, hb3⟩; dsimp only)) | go_guarded | go_step)
 go_ret
 exact ⟨v, rfl, hv.cut hbb.size, bvia hbb hb3⟩
theorem apply_range (w : World) (S : Nat → Prop) (mb : Nat) (l : List El) (K : Nat) (o : Opn) (id : Nm) (h : Mdl w S mb l K) (hro : rightOp o = true) (hvo : validOp o l.length = false) (hs : Sents w S' a) :
 Calls Tryz.prog 102 #[.pointer (some ⟨mb, 0, none⟩), o.agg, id.val] w fun e w' => ∃ v, e = .returned v ∧ IsErr w' (Fr w S') a [⟨({ data := #[120, 102, 111, 114, 109] } : ByteArray), ({ data := #[65, 112, 112, 108, 121] } : ByteArray), atOf o.at_⟩] 2 v ∧ Below w.heap.size w w' := by
 have HE := hid (fun W => new_err (S := S') (a := a) ({ data := #[120, 102, 111, 114, 109] } : ByteArray) ({ data := #[65, 112, 112, 108, 121] } : ByteArray) o.at_ [] 2 (reason (a 2)) W ⟨by omega, by omega, rfl⟩)
 have HV := hid (fun W => validOp_any o l.length W)
 rw [hvo] at HV
 obtain ⟨k, t, c, r⟩ := o
 have b1 : Below w.heap.size w ((w.alloc (.cells #[.int .i64 k, .int .i64 t, .int .i32 c, .int .i64 r] 37)).alloc (.cells #[.int .i64 id.epoch, .int .i64 id.rep, .int .i64 id.num] 70)) := balloc (balloc (Below.refl _ _))
 have s1 : (w.alloc (.cells #[.int .i64 k, .int .i64 t, .int .i32 c, .int .i64 r] 37)).heap.size = w.heap.size + 1 := Array.size_push _
 have hx := (Blk.new w 37 #[.int .i64 k, .int .i64 t, .int .i32 c, .int .i64 r]).alloc (.cells #[.int .i64 id.epoch, .int .i64 id.rep, .int .i64 id.num] 70)
 have hy := Blk.new (w.alloc (.cells #[.int .i64 k, .int .i64 t, .int .i32 c, .int .i64 r] 37)) 70 #[.int .i64 id.epoch, .int .i64 id.rep, .int .i64 id.num]
 rw [s1] at hy
 have HR := hid (fun W => rightOp_any ⟨k, t, c, r⟩ W)
 rw [hro] at HR
 unfold Opn.agg Nm.val at *
 dsimp only at HR
 dsimp only at HE HV
 have hM0 := h.step b1
 clear hro hvo h
 go_enter Tryz.func102, Tryz.ntmps102
 repeat' (first | (go_at_call 64; go_must ((with_reducible refine Calls.mono (HR.out _) ?_); rintro _ w1 ⟨rfl, hb1⟩; have hbb := bvia b1 hb1; have hx1 := hx.step hb1; obtain ⟨x0, x1, x2, x3, -, -, -, -, xl⟩ := hx1.four; have hM1 := (hM0.step hb1).keep (w' := w1.drew) (fun _ _ _ => rfl); have HL := hid (mlen_any w1.drew _ mb l K hM1); dsimp only)) | ((with_reducible refine region_at 5 ?_); refine wp_region_order (rgl [0,4,9,13,16,20]) (by kernel_rfl) (by kernel_rfl) (by kernel_rfl) rfl rfl ?_) | (go_at_call 43; go_must ((with_reducible refine Calls.mono HL.out ?_); rintro _ _ ⟨rfl, rfl⟩; dsimp only)) | (go_at_call 111; go_must ((with_reducible refine Calls.mono (HV.out _) ?_); rintro _ w2 ⟨rfl, hb2⟩; have hb2' := bvia hbb.drew hb2; obtain ⟨u0, u1, u2, u3, -, -, -, -, ul⟩ := (hx1.drew.step hb2).four; have c1 := (hs.step hb2').cell 2 (by omega) (by omega); simp only [gOf, reason] at c1; dsimp only)) | (go_at_call 51; go_must ((with_reducible refine Calls.mono (HE.out _) ?_); rintro _ w3 ⟨v, rfl, hv, hb3⟩; dsimp only)) | (with_reducible first | refine Keep.below (by assumption) ?_ | refine Keep.same ?_) | ((with_reducible refine WpH.here ?_); first | (refine WpH.nil ?_; refine NoP.normal ?_) | ((first | refine WpH.load (by rfl) (by rfl) (by go_simp; rfl) ?_ | refine WpH.pure (by rfl) (fun w_ => by go_simp; (try go_bits); rfl) ?_); go_frame) | (refine WpH.wild1 (by rfl) (fun _ _ => ?_))) | go_guarded | go_step)
 go_ret
 exact ⟨v, rfl, hv.cut hb2'.size, bvia hb2' hb3⟩
theorem apply_twice (w : World) (S : Nat → Prop) (mb : Nat) (l : List El) (K : Nat) (o : Opn) (id : Nm) (h : Mdl w S mb l K) (hl : l.length ≤ 536870912) (hk : o.kind = 1) (hvo : validOp o l.length = true) (hid' : id.In) (hn : id ∈ l.map El.nm) (hs : Sents w S' a) :
 Calls Tryz.prog 102 #[.pointer (some ⟨mb, 0, none⟩), o.agg, id.val] w fun e w' => ∃ v, e = .returned v ∧ IsErr w' (Fr w S') a [⟨({ data := #[120, 102, 111, 114, 109] } : ByteArray), ({ data := #[65, 112, 112, 108, 121] } : ByteArray), atOf o.at_⟩, ⟨({ data := #[109, 111, 100, 101, 108] } : ByteArray), ({ data := #[73, 110, 115, 101, 114, 116] } : ByteArray), atOf o.at_⟩] 9 v ∧ Below w.heap.size w w' := by
 have hro := valid_right hvo
 obtain ⟨-, h0, hh⟩ := validOp_right hvo
 have hrc : rightC o.char = true := by
  rcases rightOp_kind hro with ⟨_, h⟩ | h | h
  · exact h
  · omega
  · omega
 have HV := hid (fun W => validOp_any o l.length W)
 rw [hvo] at HV
 obtain ⟨k, t, c, r⟩ := o
 dsimp only at hk h0 hh hrc
 subst hk
 obtain ⟨i, rfl⟩ : ∃ i : Nat, t = i := ⟨t.toNat, by omega⟩
 obtain ⟨k, hk⟩ : ∃ k : Int, k = 1 := ⟨1, rfl⟩
 rw [← hk] at hro HV ⊢
 generalize hti : (i : Int) = t at hro HV ⊢
 have HN := hid (fun W (e : Value) (he : IsErr W S' a [⟨({ data := #[109, 111, 100, 101, 108] } : ByteArray), ({ data := #[73, 110, 115, 101, 114, 116] } : ByteArray), atOf t⟩] 9 e) => new_err (S := S') (a := a) ({ data := #[120, 102, 111, 114, 109] } : ByteArray) ({ data := #[65, 112, 112, 108, 121] } : ByteArray) t _ 9 e W he)
 have b1 : Below w.heap.size w ((w.alloc (.cells #[.int .i64 k, .int .i64 t, .int .i32 c, .int .i64 r] 37)).alloc (.cells #[.int .i64 id.epoch, .int .i64 id.rep, .int .i64 id.num] 70)) := balloc (balloc (Below.refl _ _))
 have s1 : (w.alloc (.cells #[.int .i64 k, .int .i64 t, .int .i32 c, .int .i64 r] 37)).heap.size = w.heap.size + 1 := Array.size_push _
 have hx := (Blk.new w 37 #[.int .i64 k, .int .i64 t, .int .i32 c, .int .i64 r]).alloc (.cells #[.int .i64 id.epoch, .int .i64 id.rep, .int .i64 id.num] 70)
 have hy := Blk.new (w.alloc (.cells #[.int .i64 k, .int .i64 t, .int .i32 c, .int .i64 r] 37)) 70 #[.int .i64 id.epoch, .int .i64 id.rep, .int .i64 id.num]
 rw [s1] at hy
 have HR := hid (fun W => rightOp_any ⟨k, t, c, r⟩ W)
 rw [hro] at HR
 unfold Opn.agg Nm.val at *
 dsimp only at HR
 subst hk
 subst hti
 dsimp only at HV HN
 have hM0 := h.step b1
 have hil : i ≤ l.length := by omega
 clear hro hvo h hh h0
 go_enter Tryz.func102, Tryz.ntmps102
 repeat' (first | (go_at_call 64; go_must ((with_reducible refine Calls.mono (HR.out _) ?_); rintro _ w1 ⟨rfl, hb1⟩; have hbb := bvia b1 hb1; have hx1 := hx.step hb1; have hy1 := hy.step hb1; obtain ⟨x0, x1, x2, x3, -, -, -, -, xl⟩ := hx1.four; have hM1 := (hM0.step hb1).keep (w' := w1.drew) (fun _ _ _ => rfl); have HL := hid (mlen_any w1.drew _ mb l K hM1); dsimp only)) | ((with_reducible refine region_at 5 ?_); refine wp_region_order (rgl [0,4,9,13,16,20]) (by kernel_rfl) (by kernel_rfl) (by kernel_rfl) rfl rfl ?_) | (go_at_call 43; go_must ((with_reducible refine Calls.mono HL.out ?_); rintro _ _ ⟨rfl, rfl⟩; dsimp only)) | (go_at_call 111; go_must ((with_reducible refine Calls.mono (HV.out _) ?_); rintro _ w2 ⟨rfl, hb2⟩; have hb2' := bvia hbb.drew hb2; have hx2 := hx1.drew.step hb2; obtain ⟨u0, u1, u2, u3, -, -, -, -, ul⟩ := hx2.four; have hy2 := hy1.drew.step hb2; have y0 := hy2.cell 0; have y1 := hy2.cell 1; have y2 := hy2.cell 2; simp at y0 y1 y2; have HI := hid (minsert_twice w2 _ mb l K i (insEl id c) (hM1.step hb2) hl hil ⟨hrc, show fairH 0 = true by decide, hid'⟩ hn (hs.step hb2')); unfold insEl at HI; dsimp only at HI; dsimp only)) | (go_at_call 134; go_must ((with_reducible refine Calls.mono HI.out ?_); rintro _ w3 ⟨e1, rfl, he1, hb3⟩; obtain ⟨v0, v1, v2, v3, -, -, -, -, vl⟩ := (hx2.step hb3).four; have hb3' := bvia hb2' hb3; dsimp only)) | (go_at_call 51; go_must ((with_reducible refine Calls.mono (new_err _ _ _ _ _ _ _ he1) ?_); rintro _ w4 ⟨v, rfl, hv, hb4⟩; dsimp only)) | (with_reducible first | refine Keep.below (by assumption) ?_ | refine Keep.same ?_) | ((with_reducible refine WpH.here ?_); first | (refine WpH.nil ?_; refine NoP.normal ?_) | ((first | refine WpH.load (by rfl) (by rfl) (by go_simp; rfl) ?_ | refine WpH.pure (by rfl) (fun w_ => by go_simp; (try go_bits); rfl) ?_); go_frame) | (refine WpH.wild1 (by rfl) (fun _ _ => ?_))) | go_guarded | go_step)
 go_ret
 exact ⟨v, rfl, (hv.cut (w := w2) hb3.size).more fun b _ h => by
  rcases h with (h | h) | h
  · exact .inl h
  · exact .inr (Nat.le_trans hb2'.size h)
  · exact .inr (Nat.le_trans hb2'.size h), bvia hb3' hb4⟩
end Go.Proofs.YteggpddlkkjmjaaGreatDoor
namespace Go.Proofs.YteggpddlkkjmjaaGreatDoor
open Go Go.RowKit Go.Maps
instance : Enc Bool where
 k := 1
 cells b := [.bool b]
 len _ := rfl
 one := by
  intro a u hu
  have : u = .bool a := by simpa using hu
  subst this
  rfl
theorem Tryz.infoBool : (Tryz.prog.info? 4).map (fun i => (i.zero, i.size, i.bytes)) = some (some (.bool false), 1, 1) := by kernel_rfl
theorem wp_append_bools {ac : Act} {K : Act → World → Prop} {Q : Exit → Act → World → Prop} {w : World} {dst : Option Tmp} {s x : Operand} {ty : TypeId} {pos : String} {after : Array Edge} {guard : Option (Nat × Bool)}
 (base : Nat) (A B : Option Addr) (n c m d : Nat) (es fs : List Bool) (S : Nat → Prop) (hs : ac.eval s = .slice A n c) (hx : ac.eval x = .slice B m d) (hown : GOwn 4 w base A n c es) (hrow : GRow w S B m d fs) (hb : base ≤ w.heap.size) (hbd : n + m ≤ 1099511627776)
 (h : ∀ A' c' w', GOwn 4 w' base A' (n + m) c' (es ++ fs) → Below base w w' → Same (fun k => ∀ g, A = some g → g.block ≠ k) w w' → (A' = A ∨ ∃ g, A' = some ⟨g, 0, none⟩ ∧ w.heap.size ≤ g) → w.heap.size ≤ w'.heap.size → K (ac.put dst (.slice A' (n + m) c')) w') :
 Oper.wp Tryz.prog ⟨dst, .call ⟨.builtin .append, #[s, x], #[182, 182]⟩, ty, pos, after, guard⟩ ac w K Q :=
 wp_append_g (α := Bool) 182 4 _ 1 Tryz.underlying182 Tryz.infoBool rfl (by decide) (by decide) (by decide) base A B n c m d es fs S hs hx hown hrow hb hbd h
theorem app_bools_here {ac : Act} {K : Act → World → Prop} {Q : Exit → Act → World → Prop} {w : World} {dst : Option Tmp} {s x : Operand} {ty : TypeId} {pos : String} {after : Array Edge} {guard : Option (Nat × Bool)}
 (h : Oper.wp Tryz.prog ⟨dst, .call ⟨.builtin .append, #[s, x], #[182, 182]⟩, ty, pos, after, guard⟩ ac w K Q) : Oper.wp Tryz.prog ⟨dst, .call ⟨.builtin .append, #[s, x], #[182, 182]⟩, ty, pos, after, guard⟩ ac w K Q := h
theorem grow_bool (W : World) (x : Bool) : GRow (W.alloc (.cells #[.bool x] 4)) (fun _ => True) (some ⟨W.heap.size, 0, none⟩) 1 1 [x] :=
 (GOwn.lit (t := 4) W #[.bool x] [x] W.heap.size (Nat.le_refl _) (by show 1 ≤ maxLen; decide) rfl).row fun _ _ _ => trivial
theorem gcells_bool (l : List Bool) : gcells l = l.map Value.bool := by
 induction l with
 | nil => rfl
 | cons x l ih => rw [gcells_cons, ih]; rfl
theorem gown_bool {t : TypeId} {w : World} {base : Nat} {A : Option Addr} {n c : Nat} {es : List Bool} (h : GOwn t w base A n c es) (hn : 0 < n) : ∃ g cur, A = some ⟨g, 0, none⟩ ∧ base ≤ g ∧ Blk w g t cur ∧ cur.size = c ∧ n ≤ c ∧ c ≤ maxLen ∧ cur.toList.take n = gcells es := by
 have hc := h.cap_le
 rcases h.2.2 with ⟨_, h0⟩ | ⟨g, cap, cur, e, hbg, hh, h1, h2, h3, h4⟩
 · omega
 · injection e with e1 e2 e3
   subst e3
   exact ⟨g, cur, e1, hbg, hh, h3.trans (Nat.mul_one _), h1, hc.2, by rw [← h4]; congr 1; exact (Nat.mul_one n).symm⟩
theorem GOwn.setB {w : World} {base g n c i : Nat} {es : List Bool} {t : TypeId} (h : GOwn t w base (some ⟨g, 0, none⟩) n c es) (v : Bool) (hi : i < n) :
 GOwn t (w.setCell ⟨g, i, none⟩ (.bool v)) base (some ⟨g, 0, none⟩) n c (es.set i v) := by
 obtain ⟨g', cur, e1, hbg, hb, hs, hnc, hc, ht⟩ := gown_bool h (by omega)
 injection e1 with e1
 injection e1 with e1
 subst e1
 refine ⟨by simpa using h.1, by rw [gcells_length, List.length_set, h.1], .inr ⟨g, c, _, rfl, hbg, hb.set_ i (.bool v), hnc, hc, ?_, ?_⟩⟩
 · simp [hs]; exact (Nat.mul_one c).symm
 · rw [gcells_bool, List.map_set, ← gcells_bool, ← ht]
   simp only [Array.toList_setIfInBounds]
   rw [show n * Enc.k Bool = n from Nat.mul_one n, List.take_set]
theorem own_bool {t : TypeId} {w : World} {base g n c : Nat} {es : List Bool} (h : GOwn t w base (some ⟨g, 0, none⟩) n c es) {i : Nat} {v : Bool} (hv : es[i]? = some v) : w.cell? ⟨g, i, none⟩ = some (.bool v) ∧ w.frozen? ⟨g, i, none⟩ = false ∧ g < w.heap.size := by
 have hi : i < n := by rw [← h.1]; exact (List.getElem?_eq_some_iff.1 hv).1
 obtain ⟨g', cur, e1, hbg, hb, hs, hnc, hc, ht⟩ := gown_bool h (by omega)
 injection e1 with e1
 injection e1 with e1
 subst e1
 refine ⟨?_, hb.frozen _, hb.lt⟩
 rw [hb.cell, ← Array.getElem?_toList, ← List.getElem?_take_of_lt hi, ht, gcells_bool, List.getElem?_map, hv]
 rfl
theorem make_bools (w : World) (n : Nat) (hn : n ≤ 1048576) : ∃ w', (Instr.makeSlice 182 (.int .i64 (n : Int)) (.int .i64 (n : Int))).run Tryz.prog w = .ok (.slice (some ⟨w.heap.size, 0, none⟩) n n) w' ∧ GOwn 4 w' w.heap.size (some ⟨w.heap.size, 0, none⟩) n n (List.replicate n false) ∧ Below w.heap.size w w' := by
 obtain ⟨i0, hi0, hz0, hz1, hz2⟩ := info_parts Tryz.infoBool
 obtain ⟨w', hrun, ho, hg⟩ := run_make_full (P := Tryz.prog) w w.heap.size 182 4 i0 _ 1 Tryz.underlying182 hi0 hz0 hz1 .i64 .i64 n (by rw [hz2]; omega) (by show n ≤ 9223372036854775807; omega) (Nat.le_refl _)
 refine ⟨w', hrun, ⟨List.length_replicate, ?_⟩, ?_⟩
 · have e : (madeCells (Value.cells (.bool false)) (n * 1)).toList = gcells (List.replicate n false) := by
    rw [show Value.cells (.bool false) = #[.bool false] from rfl, toList_madeCells_one, gcells_bool, List.map_replicate, Nat.mul_one]
   rw [← e]
   exact ho
 · exact (Below.refl _ _).grown hg (Nat.le_refl _) fun k hk => by cases hk
theorem countT_succ {s : List Bool} {k : Nat} {v : Bool} (h : s[k]? = some v) : countT s (k + 1) = countT s k + if v = true then 1 else 0 := by
 unfold countT
 rw [List.take_add_one, h, List.filter_append, List.length_append]
 congr 1
 cases v <;> simp
theorem countT_le (s : List Bool) (k : Nat) : countT s k ≤ k := by
 unfold countT
 have h1 := List.length_filter_le id (s.take k)
 have h2 := List.length_take_le k s
 omega
def IsNum (w : World) (b K : Nat) (s : List Nm) : Prop := ∃ (n : Nat) (D : DataW Unit), w.ownsMap Tryz.prog 70 (plainElem Tryz.prog 3) b n D ∧ n ≤ K ∧ ∀ (k : Nat) (i : Nm) (h : i.In), s[k]? = some i → D.atKey (i.lit h) (.lit (.int .i64 0)) = .lit (.int .i64 k)
section
variable {w w' : World} {b K : Nat} {s : List Nm}
theorem IsNum.lt (h : IsNum w b K s) : b < w.heap.size := by
 obtain ⟨n, D, h, _⟩ := h
 exact h.lt
theorem IsNum.heap (h : IsNum w b K s) (hb : w'.heap[b]? = w.heap[b]?) : IsNum w' b K s := by
 obtain ⟨n, D, ⟨es, clock, h1, r⟩, h2⟩ := h
 exact ⟨n, D, ⟨es, clock, hb.trans h1, r⟩, h2⟩
theorem IsNum.made (w : World) : IsNum (w.alloc (.map #[] 0)) w.heap.size 0 [] :=
 ⟨0, .map [], World.ownsMap_made w _ _ _, Nat.zero_le _, fun k i h e => by simp at e⟩
theorem IsNum.put (h : IsNum w b K s) (i : Nm) (hi : i.In) (hK : K ≤ 1099511627776) (hs : s.length ≤ 1099511627776) (hn : i ∉ s) : ∃ w', (Instr.mapUpdate 181 (.map (some b)) i.val (.int .i64 s.length)).run Tryz.prog w = .ok () w' ∧ IsNum w' b (K + 1) (s ++ [i]) ∧ w.mapTurned w' b := by
 obtain ⟨n, D, ho, hnk, hat⟩ := h
 obtain ⟨w', hrun, ho', hT⟩ := ho.store Tryz.idKeyed Tryz.underlying181 (by have : maxLen = 9223372036854775807 := rfl; omega) (i.lit_key hi) (plainElem_int Tryz.underlying3 (show (Lit.int .i64 (s.length : Int)).wf = true from I64.wf ⟨by omega, by omega⟩))
 refine ⟨w', hrun, ⟨n + 1, _, ho', by omega, fun k j hj hk => ?_⟩, hT⟩
 by_cases e : j = i
 · subst e
   rw [atKey_put_same ho.isMap (Nm.lit_isKey _ _)]
   rcases Nat.lt_or_ge k s.length with h1 | h1
   · rw [List.getElem?_append_left h1] at hk
     exact absurd (List.mem_of_getElem? hk) hn
   · have h2 : k < (s ++ [j]).length := (List.getElem?_eq_some_iff.1 hk).1
     rw [List.length_append] at h2
     have h3 : k = s.length := by simp at h2; omega
     rw [h3]
 · rw [atKey_put_other (fun h => e (Nm.lit_inj h))]
   refine hat k j hj ?_
   rcases Nat.lt_or_ge k s.length with h1 | h1
   · rwa [List.getElem?_append_left h1] at hk
   · rw [List.getElem?_append_right h1] at hk
     obtain ⟨h2, h3⟩ := List.getElem?_eq_some_iff.1 hk
     simp at h3
     exact absurd h3.symm e
theorem IsNum.ask (h : IsNum w b K s) {k : Nat} (i : Nm) (hi : i.In) (hk : s[k]? = some i) : (Instr.lookup 181 (.map (some b)) i.val false).run Tryz.prog w = .ok (.int .i64 k) w := by
 obtain ⟨n, D, ho, -, hat⟩ := h
 obtain ⟨c, hrun, h2, -⟩ := ho.lookup_int Tryz.idKeyed Tryz.underlying181 Tryz.underlying3 (by kernel_rfl) (i.lit_key hi)
 rw [hat k i hi hk] at h2
 rw [DataW.lit.injEq, Lit.int.injEq] at h2
 obtain ⟨-, rfl⟩ := h2
 exact hrun
end
end Go.Proofs.YteggpddlkkjmjaaGreatDoor
namespace Go.Proofs.YteggpddlkkjmjaaGreatDoor
open Go Go.RowKit
section
variable {w : World}
theorem rc13 {b o : Nat} (x : Actn) (h : ∀ (i : Nat) (v : Value), (Enc.cells x)[i]? = some v → w.cell? ⟨b, o + i, none⟩ = some v) : w.cell? ⟨b, o, none⟩ = some (.int .i64 x.op.kind) ∧ w.cell? ⟨b, o + 1, none⟩ = some (.int .i64 x.op.at_) ∧ w.cell? ⟨b, o + 2, none⟩ = some (.int .i32 x.op.char) ∧ w.cell? ⟨b, o + 3, none⟩ = some (.int .i64 x.op.rep) ∧ w.cell? ⟨b, o + 4, none⟩ = some (.int .i64 x.num) ∧ w.cell? ⟨b, o + 5, none⟩ = some (.int .i64 x.clk.c0) ∧ w.cell? ⟨b, o + 6, none⟩ = some (.int .i64 x.clk.c1) ∧ w.cell? ⟨b, o + 7, none⟩ = some (.int .i64 x.clk.c2) ∧ w.cell? ⟨b, o + 8, none⟩ = some (.int .i64 x.clk.c3) ∧ w.cell? ⟨b, o + 9, none⟩ = some (.int .i64 x.clk.c4) ∧ w.cell? ⟨b, o + 10, none⟩ = some (.int .i64 x.clk.c5) ∧ w.cell? ⟨b, o + 11, none⟩ = some (.int .i64 x.clk.c6) ∧ w.cell? ⟨b, o + 12, none⟩ = some (.int .i64 x.clk.c7) := ⟨h 0 _ rfl, h 1 _ rfl, h 2 _ rfl, h 3 _ rfl, h 4 _ rfl, h 5 _ rfl, h 6 _ rfl, h 7 _ rfl, h 8 _ rfl, h 9 _ rfl, h 10 _ rfl, h 11 _ rfl, h 12 _ rfl⟩
end
theorem ref5Index_own (A : Option Addr) (n c : Nat) (es : List El) (S : Nat → Prop) (id : Nm) (w : World) (k0 : Nat) (h : Row w S A n c es) (hn : n ≤ 1073741824) (hk : ixOf es id = some k0) :
 Calls Tryz.prog 29 #[.slice A n c, .agg #[.int .i64 id.epoch, .int .i64 id.rep, .int .i64 id.num]] w fun e w' => e = .returned (.int .i64 k0) ∧ Below w.heap.size w w' := by
 obtain ⟨x0, hx0, hxn, hxf⟩ := ixOf_get hk
 refine (ref5Index_at A n c es S id w h hn).mono ?_
 rintro e w' ⟨h1 | h1, h2⟩
 · obtain ⟨k, y, rfl, hy, hyn, hyf⟩ := h1
   obtain rfl := first_same hx0 hxn hxf hy hyn hyf
   exact ⟨rfl, h2⟩
 · exact absurd (List.mem_map.2 ⟨x0, List.mem_of_getElem? hx0, hxn⟩) h1.2
def setsAt (b : Nat) (l : List (Nat × Value)) (w : World) : World := l.foldl (fun W p => W.setCell ⟨b, p.1, none⟩ p.2) w
section
variable {S T : Nat → Prop} {w w1 : World} {b base : Nat}
theorem setsAt_size (l : List (Nat × Value)) (w : World) : (setsAt b l w).heap.size = w.heap.size := by
 induction l generalizing w with
 | nil => rfl
 | cons p l ih => exact (ih _).trans (by simp [World.setCell])
theorem setsAt_heap (l : List (Nat × Value)) (w : World) {k : Nat} (hk : k ≠ b) : (setsAt b l w).heap[k]? = w.heap[k]? := by
 induction l generalizing w with
 | nil => rfl
 | cons p l ih => exact (ih _).trans (Below.heap_setCell _ _ _ _ hk)
theorem setsAt_os (l : List (Nat × Value)) (w : World) : (setsAt b l w).os = w.os ∧ (setsAt b l w).tape = w.tape ∧ (setsAt b l w).output = w.output := by
 induction l generalizing w with
 | nil => exact ⟨rfl, rfl, rfl⟩
 | cons p l ih => exact ih _
theorem Out.sets (l : List (Nat × Value)) (h : Out S w w1) (hb : w.heap.size ≤ b) : Out S w (setsAt b l w1) := by
 obtain ⟨e1, e2, e3⟩ := setsAt_os (b := b) l w1
 exact ⟨e1.trans h.os, e2.trans h.tape, e3.trans h.output, by rw [setsAt_size]; exact h.size, fun k hk hn => (setsAt_heap l w1 (by omega)).trans (h.block k hk hn)⟩
theorem Below.sets (l : List (Nat × Value)) (h : Below base w w1) (hb : base ≤ b) : Below base w (setsAt b l w1) := by
 obtain ⟨e1, e2, e3⟩ := setsAt_os (b := b) l w1
 exact ⟨e1.trans h.os, e2.trans h.tape, e3.trans h.output, by rw [setsAt_size]; exact h.size, fun k hk => (setsAt_heap l w1 (by omega)).trans (h.block k hk)⟩
theorem Same.sets (l : List (Nat × Value)) (hb : ¬ T b) : Same T w1 (setsAt b l w1) := fun k hk _ => setsAt_heap l w1 fun e => hb (e ▸ hk)
theorem Blk.sets {t : TypeId} {cs : Array Value} (l : List (Nat × Value)) (h : Blk w b t cs) : Blk (setsAt b l w) b t (l.foldl (fun c p => c.setIfInBounds p.1 p.2) cs) := by
 induction l generalizing w cs with
 | nil => exact h
 | cons p l ih => exact ih (h.set_ p.1 p.2)
end
def act13 (P : Actn) : List (Nat × Value) := [(0, .int .i64 P.op.kind), (1, .int .i64 P.op.at_), (2, .int .i32 P.op.char), (3, .int .i64 P.op.rep), (4, .int .i64 P.num), (5, .int .i64 P.clk.c0), (6, .int .i64 P.clk.c1), (7, .int .i64 P.clk.c2), (8, .int .i64 P.clk.c3), (9, .int .i64 P.clk.c4), (10, .int .i64 P.clk.c5), (11, .int .i64 P.clk.c6), (12, .int .i64 P.clk.c7)]
def op4 (P : Opn) : List (Nat × Value) := [(0, .int .i64 P.kind), (1, .int .i64 P.at_), (2, .int .i32 P.char), (3, .int .i64 P.rep)]
section
variable {G : List Actn} {n0 : Nat} {ep : Int} {b : List El}
theorem names_done {l : List El} {o : Opn} {id : Nm} : (doneOp l o id).map El.nm = if o.kind = 1 then (l.map El.nm).take o.at_.toNat ++ id :: (l.map El.nm).drop o.at_.toNat else l.map El.nm := by
 unfold doneOp
 split
 · rw [List.map_append, List.map_cons, List.map_take, List.map_drop]
   rfl
 · split
   · next e he =>
     rw [List.map_set]
     refine List.ext_getElem? fun k => ?_
     rw [List.getElem?_set]
     split
     · next hk =>
       subst hk
       split
       · rw [List.getElem?_map, he]
         rfl
       · next hlt =>
         rw [List.length_map] at hlt
         rw [List.getElem?_eq_none (by rw [List.length_map]; omega)]
     · rfl
   · rfl
theorem mem_split {α : Type} {i x : α} (N : List α) (k : Nat) : x ∈ N.take k ++ i :: N.drop k ↔ x ∈ N ∨ x = i := by
 rw [List.mem_append, List.mem_cons]
 have h : x ∈ N ↔ x ∈ N.take k ∨ x ∈ N.drop k := by rw [← List.mem_append, List.take_append_drop]
 rw [h]
 constructor
 · rintro (h | h | h)
   · exact .inl (.inl h)
   · exact .inr h
   · exact .inl (.inr h)
 · rintro ((h | h) | h)
   · exact .inl h
   · exact .inr (.inr h)
   · exact .inr (.inl h)
theorem nodup_split {α : Type} {i : α} {N : List α} (h : N.Nodup) (hi : i ∉ N) (k : Nat) : (N.take k ++ i :: N.drop k).Nodup := by
 have h2 : (N.take k ++ N.drop k).Nodup := by rwa [List.take_append_drop]
 rw [List.nodup_append] at h2 ⊢
 refine ⟨h2.1, List.nodup_cons.2 ⟨fun hm => hi (List.mem_of_mem_drop hm), h2.2.1⟩, fun a ha c hc => ?_⟩
 rcases List.mem_cons.1 hc with rfl | hc
 · exact fun e => hi (e ▸ List.mem_of_mem_take ha)
 · exact h2.2.2 a ha c hc
end
theorem refOf_ok (A : Option Addr) (n c : Nat) (ls : List El) (S : Nat → Prop) (w : World) (h : Row w S A n c ls) (hn : n ≤ 1048576) (hr : AllRight ls) :
 Calls Tryz.prog 58 #[.slice A n c] w fun r w' => ∃ A' c', r = .returned (.tuple #[.slice A' n c', noNone]) ∧ Own w' (w.heap.size + 1) A' n c' ls ∧ Below w.heap.size w w' := by
 have Hr := hid h
 have hnl := h.1
 have hnm := h.len_le
 unfold maxLen at hnm
 clear h
 have b1 : Below w.heap.size w (w.alloc (.cells #[.int .i64 0, .slice none 0 0, .slice none 0 0] 62)) := balloc (Below.refl _ _)
 have hN := Blk.new w 62 #[.int .i64 0, .slice none 0 0, .slice none 0 0]
 have hz1 : (w.alloc (.cells #[.int .i64 0, .slice none 0 0, .slice none 0 0] 62)).heap.size = w.heap.size + 1 := boxSz _ _
 go_enter Tryz.func58, Tryz.ntmps58
 repeat' (first | go_step)
 generalize w.alloc (.cells #[.int .i64 0, .slice none 0 0, .slice none 0 0] 62) = W1 at *
 have HA := hid hr
 clear hr
 go_loopw [4, 5] (fun o i wr => ∃ (k : Nat) (A' : Option Addr) (c' : Nat), i = .int .i64 k ∧ o = .slice A' k c' ∧ k ≤ n ∧ Own wr (w.heap.size + 1) A' k c' (ls.take k) ∧ Blk wr w.heap.size 62 #[.int .i64 0, .slice none 0 0, .slice none 0 0] ∧ Below w.heap.size w wr) (fun _ i _ => n - (intOf i).toNat)
 case atStart => exact ⟨0, none, 0, rfl, rfl, Nat.zero_le _, Own.nil _ _, hN, b1⟩
 case round =>
  have hz1' := hz1
  clear hN b1 hz1
  obtain ⟨k, A', c', rfl, rfl, hk, hown, hN, hbr⟩ := hrel
  by_cases hlt : k < n
  · obtain ⟨b, off, e, rfl, hS, he, c0, c1, c2, c3, c4⟩ := (Hr.out.step hbr).at_ hlt
    have hbl := lt_of_cell' c0
    dsimp only at hbl
    have hw0 : wrongOf (ls.take k) e = 0 := HA.out k e he
    have hNl := hN.lt
    have hsn := take_snoc_el he
    have HW := hid (wrong_any A' k c' (ls.take k) (fun _ => True) e wr (hown.row fun _ _ _ => trivial) (by omega))
    rw [hw0] at HW
    have hsz := hbr.size
    have Hs := hid (And.intro hsn (And.intro hown hN))
    clear hw0 hsn he hown hN
    repeat' (first | (go_at_call 96; go_must ((with_reducible refine Calls.mono HW.out ?_); rintro _ w2 ⟨rfl, hb2⟩; have c0 := kc hb2 c0; have c1 := kc hb2 c1; have c2 := kc hb2 c2; have c3 := kc hb2 c3; have c4 := kc hb2 c4; have hbl := Nat.lt_of_lt_of_le hbl hb2.size; have eX : Below w2.heap.size w2 (w2.alloc (.cells #[.int .i64 e.epoch, .int .i64 e.rep, .int .i64 e.num, .int .i32 e.char, .int .i64 e.hides] 113)) := balloc (Below.refl _ _); have hownX := (Hs.out.2.1.step hb2).step eX; have hNX := (Hs.out.2.2.step hb2).step eX; have hrow1 := Row.one w2 e; have hbX := bvia (bvia hbr hb2) eX; dsimp only)) | ((with_reducible refine append_here ?_); refine wp_append_el (w.heap.size + 1) A' _ k c' 1 1 (ls.take k) [e] (fun _ => True) (by rfl) (by rfl) hownX hrow1 (by have := hb2.size; have := eX.size; omega) (by omega) ?_; intro A2 c2' w4 hown4 hb4 hsm4 hat4 hz4) | go_step)
    go_roundw
    case rel =>
     refine ⟨k + 1, A2, c2', by go_num, rfl, by omega, ?_, hownX.other hsm4 hNX (fun cs z e' => by injection e' with _ e'; revert e'; decide), hbX.trans (hb4.mono (by omega))⟩
     rw [Hs.out.1]
     exact hown4
    case measure => simp [intOf]; omega
  · obtain rfl : k = n := by omega
    have hl : ls.take k = ls := List.take_of_length_le (by omega)
    rw [hl] at hown
    obtain ⟨rl, r0, r1, r2, f0, f1, f2⟩ := bl3 hN
    repeat' (first | go_step)
    refine bodyPost_ret (v := .tuple #[.slice A' k c', .agg #[.int .i64 0, .slice none 0 0, .slice none 0 0]]) (by simp [results, Tryz.results58, go_sem, r0, r1, r2, rl, size_set]) rfl ⟨A', c', rfl, ?_, ?_⟩
    · have hne : ∀ a, A' = some a → a.block ≠ w.heap.size := fun a ha => by have := (hown.block a ha).1; omega
      exact ((hown.keep (S := fun b => b ≠ w.heap.size) (Same.setCell (p := ⟨w.heap.size, 0, none⟩) _ (fun h => h rfl) _) hne).keep (S := fun b => b ≠ w.heap.size) (Same.setCell (p := ⟨w.heap.size, 1, none⟩) _ (fun h => h rfl) _) hne).keep (S := fun b => b ≠ w.heap.size) (Same.setCell (p := ⟨w.heap.size, 2, none⟩) _ (fun h => h rfl) _) hne
    · exact bset (bset (bset hbr (Nat.le_refl _)) (Nat.le_refl _)) (Nat.le_refl _)
end Go.Proofs.YteggpddlkkjmjaaGreatDoor
