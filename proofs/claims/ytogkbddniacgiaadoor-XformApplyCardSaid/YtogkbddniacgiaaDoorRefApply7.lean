/- The document's Apply of chapter 7: done, or why not: the walks. Conditions: the row lies in memory, fewer than 2^30 elements. -/
import Derived.Test.YtogkbddniacgiaaDoorPlainApply
import Derived.Test.YtogkbddniacgiaaDoorLend
namespace Go.Proofs.YtogkbddniacgiaaDoor
set_option linter.unusedSimpArgs false
set_option linter.unusedVariables false
open Go Go.RowKit
theorem IsNo.moreS {w : World} {S S' : Nat → Prop} {ch : List Lk} {code : Nat} {v : Value} (h : IsNo w S ch code v) (hs : ∀ b, S b → S' b) : IsNo w S' ch code v := by
  obtain ⟨h1, A, n, c, B, d, rfl, hr1, hr2⟩ := h
  exact ⟨h1, A, n, c, B, d, rfl, hr1.more fun b _ h => hs b h, hr2.more fun b _ h => hs b h⟩
theorem IsNo.keepS {w w' : World} {S : Nat → Prop} {ch : List Lk} {code : Nat} {v : Value} (h : IsNo w S ch code v) (hz : w.heap.size ≤ w'.heap.size) (hs : Same S w w') : IsNo w' S ch code v := by
  obtain ⟨h1, A, n, c, B, d, rfl, hr1, hr2⟩ := h
  exact ⟨h1, A, n, c, B, d, rfl, hr1.keep hz hs, hr2.keep hz hs⟩
theorem IsNo.set3 {w : World} {S : Nat → Prop} {b : Nat} {ch : List Lk} {code : Nat} {v : Value} (h : IsNo w S ch code v) (ns : ¬ S b) (x y z : Value) :
    IsNo (((w.setCell ⟨b, 0, none⟩ x).setCell ⟨b, 1, none⟩ y).setCell ⟨b, 2, none⟩ z) S ch code v :=
  h.keepS (by simp [World.setCell]) (((Same.setCell w ns _).trans (by simp [World.setCell]) (Same.setCell _ ns _)).trans (by simp [World.setCell]) (Same.setCell _ ns _))
theorem boxes3 (w : World) (t u s : TypeId) (x y z : Array Value) : let W := ((w.alloc (.cells x t)).alloc (.cells y u)).alloc (.cells z s)
    Blk W w.heap.size t x ∧ Blk W (w.heap.size + 1) u y ∧ Blk W (w.heap.size + 1 + 1) s z ∧ Below w.heap.size w W := by
  intro W
  have s1 : (w.alloc (.cells x t)).heap.size = w.heap.size + 1 := Array.size_push _
  have s2 : ((w.alloc (.cells x t)).alloc (.cells y u)).heap.size = w.heap.size + 1 + 1 := by rw [← s1]; exact Array.size_push _
  refine ⟨((Blk.new w t x).alloc _).alloc _, ?_, ?_, balloc (balloc (balloc (Below.refl _ _)))⟩
  · have := (Blk.new (w.alloc (.cells x t)) u y).alloc (.cells z s)
    rw [s1] at this
    exact this
  · have := Blk.new ((w.alloc (.cells x t)).alloc (.cells y u)) s z
    rw [s2] at this
    exact this
set_option maxRecDepth 20000 in
theorem wrap_none (l c : ByteArray) (n : Int) (w : World) : Calls Tryd.prog 78 #[.string l, .string c, .int .i64 n, noNone] w fun e w' => e = .returned noNone ∧ Below w.heap.size w w' := by
  unfold noNone
  go_enter Tryd.func78, Tryd.ntmps78
  repeat' (first | (with_reducible refine Keep.last ?_) | (with_reducible refine Keep.below (by assumption) ?_) | (with_reducible refine Keep.kept (by assumption) ?_) | (with_reducible refine Keep.alloc ?_) | (with_reducible refine Keep.same ?_) | ((with_reducible refine WpH.here ?_); first | (refine WpH.nil ?_; refine NoP.normal ?_) | (refine WpH.load (by rfl) (by rfl) (by go_simp; rfl) ?_; simp only [Act.put, List.setIfInBounds_toArray, List.set_cons_zero, List.set_cons_succ]) | (refine WpH.loadT (by rfl) (by rfl) (by go_simp; rfl) (by rintro _ _ ⟨⟩; exact ⟨_, _, _, _, _, _, by rfl, by assumption, by assumption⟩) ?_; simp only [Act.put, List.setIfInBounds_toArray, List.set_cons_zero, List.set_cons_succ]) | (refine WpH.pure (by rfl) (fun w_ => by go_simp; (try go_bits); rfl) ?_; simp only [Act.put, List.setIfInBounds_toArray, List.set_cons_zero, List.set_cons_succ]) | (refine WpH.wild1 (by rfl) (fun _ _ => ?_)) | (refine WpH.skip (by rfl) ?_; simp only [Act.put, List.setIfInBounds_toArray, List.set_cons_zero, List.set_cons_succ])) | go_values | go_skip | go_guarded | go_step | go_upon | go_back)
  exact bodyPost_ret (v := .agg #[.int .i64 0, .slice none 0 0, .slice none 0 0]) (by simp [results, Tryd.results78, go_sem]) rfl ⟨rfl, by (repeat' (first | (with_reducible exact Below.refl _ _) | (with_reducible assumption) | (with_reducible refine balloc ?_) | (with_reducible refine bdrew ?_) | (with_reducible refine bset ?_ (by (try dsimp only); omega)) | (with_reducible refine bvia ?_ (by assumption))))⟩
/-- an answer: none, or a refusal -/
def NoAns (w : World) (S : Nat → Prop) (ch : List Lk) (code : Nat) (v : Value) : Prop := code = 0 ∧ v = noNone ∨ IsNo w S ch code v
set_option maxRecDepth 20000 in
set_option maxHeartbeats 2000000 in
/-- what is no operation is refused -/
theorem refApply_arg (A : Option Addr) (n c : Nat) (o : Opn) (id_ : Nm) (S' : Nat → Prop) (w : World) (hro : rightOp o = false) :
    Calls Tryd.prog 71 #[.slice A n c, o.agg, id_.val] w fun r w' => ∃ v, r = .returned (.tuple #[.slice A n c, v]) ∧ IsNo w' (Fr w S') [⟨({ data := #[120, 102, 111, 114, 109] } : ByteArray), ({ data := #[65, 112, 112, 108, 121] } : ByteArray), atOf o.at_⟩] 1 v ∧ Below w.heap.size w w' := by
  have HR := hid (fun W => refRightOp_any o W)
  rw [hro] at HR
  have HS := hid (fun W => say_any ({ data := #[120, 102, 111, 114, 109] } : ByteArray) ({ data := #[65, 112, 112, 108, 121] } : ByteArray) o.at_ 1 (by omega) (by omega) (fun b => S' b ∧ b < w.heap.size) W)
  clear hro
  unfold Opn.agg Nm.val at *
  go_enter Tryd.func71, Tryd.ntmps71
  repeat' (first | (with_reducible refine stop_region 1 ?_) | (with_reducible refine Keep.last ?_) | (with_reducible refine Keep.below (by assumption) ?_) | (with_reducible refine Keep.kept (by assumption) ?_) | (with_reducible refine Keep.alloc ?_) | (with_reducible refine Keep.same ?_) | ((with_reducible refine WpH.here ?_); first | (refine WpH.nil ?_; refine NoP.normal ?_) | (refine WpH.load (by rfl) (by rfl) (by go_simp; rfl) ?_; simp only [Act.put, List.setIfInBounds_toArray, List.set_cons_zero, List.set_cons_succ]) | (refine WpH.loadT (by rfl) (by rfl) (by go_simp; rfl) (by rintro _ _ ⟨⟩; exact ⟨_, _, _, _, _, _, by rfl, by assumption, by assumption⟩) ?_; simp only [Act.put, List.setIfInBounds_toArray, List.set_cons_zero, List.set_cons_succ]) | (refine WpH.pure (by rfl) (fun w_ => by go_simp; (try go_bits); rfl) ?_; simp only [Act.put, List.setIfInBounds_toArray, List.set_cons_zero, List.set_cons_succ]) | (refine WpH.wild1 (by rfl) (fun _ _ => ?_)) | (refine WpH.skip (by rfl) ?_; simp only [Act.put, List.setIfInBounds_toArray, List.set_cons_zero, List.set_cons_succ])) | go_values | go_skip | go_guarded | go_step | go_upon | go_back)
  refine Stop.go ?_
  obtain ⟨hX, hY, hZ, hb⟩ := boxes3 w 58 34 50 #[.int .i64 o.kind, .int .i64 o.at_, .int .i32 o.char, .int .i64 o.rep] #[.int .i64 id_.epoch, .int .i64 id_.rep, .int .i64 id_.num] #[.int .i64 0, .slice none 0 0, .slice none 0 0]
  generalize ((w.alloc (.cells #[.int .i64 o.kind, .int .i64 o.at_, .int .i32 o.char, .int .i64 o.rep] 58)).alloc (.cells #[.int .i64 id_.epoch, .int .i64 id_.rep, .int .i64 id_.num] 34)).alloc (.cells #[.int .i64 0, .slice none 0 0, .slice none 0 0] 50) = W1 at *
  obtain ⟨x0, x1, x2, x3, -, -, -, -, xl⟩ := hX.four
  repeat' (first | (go_at_call 40; go_must ((with_reducible refine Calls.mono (HR.out _) ?_); rintro _ w2 ⟨rfl, hb2⟩; have hZ2 := hZ.step hb2; obtain ⟨x0, x1, x2, x3, -, -, -, -, xl⟩ := (hX.step hb2).four; dsimp only)) | (go_at_call 27; go_must ((with_reducible refine Calls.mono (HS.out _) ?_); rintro _ w3 ⟨v, rfl, hno, hb3⟩; obtain ⟨g1, B, m, d, C, k, rfl, hr1, hr2⟩ := id hno; have hZ3 := hZ2.step hb3; have r0 := hZ3.cell 0; have r1 := hZ3.cell 1; have r2 := hZ3.cell 2; have f0 := hZ3.frozen 0; have f1 := hZ3.frozen 1; have f2 := hZ3.frozen 2; have rl := hZ3.lt; simp at r0 r1 r2; dsimp only)) | (with_reducible refine Keep.last ?_) | (with_reducible refine Keep.below (by assumption) ?_) | (with_reducible refine Keep.kept (by assumption) ?_) | (with_reducible refine Keep.alloc ?_) | (with_reducible refine Keep.same ?_) | ((with_reducible refine WpH.here ?_); first | (refine WpH.nil ?_; refine NoP.normal ?_) | (refine WpH.load (by rfl) (by rfl) (by go_simp; rfl) ?_; simp only [Act.put, List.setIfInBounds_toArray, List.set_cons_zero, List.set_cons_succ]) | (refine WpH.loadT (by rfl) (by rfl) (by go_simp; rfl) (by rintro _ _ ⟨⟩; exact ⟨_, _, _, _, _, _, by rfl, by assumption, by assumption⟩) ?_; simp only [Act.put, List.setIfInBounds_toArray, List.set_cons_zero, List.set_cons_succ]) | (refine WpH.pure (by rfl) (fun w_ => by go_simp; (try go_bits); rfl) ?_; simp only [Act.put, List.setIfInBounds_toArray, List.set_cons_zero, List.set_cons_succ]) | (refine WpH.wild1 (by rfl) (fun _ _ => ?_)) | (refine WpH.skip (by rfl) ?_; simp only [Act.put, List.setIfInBounds_toArray, List.set_cons_zero, List.set_cons_succ])) | go_values | go_skip | go_guarded | go_step | go_upon | go_back)
  skip
  have hbb := bvia hb hb2
  refine bodyPost_ret (v := .tuple #[.slice A n c, .agg #[.int .i64 1, .slice B m d, .slice C 1 k]]) (by simp [results, Tryd.results71, go_sem, r0, r1, r2, rl, size_set]) rfl ⟨_, rfl, ?_, ?_⟩
  · exact IsNo.boxed (W := w2) hno (by omega) (Nat.lt_of_lt_of_le hZ.lt hb2.size) hbb.size _ _ _
  · exact bset (bset (bset (bvia hbb hb3) (by show w.heap.size ≤ w.heap.size + 1 + 1; omega)) (by show w.heap.size ≤ w.heap.size + 1 + 1; omega)) (by show w.heap.size ≤ w.heap.size + 1 + 1; omega)
set_option maxRecDepth 20000 in
set_option maxHeartbeats 2000000 in
/-- what is out of range is refused -/
theorem refApply_range (A : Option Addr) (n c : Nat) (o : Opn) (id_ : Nm) (S' : Nat → Prop) (w : World) (hro : rightOp o = true) (hvo : validOp o n = false) :
    Calls Tryd.prog 71 #[.slice A n c, o.agg, id_.val] w fun r w' => ∃ v, r = .returned (.tuple #[.slice A n c, v]) ∧ IsNo w' (Fr w S') [⟨({ data := #[120, 102, 111, 114, 109] } : ByteArray), ({ data := #[65, 112, 112, 108, 121] } : ByteArray), atOf o.at_⟩] 2 v ∧ Below w.heap.size w w' := by
  have HR := hid (fun W => refRightOp_any o W)
  rw [hro] at HR
  have HV := hid (fun W => refValidOp_any o n W)
  rw [hvo] at HV
  have HS := hid (fun W => say_any ({ data := #[120, 102, 111, 114, 109] } : ByteArray) ({ data := #[65, 112, 112, 108, 121] } : ByteArray) o.at_ 2 (by omega) (by omega) (fun b => S' b ∧ b < w.heap.size) W)
  clear hro hvo
  unfold Opn.agg Nm.val at *
  go_enter Tryd.func71, Tryd.ntmps71
  repeat' (first | (with_reducible refine stop_region 1 ?_) | (with_reducible refine Keep.last ?_) | (with_reducible refine Keep.below (by assumption) ?_) | (with_reducible refine Keep.kept (by assumption) ?_) | (with_reducible refine Keep.alloc ?_) | (with_reducible refine Keep.same ?_) | ((with_reducible refine WpH.here ?_); first | (refine WpH.nil ?_; refine NoP.normal ?_) | (refine WpH.load (by rfl) (by rfl) (by go_simp; rfl) ?_; simp only [Act.put, List.setIfInBounds_toArray, List.set_cons_zero, List.set_cons_succ]) | (refine WpH.loadT (by rfl) (by rfl) (by go_simp; rfl) (by rintro _ _ ⟨⟩; exact ⟨_, _, _, _, _, _, by rfl, by assumption, by assumption⟩) ?_; simp only [Act.put, List.setIfInBounds_toArray, List.set_cons_zero, List.set_cons_succ]) | (refine WpH.pure (by rfl) (fun w_ => by go_simp; (try go_bits); rfl) ?_; simp only [Act.put, List.setIfInBounds_toArray, List.set_cons_zero, List.set_cons_succ]) | (refine WpH.wild1 (by rfl) (fun _ _ => ?_)) | (refine WpH.skip (by rfl) ?_; simp only [Act.put, List.setIfInBounds_toArray, List.set_cons_zero, List.set_cons_succ])) | go_values | go_skip | go_guarded | go_step | go_upon | go_back)
  refine Stop.go ?_
  obtain ⟨hX, hY, hZ, hb⟩ := boxes3 w 58 34 50 #[.int .i64 o.kind, .int .i64 o.at_, .int .i32 o.char, .int .i64 o.rep] #[.int .i64 id_.epoch, .int .i64 id_.rep, .int .i64 id_.num] #[.int .i64 0, .slice none 0 0, .slice none 0 0]
  generalize ((w.alloc (.cells #[.int .i64 o.kind, .int .i64 o.at_, .int .i32 o.char, .int .i64 o.rep] 58)).alloc (.cells #[.int .i64 id_.epoch, .int .i64 id_.rep, .int .i64 id_.num] 34)).alloc (.cells #[.int .i64 0, .slice none 0 0, .slice none 0 0] 50) = W1 at *
  obtain ⟨x0, x1, x2, x3, -, -, -, -, xl⟩ := hX.four
  repeat' (first | (go_at_call 40; go_must ((with_reducible refine Calls.mono (HR.out _) ?_); rintro _ w5 ⟨rfl, hb5⟩; have hZ5 := hZ.step hb5; have hX5 := hX.step hb5; obtain ⟨x0, x1, x2, x3, -, -, -, -, xl⟩ := hX5.four; dsimp only)) | (go_at_call 45; go_must ((with_reducible refine Calls.mono (HV.out _) ?_); rintro _ w2 ⟨rfl, hb2⟩; have hZ2 := hZ5.step hb2; obtain ⟨x0, x1, x2, x3, -, -, -, -, xl⟩ := (hX5.step hb2).four; dsimp only)) | (go_at_call 27; go_must ((with_reducible refine Calls.mono (HS.out _) ?_); rintro _ w3 ⟨v, rfl, hno, hb3⟩; obtain ⟨g1, B, m, d, C, k, rfl, hr1, hr2⟩ := id hno; have hZ3 := hZ2.step hb3; have r0 := hZ3.cell 0; have r1 := hZ3.cell 1; have r2 := hZ3.cell 2; have f0 := hZ3.frozen 0; have f1 := hZ3.frozen 1; have f2 := hZ3.frozen 2; have rl := hZ3.lt; simp at r0 r1 r2; dsimp only)) | (with_reducible refine Keep.last ?_) | (with_reducible refine Keep.below (by assumption) ?_) | (with_reducible refine Keep.kept (by assumption) ?_) | (with_reducible refine Keep.alloc ?_) | (with_reducible refine Keep.same ?_) | ((with_reducible refine WpH.here ?_); first | (refine WpH.nil ?_; refine NoP.normal ?_) | (refine WpH.load (by rfl) (by rfl) (by go_simp; rfl) ?_; simp only [Act.put, List.setIfInBounds_toArray, List.set_cons_zero, List.set_cons_succ]) | (refine WpH.loadT (by rfl) (by rfl) (by go_simp; rfl) (by rintro _ _ ⟨⟩; exact ⟨_, _, _, _, _, _, by rfl, by assumption, by assumption⟩) ?_; simp only [Act.put, List.setIfInBounds_toArray, List.set_cons_zero, List.set_cons_succ]) | (refine WpH.pure (by rfl) (fun w_ => by go_simp; (try go_bits); rfl) ?_; simp only [Act.put, List.setIfInBounds_toArray, List.set_cons_zero, List.set_cons_succ]) | (refine WpH.wild1 (by rfl) (fun _ _ => ?_)) | (refine WpH.skip (by rfl) ?_; simp only [Act.put, List.setIfInBounds_toArray, List.set_cons_zero, List.set_cons_succ])) | go_values | go_skip | go_guarded | go_step | go_upon | go_back)
  skip
  have hbb := bvia (bvia hb hb5) hb2
  refine bodyPost_ret (v := .tuple #[.slice A n c, .agg #[.int .i64 2, .slice B m d, .slice C 1 k]]) (by simp [results, Tryd.results71, go_sem, r0, r1, r2, rl, size_set]) rfl ⟨_, rfl, ?_, ?_⟩
  · exact IsNo.boxed (W := w2) hno (by omega) hZ2.lt hbb.size _ _ _
  · exact bset (bset (bset (bvia hbb hb3) (by show w.heap.size ≤ w.heap.size + 1 + 1; omega)) (by show w.heap.size ≤ w.heap.size + 1 + 1; omega)) (by show w.heap.size ≤ w.heap.size + 1 + 1; omega)
set_option maxRecDepth 20000 in
set_option maxHeartbeats 2000000 in
/-- an insert whose name is there is refused -/
theorem refApply_twice (A : Option Addr) (n c : Nat) (es : List El) (S S' : Nat → Prop) (o : Opn) (id_ : Nm) (w : World) (h : Row w S A n c es) (hn : n ≤ 1073741824) (hvo : validOp o n = true) (hk : o.kind = 1) (hin : id_ ∈ es.map El.nm) :
    Calls Tryd.prog 71 #[.slice A n c, o.agg, id_.val] w fun r w' => ∃ v, r = .returned (.tuple #[.slice A n c, v]) ∧ IsNo w' (Fr w S') [⟨({ data := #[120, 102, 111, 114, 109] } : ByteArray), ({ data := #[65, 112, 112, 108, 121] } : ByteArray), atOf o.at_⟩, ⟨({ data := #[109, 111, 100, 101, 108] } : ByteArray), ({ data := #[73, 110, 115, 101, 114, 116] } : ByteArray), atOf o.at_⟩] 9 v ∧ Below w.heap.size w w' := by
  have hro := valid_right hvo
  obtain ⟨-, h0, hh⟩ := validOp_right hvo
  have hw := wrong_ins (l := es) (id := id_) hvo hk
  rw [if_pos hin] at hw
  have HR := hid (fun W => refRightOp_any o W)
  rw [hro] at HR
  have HV := hid (fun W => refValidOp_any o n W)
  rw [hvo] at HV
  obtain ⟨k, t, c', r⟩ := o
  dsimp only at hk h0 hh hw
  subst hk
  obtain ⟨i, rfl⟩ : ∃ i : Nat, t = i := ⟨t.toNat, by omega⟩
  have HI := hid (fun W (hb : Below w.heap.size w W) => refInsert_no A n c i 9 es S (fun b => S' b ∧ b < w.heap.size) (insEl id_ c') W (h.step hb) hn (by omega) hw (by omega) (by omega))
  unfold insEl at HI
  dsimp only at HI
  clear hro hvo hw hin hh h0 h
  obtain ⟨o, ho⟩ : ∃ o : Opn, o = ⟨1, i, c', r⟩ := ⟨_, rfl⟩
  have ho0 : Hid (o.kind = 1) := hid (by rw [ho])
  have ho1 : Hid (o.at_ = i) := hid (by rw [ho])
  have ho2 : Hid (o.char = c') := hid (by rw [ho])
  rw [← ho] at HR HV ⊢
  clear ho
  unfold Opn.agg Nm.val at *
  go_enter Tryd.func71, Tryd.ntmps71
  repeat' (first | (with_reducible refine stop_region 1 ?_) | (with_reducible refine Keep.last ?_) | (with_reducible refine Keep.below (by assumption) ?_) | (with_reducible refine Keep.kept (by assumption) ?_) | (with_reducible refine Keep.alloc ?_) | (with_reducible refine Keep.same ?_) | ((with_reducible refine WpH.here ?_); first | (refine WpH.nil ?_; refine NoP.normal ?_) | (refine WpH.load (by rfl) (by rfl) (by go_simp; rfl) ?_; simp only [Act.put, List.setIfInBounds_toArray, List.set_cons_zero, List.set_cons_succ]) | (refine WpH.loadT (by rfl) (by rfl) (by go_simp; rfl) (by rintro _ _ ⟨⟩; exact ⟨_, _, _, _, _, _, by rfl, by assumption, by assumption⟩) ?_; simp only [Act.put, List.setIfInBounds_toArray, List.set_cons_zero, List.set_cons_succ]) | (refine WpH.pure (by rfl) (fun w_ => by go_simp; (try go_bits); rfl) ?_; simp only [Act.put, List.setIfInBounds_toArray, List.set_cons_zero, List.set_cons_succ]) | (refine WpH.wild1 (by rfl) (fun _ _ => ?_)) | (refine WpH.skip (by rfl) ?_; simp only [Act.put, List.setIfInBounds_toArray, List.set_cons_zero, List.set_cons_succ])) | go_values | go_skip | go_guarded | go_step | go_upon | go_back)
  refine Stop.go ?_
  obtain ⟨hX, hY, hZ, hb⟩ := boxes3 w 58 34 50 #[.int .i64 o.kind, .int .i64 o.at_, .int .i32 o.char, .int .i64 o.rep] #[.int .i64 id_.epoch, .int .i64 id_.rep, .int .i64 id_.num] #[.int .i64 0, .slice none 0 0, .slice none 0 0]
  generalize ((w.alloc (.cells #[.int .i64 o.kind, .int .i64 o.at_, .int .i32 o.char, .int .i64 o.rep] 58)).alloc (.cells #[.int .i64 id_.epoch, .int .i64 id_.rep, .int .i64 id_.num] 34)).alloc (.cells #[.int .i64 0, .slice none 0 0, .slice none 0 0] 50) = W1 at *
  obtain ⟨x0, x1, x2, x3, -, -, -, -, xl⟩ := hX.four
  repeat' (first | (go_at_call 40; go_must ((with_reducible refine Calls.mono (HR.out _) ?_); rintro _ w5 ⟨rfl, hb5⟩; have hZ5 := hZ.step hb5; have hX5 := hX.step hb5; have hY5 := hY.step hb5; obtain ⟨x0, x1, x2, x3, -, -, -, -, xl⟩ := hX5.four; dsimp only)) | (go_at_call 45; go_must ((with_reducible refine Calls.mono (HV.out _) ?_); rintro _ w2 ⟨rfl, hb2⟩; have hZ2 := hZ5.step hb2; have hX2 := hX5.step hb2; have hY2 := hY5.step hb2; dsimp only)) | (with_reducible refine stop_region 7 ?_) | (with_reducible refine Keep.last ?_) | (with_reducible refine Keep.below (by assumption) ?_) | (with_reducible refine Keep.kept (by assumption) ?_) | (with_reducible refine Keep.alloc ?_) | (with_reducible refine Keep.same ?_) | ((with_reducible refine WpH.here ?_); first | (refine WpH.nil ?_; refine NoP.normal ?_) | (refine WpH.load (by rfl) (by rfl) (by go_simp; rfl) ?_; simp only [Act.put, List.setIfInBounds_toArray, List.set_cons_zero, List.set_cons_succ]) | (refine WpH.loadT (by rfl) (by rfl) (by go_simp; rfl) (by rintro _ _ ⟨⟩; exact ⟨_, _, _, _, _, _, by rfl, by assumption, by assumption⟩) ?_; simp only [Act.put, List.setIfInBounds_toArray, List.set_cons_zero, List.set_cons_succ]) | (refine WpH.pure (by rfl) (fun w_ => by go_simp; (try go_bits); rfl) ?_; simp only [Act.put, List.setIfInBounds_toArray, List.set_cons_zero, List.set_cons_succ]) | (refine WpH.wild1 (by rfl) (fun _ _ => ?_)) | (refine WpH.skip (by rfl) ?_; simp only [Act.put, List.setIfInBounds_toArray, List.set_cons_zero, List.set_cons_succ])) | go_values | go_skip | go_guarded | go_step | go_upon | go_back)
  refine Stop.go ?_
  clear HR HV
  have eN : Below w2.heap.size w2 (w2.alloc (.cells #[.int .i64 0, .slice none 0 0, .slice none 0 0] 50)) := balloc (Below.refl _ _)
  have hN := Blk.new w2 50 #[.int .i64 0, .slice none 0 0, .slice none 0 0]
  have hXN := hX2.step eN
  have hYN := hY2.step eN
  have hZN := hZ2.step eN
  have hbN := bvia (bvia (bvia hb hb5) hb2) eN
  have hnz : w.heap.size + 1 + 1 < w2.heap.size := hZ2.lt
  clear x0 x1 x2 x3 xl hX hY hZ hX5 hY5 hZ5 hX2 hY2 hZ2 hb hb5 hb2 eN
  generalize w2.alloc (.cells #[.int .i64 0, .slice none 0 0, .slice none 0 0] 50) = W2 at *
  generalize w2.heap.size = nb at *
  have hnl := hN.lt
  obtain ⟨x0, x1, x2, x3, -, -, -, -, xl⟩ := hXN.four
  have y0 := hYN.cell 0
  have y1 := hYN.cell 1
  have y2 := hYN.cell 2
  simp at y0 y1 y2
  rw [ho0.out] at x0
  rw [ho1.out] at x1
  rw [ho2.out] at x2
  rw [ho0.out, ho1.out, ho2.out] at hXN
  clear ho0 ho2
  repeat' (first | (go_at_call 111; go_must ((with_reducible refine Calls.mono (HI.out _ hbN) ?_); rintro _ w6 ⟨v, rfl, hno, hb6⟩; obtain ⟨g1, B, m, d, C, q, rfl, hr1, hr2⟩ := id hno; have hN6 := hN.step hb6; have hX6 := hXN.step hb6; have hZ6 := hZN.step hb6; have n0 := hN6.cell 0; have n1 := hN6.cell 1; have n2 := hN6.cell 2; have f0 := hN6.frozen 0; have f1 := hN6.frozen 1; have f2 := hN6.frozen 2; have nl := hN6.lt; simp at n0 n1 n2; dsimp only)) | (with_reducible refine stop_region 13 ?_) | (with_reducible refine Keep.last ?_) | (with_reducible refine Keep.below (by assumption) ?_) | (with_reducible refine Keep.kept (by assumption) ?_) | (with_reducible refine Keep.alloc ?_) | (with_reducible refine Keep.same ?_) | ((with_reducible refine WpH.here ?_); first | (refine WpH.nil ?_; refine NoP.normal ?_) | (refine WpH.load (by rfl) (by rfl) (by go_simp; rfl) ?_; simp only [Act.put, List.setIfInBounds_toArray, List.set_cons_zero, List.set_cons_succ]) | (refine WpH.loadT (by rfl) (by rfl) (by go_simp; rfl) (by rintro _ _ ⟨⟩; exact ⟨_, _, _, _, _, _, by rfl, by assumption, by assumption⟩) ?_; simp only [Act.put, List.setIfInBounds_toArray, List.set_cons_zero, List.set_cons_succ]) | (refine WpH.pure (by rfl) (fun w_ => by go_simp; (try go_bits); rfl) ?_; simp only [Act.put, List.setIfInBounds_toArray, List.set_cons_zero, List.set_cons_succ]) | (refine WpH.wild1 (by rfl) (fun _ _ => ?_)) | (refine WpH.skip (by rfl) ?_; simp only [Act.put, List.setIfInBounds_toArray, List.set_cons_zero, List.set_cons_succ])) | go_values | go_skip | go_guarded | go_step | go_upon | go_back)
  skip
  refine Stop.go ?_
  have hb7 : Below w.heap.size w (((w6.setCell ⟨nb, 0, none⟩ (.int .i64 9)).setCell ⟨nb, 1, none⟩ (.slice B m d)).setCell ⟨nb, 2, none⟩ (.slice C 1 q)) := bset (bset (bset (bvia hbN hb6) (by show w.heap.size ≤ nb; omega)) (by show w.heap.size ≤ nb; omega)) (by show w.heap.size ≤ nb; omega)
  have hno7 := hno.set3 (b := nb) (fun h => by rcases h with h | h; omega; omega) (.int .i64 9) (.slice B m d) (.slice C 1 q)
  have hN7 := ((hN6.set_ 0 (.int .i64 9)).set_ 1 (.slice B m d)).set_ 2 (.slice C 1 q)
  have hX7 := ((hX6.far (p := ⟨nb, 0, none⟩) (by show w.heap.size ≠ nb; omega) (.int .i64 9)).far (p := ⟨nb, 1, none⟩) (by show w.heap.size ≠ nb; omega) (.slice B m d)).far (p := ⟨nb, 2, none⟩) (by show w.heap.size ≠ nb; omega) (.slice C 1 q)
  have hZ7 := ((hZ6.far (p := ⟨nb, 0, none⟩) (by show w.heap.size + 1 + 1 ≠ nb; omega) (.int .i64 9)).far (p := ⟨nb, 1, none⟩) (by show w.heap.size + 1 + 1 ≠ nb; omega) (.slice B m d)).far (p := ⟨nb, 2, none⟩) (by show w.heap.size + 1 + 1 ≠ nb; omega) (.slice C 1 q)
  have hz7 : W2.heap.size ≤ (((w6.setCell ⟨nb, 0, none⟩ (.int .i64 9)).setCell ⟨nb, 1, none⟩ (.slice B m d)).setCell ⟨nb, 2, none⟩ (.slice C 1 q)).heap.size := by simpa [World.setCell] using hb6.size
  clear n0 n1 n2 f0 f1 f2 nl x0 x1 x2 x3 y0 y1 y2 hno hr1 hr2 hN6 hX6 hZ6
  generalize ((w6.setCell ⟨nb, 0, none⟩ (.int .i64 9)).setCell ⟨nb, 1, none⟩ (.slice B m d)).setCell ⟨nb, 2, none⟩ (.slice C 1 q) = W7 at *
  obtain ⟨-, A0, m0, d0, B0, q0, hv, hch, hco⟩ := hno7
  simp only [Value.agg.injEq, Array.mk.injEq, List.cons.injEq, Value.slice.injEq, and_true, true_and] at hv
  obtain ⟨⟨rfl, rfl, rfl⟩, rfl, rfl⟩ := hv
  obtain ⟨x0, x1, x2, x3, -, -, -, -, xl⟩ := hX7.four
  have n0 := hN7.cell 0
  have n1 := hN7.cell 1
  have n2 := hN7.cell 2
  have nl := hN7.lt
  simp at n0 n1 n2
  have hm1 : m ≤ 1073741824 := by have := hch.1; simp at this; omega
  have HW := hid (wrap_any ({ data := #[120, 102, 111, 114, 109] } : ByteArray) ({ data := #[65, 112, 112, 108, 121] } : ByteArray) i 9 (by omega) (by omega) B m d C q _ W7 hch hco hm1)
  repeat' (first | (go_at_call 78; go_must ((with_reducible refine Calls.mono HW.out ?_); rintro _ w8 ⟨v, rfl, hno, hb8⟩; obtain ⟨g1, B8, m8, d8, C8, k8, rfl, -, -⟩ := id hno; have hZ8 := hZ7.step hb8; have r0 := hZ8.cell 0; have r1 := hZ8.cell 1; have r2 := hZ8.cell 2; have f0 := hZ8.frozen 0; have f1 := hZ8.frozen 1; have f2 := hZ8.frozen 2; have rl := hZ8.lt; simp at r0 r1 r2; dsimp only)) | (with_reducible refine Keep.last ?_) | (with_reducible refine Keep.below (by assumption) ?_) | (with_reducible refine Keep.kept (by assumption) ?_) | (with_reducible refine Keep.alloc ?_) | (with_reducible refine Keep.same ?_) | ((with_reducible refine WpH.here ?_); first | (refine WpH.nil ?_; refine NoP.normal ?_) | (refine WpH.load (by rfl) (by rfl) (by go_simp; rfl) ?_; simp only [Act.put, List.setIfInBounds_toArray, List.set_cons_zero, List.set_cons_succ]) | (refine WpH.loadT (by rfl) (by rfl) (by go_simp; rfl) (by rintro _ _ ⟨⟩; exact ⟨_, _, _, _, _, _, by rfl, by assumption, by assumption⟩) ?_; simp only [Act.put, List.setIfInBounds_toArray, List.set_cons_zero, List.set_cons_succ]) | (refine WpH.pure (by rfl) (fun w_ => by go_simp; (try go_bits); rfl) ?_; simp only [Act.put, List.setIfInBounds_toArray, List.set_cons_zero, List.set_cons_succ]) | (refine WpH.wild1 (by rfl) (fun _ _ => ?_)) | (refine WpH.skip (by rfl) ?_; simp only [Act.put, List.setIfInBounds_toArray, List.set_cons_zero, List.set_cons_succ])) | go_values | go_skip | go_guarded | go_step | go_upon | go_back)
  skip
  refine bodyPost_ret (v := .tuple #[.slice A n c, .agg #[.int .i64 9, .slice B8 m8 d8, .slice C8 1 k8]]) (by simp [results, Tryd.results71, go_sem, r0, r1, r2, rl, size_set]) rfl ⟨_, rfl, ?_, ?_⟩
  · rw [ho1.out]
    refine ((hno.moreS (S' := fun b => (S' b ∧ b < w.heap.size) ∨ W2.heap.size ≤ b) ?_).set3 (b := w.heap.size + 1 + 1) ?_ _ _ _).moreS ?_
    · intro b h
      rcases h with h | h
      · exact h
      · exact .inr (Nat.le_trans hz7 h)
    · intro h
      rcases h with h | h
      · omega
      · have := hZN.lt; omega
    · intro b h
      rcases h with h | h
      · exact .inl h.1
      · exact .inr (Nat.le_trans hbN.size h)
  · exact bset (bset (bset (bvia hb7 hb8) (by show w.heap.size ≤ w.heap.size + 1 + 1; omega)) (by show w.heap.size ≤ w.heap.size + 1 + 1; omega)) (by show w.heap.size ≤ w.heap.size + 1 + 1; omega)
set_option maxRecDepth 20000 in
set_option maxHeartbeats 2000000 in
/-- an insert done -/
theorem refApply_ins (A : Option Addr) (n c i : Nat) (es : List El) (S : Nat → Prop) (c' r : Int) (id_ : Nm) (w : World) (h : Row w S A n c es) (hn : n ≤ 1073741824) (hvo : validOp ⟨1, i, c', r⟩ n = true) (hin : id_ ∉ es.map El.nm) :
    Calls Tryd.prog 71 #[.slice A n c, .agg #[.int .i64 1, .int .i64 i, .int .i32 c', .int .i64 r], id_.val] w fun e w' => ∃ A' d, e = .returned (.tuple #[.slice A' (n + 1) d, noNone]) ∧ Own w' w.heap.size A' (n + 1) d (es.take i ++ insEl id_ c' :: es.drop i) ∧ Below w.heap.size w w' := by
  have hro := valid_right hvo
  obtain ⟨-, h0, hh⟩ := validOp_right hvo
  have hw := wrong_ins (l := es) (id := id_) hvo rfl
  rw [if_neg hin] at hw
  dsimp only at hw h0 hh
  obtain ⟨o, ho⟩ : ∃ o : Opn, o = ⟨1, i, c', r⟩ := ⟨_, rfl⟩
  have HR := hid (fun W => refRightOp_any o W)
  rw [ho, hro, ← ho] at HR
  have HV := hid (fun W => refValidOp_any o n W)
  rw [ho, hvo, ← ho] at HV
  have HI := hid (fun W (hb : Below w.heap.size w W) => refInsert_ok A n c i es S (insEl id_ c') W (h.step hb) hn (by omega) hw)
  have hil : i ≤ n := by omega
  unfold insEl at HI ⊢
  dsimp only at HI
  clear hro hvo hw hin hh h0 h
  have hagg : Value.agg #[.int .i64 1, .int .i64 i, .int .i32 c', .int .i64 r] = o.agg := by rw [ho]; rfl
  rw [hagg]
  have ho0 : Hid (o.kind = 1) := hid (by rw [ho])
  have ho1 : Hid (o.at_ = i) := hid (by rw [ho])
  have ho2 : Hid (o.char = c') := hid (by rw [ho])
  clear ho hagg
  unfold Opn.agg Nm.val at *
  go_enter Tryd.func71, Tryd.ntmps71
  repeat' (first | (with_reducible refine stop_region 1 ?_) | (with_reducible refine Keep.last ?_) | (with_reducible refine Keep.below (by assumption) ?_) | (with_reducible refine Keep.kept (by assumption) ?_) | (with_reducible refine Keep.alloc ?_) | (with_reducible refine Keep.same ?_) | ((with_reducible refine WpH.here ?_); first | (refine WpH.nil ?_; refine NoP.normal ?_) | (refine WpH.load (by rfl) (by rfl) (by go_simp; rfl) ?_; simp only [Act.put, List.setIfInBounds_toArray, List.set_cons_zero, List.set_cons_succ]) | (refine WpH.loadT (by rfl) (by rfl) (by go_simp; rfl) (by rintro _ _ ⟨⟩; exact ⟨_, _, _, _, _, _, by rfl, by assumption, by assumption⟩) ?_; simp only [Act.put, List.setIfInBounds_toArray, List.set_cons_zero, List.set_cons_succ]) | (refine WpH.pure (by rfl) (fun w_ => by go_simp; (try go_bits); rfl) ?_; simp only [Act.put, List.setIfInBounds_toArray, List.set_cons_zero, List.set_cons_succ]) | (refine WpH.wild1 (by rfl) (fun _ _ => ?_)) | (refine WpH.skip (by rfl) ?_; simp only [Act.put, List.setIfInBounds_toArray, List.set_cons_zero, List.set_cons_succ])) | go_values | go_skip | go_guarded | go_step | go_upon | go_back)
  refine Stop.go ?_
  obtain ⟨hX, hY, hZ, hb⟩ := boxes3 w 58 34 50 #[.int .i64 o.kind, .int .i64 o.at_, .int .i32 o.char, .int .i64 o.rep] #[.int .i64 id_.epoch, .int .i64 id_.rep, .int .i64 id_.num] #[.int .i64 0, .slice none 0 0, .slice none 0 0]
  generalize ((w.alloc (.cells #[.int .i64 o.kind, .int .i64 o.at_, .int .i32 o.char, .int .i64 o.rep] 58)).alloc (.cells #[.int .i64 id_.epoch, .int .i64 id_.rep, .int .i64 id_.num] 34)).alloc (.cells #[.int .i64 0, .slice none 0 0, .slice none 0 0] 50) = W1 at *
  obtain ⟨x0, x1, x2, x3, -, -, -, -, xl⟩ := hX.four
  repeat' (first | (go_at_call 40; go_must ((with_reducible refine Calls.mono (HR.out _) ?_); rintro _ w5 ⟨rfl, hb5⟩; have hZ5 := hZ.step hb5; have hX5 := hX.step hb5; have hY5 := hY.step hb5; obtain ⟨x0, x1, x2, x3, -, -, -, -, xl⟩ := hX5.four; dsimp only)) | (go_at_call 45; go_must ((with_reducible refine Calls.mono (HV.out _) ?_); rintro _ w2 ⟨rfl, hb2⟩; have hZ2 := hZ5.step hb2; have hX2 := hX5.step hb2; have hY2 := hY5.step hb2; dsimp only)) | (with_reducible refine stop_region 7 ?_) | (with_reducible refine Keep.last ?_) | (with_reducible refine Keep.below (by assumption) ?_) | (with_reducible refine Keep.kept (by assumption) ?_) | (with_reducible refine Keep.alloc ?_) | (with_reducible refine Keep.same ?_) | ((with_reducible refine WpH.here ?_); first | (refine WpH.nil ?_; refine NoP.normal ?_) | (refine WpH.load (by rfl) (by rfl) (by go_simp; rfl) ?_; simp only [Act.put, List.setIfInBounds_toArray, List.set_cons_zero, List.set_cons_succ]) | (refine WpH.loadT (by rfl) (by rfl) (by go_simp; rfl) (by rintro _ _ ⟨⟩; exact ⟨_, _, _, _, _, _, by rfl, by assumption, by assumption⟩) ?_; simp only [Act.put, List.setIfInBounds_toArray, List.set_cons_zero, List.set_cons_succ]) | (refine WpH.pure (by rfl) (fun w_ => by go_simp; (try go_bits); rfl) ?_; simp only [Act.put, List.setIfInBounds_toArray, List.set_cons_zero, List.set_cons_succ]) | (refine WpH.wild1 (by rfl) (fun _ _ => ?_)) | (refine WpH.skip (by rfl) ?_; simp only [Act.put, List.setIfInBounds_toArray, List.set_cons_zero, List.set_cons_succ])) | go_values | go_skip | go_guarded | go_step | go_upon | go_back)
  refine Stop.go ?_
  clear HR HV
  have eN : Below w2.heap.size w2 (w2.alloc (.cells #[.int .i64 0, .slice none 0 0, .slice none 0 0] 50)) := balloc (Below.refl _ _)
  have hN := Blk.new w2 50 #[.int .i64 0, .slice none 0 0, .slice none 0 0]
  have hXN := hX2.step eN
  have hYN := hY2.step eN
  have hZN := hZ2.step eN
  have hbN := bvia (bvia (bvia hb hb5) hb2) eN
  have hnz : w.heap.size + 1 + 1 < w2.heap.size := hZ2.lt
  clear x0 x1 x2 x3 xl hX hY hZ hX5 hY5 hZ5 hX2 hY2 hZ2 hb hb5 hb2 eN
  generalize w2.alloc (.cells #[.int .i64 0, .slice none 0 0, .slice none 0 0] 50) = W2 at *
  generalize w2.heap.size = nb at *
  have hnl := hN.lt
  obtain ⟨x0, x1, x2, x3, -, -, -, -, xl⟩ := hXN.four
  have y0 := hYN.cell 0
  have y1 := hYN.cell 1
  have y2 := hYN.cell 2
  simp at y0 y1 y2
  rw [ho0.out] at x0
  rw [ho1.out] at x1
  rw [ho2.out] at x2
  rw [ho0.out, ho1.out, ho2.out] at hXN
  clear ho0 ho1 ho2
  repeat' (first | (go_at_call 111; go_must ((with_reducible refine Calls.mono (HI.out _ hbN) ?_); unfold noNone; rintro _ w6 ⟨A6, c6, rfl, hown6, hb6⟩; have hN6 := hN.step hb6; have hX6 := hXN.step hb6; have hZ6 := hZN.step hb6; have n0 := hN6.cell 0; have n1 := hN6.cell 1; have n2 := hN6.cell 2; have f0 := hN6.frozen 0; have f1 := hN6.frozen 1; have f2 := hN6.frozen 2; have nl := hN6.lt; simp at n0 n1 n2; dsimp only)) | (with_reducible refine stop_region 13 ?_) | (with_reducible refine Keep.last ?_) | (with_reducible refine Keep.below (by assumption) ?_) | (with_reducible refine Keep.kept (by assumption) ?_) | (with_reducible refine Keep.alloc ?_) | (with_reducible refine Keep.same ?_) | ((with_reducible refine WpH.here ?_); first | (refine WpH.nil ?_; refine NoP.normal ?_) | (refine WpH.load (by rfl) (by rfl) (by go_simp; rfl) ?_; simp only [Act.put, List.setIfInBounds_toArray, List.set_cons_zero, List.set_cons_succ]) | (refine WpH.loadT (by rfl) (by rfl) (by go_simp; rfl) (by rintro _ _ ⟨⟩; exact ⟨_, _, _, _, _, _, by rfl, by assumption, by assumption⟩) ?_; simp only [Act.put, List.setIfInBounds_toArray, List.set_cons_zero, List.set_cons_succ]) | (refine WpH.pure (by rfl) (fun w_ => by go_simp; (try go_bits); rfl) ?_; simp only [Act.put, List.setIfInBounds_toArray, List.set_cons_zero, List.set_cons_succ]) | (refine WpH.wild1 (by rfl) (fun _ _ => ?_)) | (refine WpH.skip (by rfl) ?_; simp only [Act.put, List.setIfInBounds_toArray, List.set_cons_zero, List.set_cons_succ])) | go_values | go_skip | go_guarded | go_step | go_upon | go_back)
  skip
  refine Stop.go ?_
  have hb7 : Below w.heap.size w (((w6.setCell ⟨nb, 0, none⟩ (.int .i64 0)).setCell ⟨nb, 1, none⟩ (.slice none 0 0)).setCell ⟨nb, 2, none⟩ (.slice none 0 0)) := bset (bset (bset (bvia hbN hb6) (by show w.heap.size ≤ nb; omega)) (by show w.heap.size ≤ nb; omega)) (by show w.heap.size ≤ nb; omega)
  have hN7 := ((hN6.set_ 0 (.int .i64 0)).set_ 1 (.slice none 0 0)).set_ 2 (.slice none 0 0)
  have hX7 := ((hX6.far (p := ⟨nb, 0, none⟩) (by show w.heap.size ≠ nb; omega) (.int .i64 0)).far (p := ⟨nb, 1, none⟩) (by show w.heap.size ≠ nb; omega) (.slice none 0 0)).far (p := ⟨nb, 2, none⟩) (by show w.heap.size ≠ nb; omega) (.slice none 0 0)
  have hZ7 := ((hZ6.far (p := ⟨nb, 0, none⟩) (by show w.heap.size + 1 + 1 ≠ nb; omega) (.int .i64 0)).far (p := ⟨nb, 1, none⟩) (by show w.heap.size + 1 + 1 ≠ nb; omega) (.slice none 0 0)).far (p := ⟨nb, 2, none⟩) (by show w.heap.size + 1 + 1 ≠ nb; omega) (.slice none 0 0)
  have hown7 := (((hown6.keep (S := fun b => b ≠ nb) (Same.setCell (p := ⟨nb, 0, none⟩) w6 (fun h => h rfl) (.int .i64 0)) (fun a ha e => by have := (hown6.block a ha).1; omega)).keep (S := fun b => b ≠ nb) (Same.setCell (p := ⟨nb, 1, none⟩) _ (fun h => h rfl) (.slice none 0 0)) (fun a ha e => by have := (hown6.block a ha).1; omega)).keep (S := fun b => b ≠ nb) (Same.setCell (p := ⟨nb, 2, none⟩) _ (fun h => h rfl) (.slice none 0 0)) (fun a ha e => by have := (hown6.block a ha).1; omega))
  clear n0 n1 n2 f0 f1 f2 nl x0 x1 x2 x3 y0 y1 y2 hN6 hX6 hZ6 hown6
  generalize ((w6.setCell ⟨nb, 0, none⟩ (.int .i64 0)).setCell ⟨nb, 1, none⟩ (.slice none 0 0)).setCell ⟨nb, 2, none⟩ (.slice none 0 0) = W7 at *
  obtain ⟨x0, x1, x2, x3, -, -, -, -, xl⟩ := hX7.four
  have n0 := hN7.cell 0
  have n1 := hN7.cell 1
  have n2 := hN7.cell 2
  have nl := hN7.lt
  simp at n0 n1 n2
  have HW := hid (wrap_none ({ data := #[120, 102, 111, 114, 109] } : ByteArray) ({ data := #[65, 112, 112, 108, 121] } : ByteArray) i W7)
  unfold noNone at HW
  repeat' (first | (go_at_call 78; go_must ((with_reducible refine Calls.mono HW.out ?_); rintro _ w8 ⟨rfl, hb8⟩; have hZ8 := hZ7.step hb8; have r0 := hZ8.cell 0; have r1 := hZ8.cell 1; have r2 := hZ8.cell 2; have f0 := hZ8.frozen 0; have f1 := hZ8.frozen 1; have f2 := hZ8.frozen 2; have rl := hZ8.lt; simp at r0 r1 r2; dsimp only)) | (with_reducible refine Keep.last ?_) | (with_reducible refine Keep.below (by assumption) ?_) | (with_reducible refine Keep.kept (by assumption) ?_) | (with_reducible refine Keep.alloc ?_) | (with_reducible refine Keep.same ?_) | ((with_reducible refine WpH.here ?_); first | (refine WpH.nil ?_; refine NoP.normal ?_) | (refine WpH.load (by rfl) (by rfl) (by go_simp; rfl) ?_; simp only [Act.put, List.setIfInBounds_toArray, List.set_cons_zero, List.set_cons_succ]) | (refine WpH.loadT (by rfl) (by rfl) (by go_simp; rfl) (by rintro _ _ ⟨⟩; exact ⟨_, _, _, _, _, _, by rfl, by assumption, by assumption⟩) ?_; simp only [Act.put, List.setIfInBounds_toArray, List.set_cons_zero, List.set_cons_succ]) | (refine WpH.pure (by rfl) (fun w_ => by go_simp; (try go_bits); rfl) ?_; simp only [Act.put, List.setIfInBounds_toArray, List.set_cons_zero, List.set_cons_succ]) | (refine WpH.wild1 (by rfl) (fun _ _ => ?_)) | (refine WpH.skip (by rfl) ?_; simp only [Act.put, List.setIfInBounds_toArray, List.set_cons_zero, List.set_cons_succ])) | go_values | go_skip | go_guarded | go_step | go_upon | go_back)
  skip
  refine bodyPost_ret (v := .tuple #[.slice A6 (n + 1) c6, .agg #[.int .i64 0, .slice none 0 0, .slice none 0 0]]) (by simp [results, Tryd.results71, go_sem, r0, r1, r2, rl, size_set]) rfl ⟨A6, c6, rfl, ?_, ?_⟩
  · have hne : ∀ a, A6 = some a → a.block ≠ w.heap.size + 1 + 1 := fun a ha => by have := (hown7.block a ha).1; have := hZN.lt; omega
    have h8 := hown7.step hb8
    have := (((h8.keep (S := fun b => b ≠ w.heap.size + 1 + 1) (Same.setCell (p := ⟨w.heap.size + 1 + 1, 0, none⟩) w8 (fun h => h rfl) (.int .i64 0)) hne).keep (S := fun b => b ≠ w.heap.size + 1 + 1) (Same.setCell (p := ⟨w.heap.size + 1 + 1, 1, none⟩) _ (fun h => h rfl) (.slice none 0 0)) hne).keep (S := fun b => b ≠ w.heap.size + 1 + 1) (Same.setCell (p := ⟨w.heap.size + 1 + 1, 2, none⟩) _ (fun h => h rfl) (.slice none 0 0)) hne)
    exact this.mono hbN.size
  · exact bset (bset (bset (bvia hb7 hb8) (by show w.heap.size ≤ w.heap.size + 1 + 1; omega)) (by show w.heap.size ≤ w.heap.size + 1 + 1; omega)) (by show w.heap.size ≤ w.heap.size + 1 + 1; omega)
set_option maxRecDepth 20000 in
set_option maxHeartbeats 2000000 in
theorem refApply_era (A : Option Addr) (n c i : Nat) (es : List El) (S : Nat → Prop) (e : El) (c' r : Int) (id_ : Nm) (w : World) (h : Row w S A n c es) (hn : n ≤ 1073741824) (hvo : validOp ⟨2, i, c', r⟩ n = true) (he : es[i]? = some e) (hf : fairH (e.hides + 1) = true) :
    Calls Tryd.prog 71 #[.slice A n c, .agg #[.int .i64 2, .int .i64 i, .int .i32 c', .int .i64 r], id_.val] w fun e' w' => ∃ A' d, e' = .returned (.tuple #[.slice A' n d, noNone]) ∧ Own w' w.heap.size A' n d (es.set i (e.hide 1)) ∧ Below w.heap.size w w' := by
  have hro := valid_right hvo
  obtain ⟨o, ho⟩ : ∃ o : Opn, o = ⟨2, i, c', r⟩ := ⟨_, rfl⟩
  have HR := hid (fun W => refRightOp_any o W)
  rw [ho, hro, ← ho] at HR
  have HV := hid (fun W => refValidOp_any o n W)
  rw [ho, hvo, ← ho] at HV
  have HI := hid (fun W (hb : Below w.heap.size w W) => refAdd_ok A n c i es S e 1 (by omega) W (h.step hb) hn he hf)
  clear hro hvo h he hf
  have hagg : Value.agg #[.int .i64 2, .int .i64 i, .int .i32 c', .int .i64 r] = o.agg := by rw [ho]; rfl
  rw [hagg]
  have ho0 : Hid (o.kind = 2) := hid (by rw [ho])
  have ho1 : Hid (o.at_ = i) := hid (by rw [ho])
  clear ho hagg
  unfold Opn.agg Nm.val at *
  go_enter Tryd.func71, Tryd.ntmps71
  repeat' (first | (with_reducible refine stop_region 1 ?_) | (with_reducible refine Keep.last ?_) | (with_reducible refine Keep.below (by assumption) ?_) | (with_reducible refine Keep.kept (by assumption) ?_) | (with_reducible refine Keep.alloc ?_) | (with_reducible refine Keep.same ?_) | ((with_reducible refine WpH.here ?_); first | (refine WpH.nil ?_; refine NoP.normal ?_) | (refine WpH.load (by rfl) (by rfl) (by go_simp; rfl) ?_; simp only [Act.put, List.setIfInBounds_toArray, List.set_cons_zero, List.set_cons_succ]) | (refine WpH.loadT (by rfl) (by rfl) (by go_simp; rfl) (by rintro _ _ ⟨⟩; exact ⟨_, _, _, _, _, _, by rfl, by assumption, by assumption⟩) ?_; simp only [Act.put, List.setIfInBounds_toArray, List.set_cons_zero, List.set_cons_succ]) | (refine WpH.pure (by rfl) (fun w_ => by go_simp; (try go_bits); rfl) ?_; simp only [Act.put, List.setIfInBounds_toArray, List.set_cons_zero, List.set_cons_succ]) | (refine WpH.wild1 (by rfl) (fun _ _ => ?_)) | (refine WpH.skip (by rfl) ?_; simp only [Act.put, List.setIfInBounds_toArray, List.set_cons_zero, List.set_cons_succ])) | go_values | go_skip | go_guarded | go_step | go_upon | go_back)
  refine Stop.go ?_
  obtain ⟨hX, hY, hZ, hb⟩ := boxes3 w 58 34 50 #[.int .i64 o.kind, .int .i64 o.at_, .int .i32 o.char, .int .i64 o.rep] #[.int .i64 id_.epoch, .int .i64 id_.rep, .int .i64 id_.num] #[.int .i64 0, .slice none 0 0, .slice none 0 0]
  generalize ((w.alloc (.cells #[.int .i64 o.kind, .int .i64 o.at_, .int .i32 o.char, .int .i64 o.rep] 58)).alloc (.cells #[.int .i64 id_.epoch, .int .i64 id_.rep, .int .i64 id_.num] 34)).alloc (.cells #[.int .i64 0, .slice none 0 0, .slice none 0 0] 50) = W1 at *
  obtain ⟨x0, x1, x2, x3, -, -, -, -, xl⟩ := hX.four
  repeat' (first | (go_at_call 40; go_must ((with_reducible refine Calls.mono (HR.out _) ?_); rintro _ w5 ⟨rfl, hb5⟩; have hZ5 := hZ.step hb5; have hX5 := hX.step hb5; have hY5 := hY.step hb5; obtain ⟨x0, x1, x2, x3, -, -, -, -, xl⟩ := hX5.four; dsimp only)) | (go_at_call 45; go_must ((with_reducible refine Calls.mono (HV.out _) ?_); rintro _ w2 ⟨rfl, hb2⟩; have hZ2 := hZ5.step hb2; have hX2 := hX5.step hb2; have hY2 := hY5.step hb2; dsimp only)) | (with_reducible refine stop_region 7 ?_) | (with_reducible refine Keep.last ?_) | (with_reducible refine Keep.below (by assumption) ?_) | (with_reducible refine Keep.kept (by assumption) ?_) | (with_reducible refine Keep.alloc ?_) | (with_reducible refine Keep.same ?_) | ((with_reducible refine WpH.here ?_); first | (refine WpH.nil ?_; refine NoP.normal ?_) | (refine WpH.load (by rfl) (by rfl) (by go_simp; rfl) ?_; simp only [Act.put, List.setIfInBounds_toArray, List.set_cons_zero, List.set_cons_succ]) | (refine WpH.loadT (by rfl) (by rfl) (by go_simp; rfl) (by rintro _ _ ⟨⟩; exact ⟨_, _, _, _, _, _, by rfl, by assumption, by assumption⟩) ?_; simp only [Act.put, List.setIfInBounds_toArray, List.set_cons_zero, List.set_cons_succ]) | (refine WpH.pure (by rfl) (fun w_ => by go_simp; (try go_bits); rfl) ?_; simp only [Act.put, List.setIfInBounds_toArray, List.set_cons_zero, List.set_cons_succ]) | (refine WpH.wild1 (by rfl) (fun _ _ => ?_)) | (refine WpH.skip (by rfl) ?_; simp only [Act.put, List.setIfInBounds_toArray, List.set_cons_zero, List.set_cons_succ])) | go_values | go_skip | go_guarded | go_step | go_upon | go_back)
  refine Stop.go ?_
  clear HR HV
  have eN : Below w2.heap.size w2 (w2.alloc (.cells #[.int .i64 0, .slice none 0 0, .slice none 0 0] 50)) := balloc (Below.refl _ _)
  have hN := Blk.new w2 50 #[.int .i64 0, .slice none 0 0, .slice none 0 0]
  have hXN := hX2.step eN
  have hYN := hY2.step eN
  have hZN := hZ2.step eN
  have hbN := bvia (bvia (bvia hb hb5) hb2) eN
  have hnz : w.heap.size + 1 + 1 < w2.heap.size := hZ2.lt
  clear x0 x1 x2 x3 xl hX hY hZ hX5 hY5 hZ5 hX2 hY2 hZ2 hb hb5 hb2 eN
  generalize w2.alloc (.cells #[.int .i64 0, .slice none 0 0, .slice none 0 0] 50) = W2 at *
  generalize w2.heap.size = nb at *
  have hnl := hN.lt
  obtain ⟨x0, x1, x2, x3, -, -, -, -, xl⟩ := hXN.four
  have y0 := hYN.cell 0
  have y1 := hYN.cell 1
  have y2 := hYN.cell 2
  simp at y0 y1 y2
  rw [ho0.out] at x0
  rw [ho1.out] at x1
  rw [ho0.out, ho1.out] at hXN
  clear ho0 ho1
  repeat' (first | (go_at_call 112; go_must ((with_reducible refine Calls.mono (HI.out _ hbN) ?_); unfold noNone; rintro _ w6 ⟨A6, c6, rfl, hown6, hb6⟩; have hN6 := hN.step hb6; have hX6 := hXN.step hb6; have hZ6 := hZN.step hb6; have n0 := hN6.cell 0; have n1 := hN6.cell 1; have n2 := hN6.cell 2; have f0 := hN6.frozen 0; have f1 := hN6.frozen 1; have f2 := hN6.frozen 2; have nl := hN6.lt; simp at n0 n1 n2; dsimp only)) | (with_reducible refine stop_region 13 ?_) | (with_reducible refine Keep.last ?_) | (with_reducible refine Keep.below (by assumption) ?_) | (with_reducible refine Keep.kept (by assumption) ?_) | (with_reducible refine Keep.alloc ?_) | (with_reducible refine Keep.same ?_) | ((with_reducible refine WpH.here ?_); first | (refine WpH.nil ?_; refine NoP.normal ?_) | (refine WpH.load (by rfl) (by rfl) (by go_simp; rfl) ?_; simp only [Act.put, List.setIfInBounds_toArray, List.set_cons_zero, List.set_cons_succ]) | (refine WpH.loadT (by rfl) (by rfl) (by go_simp; rfl) (by rintro _ _ ⟨⟩; exact ⟨_, _, _, _, _, _, by rfl, by assumption, by assumption⟩) ?_; simp only [Act.put, List.setIfInBounds_toArray, List.set_cons_zero, List.set_cons_succ]) | (refine WpH.pure (by rfl) (fun w_ => by go_simp; (try go_bits); rfl) ?_; simp only [Act.put, List.setIfInBounds_toArray, List.set_cons_zero, List.set_cons_succ]) | (refine WpH.wild1 (by rfl) (fun _ _ => ?_)) | (refine WpH.skip (by rfl) ?_; simp only [Act.put, List.setIfInBounds_toArray, List.set_cons_zero, List.set_cons_succ])) | go_values | go_skip | go_guarded | go_step | go_upon | go_back)
  skip
  refine Stop.go ?_
  have hb7 : Below w.heap.size w (((w6.setCell ⟨nb, 0, none⟩ (.int .i64 0)).setCell ⟨nb, 1, none⟩ (.slice none 0 0)).setCell ⟨nb, 2, none⟩ (.slice none 0 0)) := bset (bset (bset (bvia hbN hb6) (by show w.heap.size ≤ nb; omega)) (by show w.heap.size ≤ nb; omega)) (by show w.heap.size ≤ nb; omega)
  have hN7 := ((hN6.set_ 0 (.int .i64 0)).set_ 1 (.slice none 0 0)).set_ 2 (.slice none 0 0)
  have hX7 := ((hX6.far (p := ⟨nb, 0, none⟩) (by show w.heap.size ≠ nb; omega) (.int .i64 0)).far (p := ⟨nb, 1, none⟩) (by show w.heap.size ≠ nb; omega) (.slice none 0 0)).far (p := ⟨nb, 2, none⟩) (by show w.heap.size ≠ nb; omega) (.slice none 0 0)
  have hZ7 := ((hZ6.far (p := ⟨nb, 0, none⟩) (by show w.heap.size + 1 + 1 ≠ nb; omega) (.int .i64 0)).far (p := ⟨nb, 1, none⟩) (by show w.heap.size + 1 + 1 ≠ nb; omega) (.slice none 0 0)).far (p := ⟨nb, 2, none⟩) (by show w.heap.size + 1 + 1 ≠ nb; omega) (.slice none 0 0)
  have hown7 := (((hown6.keep (S := fun b => b ≠ nb) (Same.setCell (p := ⟨nb, 0, none⟩) w6 (fun h => h rfl) (.int .i64 0)) (fun a ha e => by have := (hown6.block a ha).1; omega)).keep (S := fun b => b ≠ nb) (Same.setCell (p := ⟨nb, 1, none⟩) _ (fun h => h rfl) (.slice none 0 0)) (fun a ha e => by have := (hown6.block a ha).1; omega)).keep (S := fun b => b ≠ nb) (Same.setCell (p := ⟨nb, 2, none⟩) _ (fun h => h rfl) (.slice none 0 0)) (fun a ha e => by have := (hown6.block a ha).1; omega))
  clear n0 n1 n2 f0 f1 f2 nl x0 x1 x2 x3 y0 y1 y2 hN6 hX6 hZ6 hown6
  generalize ((w6.setCell ⟨nb, 0, none⟩ (.int .i64 0)).setCell ⟨nb, 1, none⟩ (.slice none 0 0)).setCell ⟨nb, 2, none⟩ (.slice none 0 0) = W7 at *
  obtain ⟨x0, x1, x2, x3, -, -, -, -, xl⟩ := hX7.four
  have n0 := hN7.cell 0
  have n1 := hN7.cell 1
  have n2 := hN7.cell 2
  have nl := hN7.lt
  simp at n0 n1 n2
  have HW := hid (wrap_none ({ data := #[120, 102, 111, 114, 109] } : ByteArray) ({ data := #[65, 112, 112, 108, 121] } : ByteArray) i W7)
  unfold noNone at HW
  repeat' (first | (go_at_call 78; go_must ((with_reducible refine Calls.mono HW.out ?_); rintro _ w8 ⟨rfl, hb8⟩; have hZ8 := hZ7.step hb8; have r0 := hZ8.cell 0; have r1 := hZ8.cell 1; have r2 := hZ8.cell 2; have f0 := hZ8.frozen 0; have f1 := hZ8.frozen 1; have f2 := hZ8.frozen 2; have rl := hZ8.lt; simp at r0 r1 r2; dsimp only)) | (with_reducible refine Keep.last ?_) | (with_reducible refine Keep.below (by assumption) ?_) | (with_reducible refine Keep.kept (by assumption) ?_) | (with_reducible refine Keep.alloc ?_) | (with_reducible refine Keep.same ?_) | ((with_reducible refine WpH.here ?_); first | (refine WpH.nil ?_; refine NoP.normal ?_) | (refine WpH.load (by rfl) (by rfl) (by go_simp; rfl) ?_; simp only [Act.put, List.setIfInBounds_toArray, List.set_cons_zero, List.set_cons_succ]) | (refine WpH.loadT (by rfl) (by rfl) (by go_simp; rfl) (by rintro _ _ ⟨⟩; exact ⟨_, _, _, _, _, _, by rfl, by assumption, by assumption⟩) ?_; simp only [Act.put, List.setIfInBounds_toArray, List.set_cons_zero, List.set_cons_succ]) | (refine WpH.pure (by rfl) (fun w_ => by go_simp; (try go_bits); rfl) ?_; simp only [Act.put, List.setIfInBounds_toArray, List.set_cons_zero, List.set_cons_succ]) | (refine WpH.wild1 (by rfl) (fun _ _ => ?_)) | (refine WpH.skip (by rfl) ?_; simp only [Act.put, List.setIfInBounds_toArray, List.set_cons_zero, List.set_cons_succ])) | go_values | go_skip | go_guarded | go_step | go_upon | go_back)
  skip
  refine bodyPost_ret (v := .tuple #[.slice A6 n c6, .agg #[.int .i64 0, .slice none 0 0, .slice none 0 0]]) (by simp [results, Tryd.results71, go_sem, r0, r1, r2, rl, size_set]) rfl ⟨A6, c6, rfl, ?_, ?_⟩
  · have hne : ∀ a, A6 = some a → a.block ≠ w.heap.size + 1 + 1 := fun a ha => by have := (hown7.block a ha).1; have := hZN.lt; omega
    have h8 := hown7.step hb8
    have := (((h8.keep (S := fun b => b ≠ w.heap.size + 1 + 1) (Same.setCell (p := ⟨w.heap.size + 1 + 1, 0, none⟩) w8 (fun h => h rfl) (.int .i64 0)) hne).keep (S := fun b => b ≠ w.heap.size + 1 + 1) (Same.setCell (p := ⟨w.heap.size + 1 + 1, 1, none⟩) _ (fun h => h rfl) (.slice none 0 0)) hne).keep (S := fun b => b ≠ w.heap.size + 1 + 1) (Same.setCell (p := ⟨w.heap.size + 1 + 1, 2, none⟩) _ (fun h => h rfl) (.slice none 0 0)) hne)
    exact this.mono hbN.size
  · exact bset (bset (bset (bvia hb7 hb8) (by show w.heap.size ≤ w.heap.size + 1 + 1; omega)) (by show w.heap.size ≤ w.heap.size + 1 + 1; omega)) (by show w.heap.size ≤ w.heap.size + 1 + 1; omega)
set_option maxRecDepth 20000 in
set_option maxHeartbeats 2000000 in
theorem refApply_res (A : Option Addr) (n c i : Nat) (es : List El) (S : Nat → Prop) (e : El) (c' r : Int) (id_ : Nm) (w : World) (h : Row w S A n c es) (hn : n ≤ 1073741824) (hvo : validOp ⟨3, i, c', r⟩ n = true) (he : es[i]? = some e) (hf : fairH (e.hides + (-1)) = true) :
    Calls Tryd.prog 71 #[.slice A n c, .agg #[.int .i64 3, .int .i64 i, .int .i32 c', .int .i64 r], id_.val] w fun e' w' => ∃ A' d, e' = .returned (.tuple #[.slice A' n d, noNone]) ∧ Own w' w.heap.size A' n d (es.set i (e.hide (-1))) ∧ Below w.heap.size w w' := by
  have hro := valid_right hvo
  obtain ⟨o, ho⟩ : ∃ o : Opn, o = ⟨3, i, c', r⟩ := ⟨_, rfl⟩
  have HR := hid (fun W => refRightOp_any o W)
  rw [ho, hro, ← ho] at HR
  have HV := hid (fun W => refValidOp_any o n W)
  rw [ho, hvo, ← ho] at HV
  have HI := hid (fun W (hb : Below w.heap.size w W) => refAdd_ok A n c i es S e (-1) (by omega) W (h.step hb) hn he hf)
  clear hro hvo h he hf
  have hagg : Value.agg #[.int .i64 3, .int .i64 i, .int .i32 c', .int .i64 r] = o.agg := by rw [ho]; rfl
  rw [hagg]
  have ho0 : Hid (o.kind = 3) := hid (by rw [ho])
  have ho1 : Hid (o.at_ = i) := hid (by rw [ho])
  clear ho hagg
  unfold Opn.agg Nm.val at *
  go_enter Tryd.func71, Tryd.ntmps71
  repeat' (first | (with_reducible refine stop_region 1 ?_) | (with_reducible refine Keep.last ?_) | (with_reducible refine Keep.below (by assumption) ?_) | (with_reducible refine Keep.kept (by assumption) ?_) | (with_reducible refine Keep.alloc ?_) | (with_reducible refine Keep.same ?_) | ((with_reducible refine WpH.here ?_); first | (refine WpH.nil ?_; refine NoP.normal ?_) | (refine WpH.load (by rfl) (by rfl) (by go_simp; rfl) ?_; simp only [Act.put, List.setIfInBounds_toArray, List.set_cons_zero, List.set_cons_succ]) | (refine WpH.loadT (by rfl) (by rfl) (by go_simp; rfl) (by rintro _ _ ⟨⟩; exact ⟨_, _, _, _, _, _, by rfl, by assumption, by assumption⟩) ?_; simp only [Act.put, List.setIfInBounds_toArray, List.set_cons_zero, List.set_cons_succ]) | (refine WpH.pure (by rfl) (fun w_ => by go_simp; (try go_bits); rfl) ?_; simp only [Act.put, List.setIfInBounds_toArray, List.set_cons_zero, List.set_cons_succ]) | (refine WpH.wild1 (by rfl) (fun _ _ => ?_)) | (refine WpH.skip (by rfl) ?_; simp only [Act.put, List.setIfInBounds_toArray, List.set_cons_zero, List.set_cons_succ])) | go_values | go_skip | go_guarded | go_step | go_upon | go_back)
  refine Stop.go ?_
  obtain ⟨hX, hY, hZ, hb⟩ := boxes3 w 58 34 50 #[.int .i64 o.kind, .int .i64 o.at_, .int .i32 o.char, .int .i64 o.rep] #[.int .i64 id_.epoch, .int .i64 id_.rep, .int .i64 id_.num] #[.int .i64 0, .slice none 0 0, .slice none 0 0]
  generalize ((w.alloc (.cells #[.int .i64 o.kind, .int .i64 o.at_, .int .i32 o.char, .int .i64 o.rep] 58)).alloc (.cells #[.int .i64 id_.epoch, .int .i64 id_.rep, .int .i64 id_.num] 34)).alloc (.cells #[.int .i64 0, .slice none 0 0, .slice none 0 0] 50) = W1 at *
  obtain ⟨x0, x1, x2, x3, -, -, -, -, xl⟩ := hX.four
  repeat' (first | (go_at_call 40; go_must ((with_reducible refine Calls.mono (HR.out _) ?_); rintro _ w5 ⟨rfl, hb5⟩; have hZ5 := hZ.step hb5; have hX5 := hX.step hb5; have hY5 := hY.step hb5; obtain ⟨x0, x1, x2, x3, -, -, -, -, xl⟩ := hX5.four; dsimp only)) | (go_at_call 45; go_must ((with_reducible refine Calls.mono (HV.out _) ?_); rintro _ w2 ⟨rfl, hb2⟩; have hZ2 := hZ5.step hb2; have hX2 := hX5.step hb2; have hY2 := hY5.step hb2; dsimp only)) | (with_reducible refine stop_region 7 ?_) | (with_reducible refine Keep.last ?_) | (with_reducible refine Keep.below (by assumption) ?_) | (with_reducible refine Keep.kept (by assumption) ?_) | (with_reducible refine Keep.alloc ?_) | (with_reducible refine Keep.same ?_) | ((with_reducible refine WpH.here ?_); first | (refine WpH.nil ?_; refine NoP.normal ?_) | (refine WpH.load (by rfl) (by rfl) (by go_simp; rfl) ?_; simp only [Act.put, List.setIfInBounds_toArray, List.set_cons_zero, List.set_cons_succ]) | (refine WpH.loadT (by rfl) (by rfl) (by go_simp; rfl) (by rintro _ _ ⟨⟩; exact ⟨_, _, _, _, _, _, by rfl, by assumption, by assumption⟩) ?_; simp only [Act.put, List.setIfInBounds_toArray, List.set_cons_zero, List.set_cons_succ]) | (refine WpH.pure (by rfl) (fun w_ => by go_simp; (try go_bits); rfl) ?_; simp only [Act.put, List.setIfInBounds_toArray, List.set_cons_zero, List.set_cons_succ]) | (refine WpH.wild1 (by rfl) (fun _ _ => ?_)) | (refine WpH.skip (by rfl) ?_; simp only [Act.put, List.setIfInBounds_toArray, List.set_cons_zero, List.set_cons_succ])) | go_values | go_skip | go_guarded | go_step | go_upon | go_back)
  refine Stop.go ?_
  clear HR HV
  have eN : Below w2.heap.size w2 (w2.alloc (.cells #[.int .i64 0, .slice none 0 0, .slice none 0 0] 50)) := balloc (Below.refl _ _)
  have hN := Blk.new w2 50 #[.int .i64 0, .slice none 0 0, .slice none 0 0]
  have hXN := hX2.step eN
  have hYN := hY2.step eN
  have hZN := hZ2.step eN
  have hbN := bvia (bvia (bvia hb hb5) hb2) eN
  have hnz : w.heap.size + 1 + 1 < w2.heap.size := hZ2.lt
  clear x0 x1 x2 x3 xl hX hY hZ hX5 hY5 hZ5 hX2 hY2 hZ2 hb hb5 hb2 eN
  generalize w2.alloc (.cells #[.int .i64 0, .slice none 0 0, .slice none 0 0] 50) = W2 at *
  generalize w2.heap.size = nb at *
  have hnl := hN.lt
  obtain ⟨x0, x1, x2, x3, -, -, -, -, xl⟩ := hXN.four
  have y0 := hYN.cell 0
  have y1 := hYN.cell 1
  have y2 := hYN.cell 2
  simp at y0 y1 y2
  rw [ho0.out] at x0
  rw [ho1.out] at x1
  rw [ho0.out, ho1.out] at hXN
  clear ho0 ho1
  repeat' (first | (go_at_call 112; go_must ((with_reducible refine Calls.mono (HI.out _ hbN) ?_); unfold noNone; rintro _ w6 ⟨A6, c6, rfl, hown6, hb6⟩; have hN6 := hN.step hb6; have hX6 := hXN.step hb6; have hZ6 := hZN.step hb6; have n0 := hN6.cell 0; have n1 := hN6.cell 1; have n2 := hN6.cell 2; have f0 := hN6.frozen 0; have f1 := hN6.frozen 1; have f2 := hN6.frozen 2; have nl := hN6.lt; simp at n0 n1 n2; dsimp only)) | (with_reducible refine stop_region 13 ?_) | (with_reducible refine Keep.last ?_) | (with_reducible refine Keep.below (by assumption) ?_) | (with_reducible refine Keep.kept (by assumption) ?_) | (with_reducible refine Keep.alloc ?_) | (with_reducible refine Keep.same ?_) | ((with_reducible refine WpH.here ?_); first | (refine WpH.nil ?_; refine NoP.normal ?_) | (refine WpH.load (by rfl) (by rfl) (by go_simp; rfl) ?_; simp only [Act.put, List.setIfInBounds_toArray, List.set_cons_zero, List.set_cons_succ]) | (refine WpH.loadT (by rfl) (by rfl) (by go_simp; rfl) (by rintro _ _ ⟨⟩; exact ⟨_, _, _, _, _, _, by rfl, by assumption, by assumption⟩) ?_; simp only [Act.put, List.setIfInBounds_toArray, List.set_cons_zero, List.set_cons_succ]) | (refine WpH.pure (by rfl) (fun w_ => by go_simp; (try go_bits); rfl) ?_; simp only [Act.put, List.setIfInBounds_toArray, List.set_cons_zero, List.set_cons_succ]) | (refine WpH.wild1 (by rfl) (fun _ _ => ?_)) | (refine WpH.skip (by rfl) ?_; simp only [Act.put, List.setIfInBounds_toArray, List.set_cons_zero, List.set_cons_succ])) | go_values | go_skip | go_guarded | go_step | go_upon | go_back)
  skip
  refine Stop.go ?_
  have hb7 : Below w.heap.size w (((w6.setCell ⟨nb, 0, none⟩ (.int .i64 0)).setCell ⟨nb, 1, none⟩ (.slice none 0 0)).setCell ⟨nb, 2, none⟩ (.slice none 0 0)) := bset (bset (bset (bvia hbN hb6) (by show w.heap.size ≤ nb; omega)) (by show w.heap.size ≤ nb; omega)) (by show w.heap.size ≤ nb; omega)
  have hN7 := ((hN6.set_ 0 (.int .i64 0)).set_ 1 (.slice none 0 0)).set_ 2 (.slice none 0 0)
  have hX7 := ((hX6.far (p := ⟨nb, 0, none⟩) (by show w.heap.size ≠ nb; omega) (.int .i64 0)).far (p := ⟨nb, 1, none⟩) (by show w.heap.size ≠ nb; omega) (.slice none 0 0)).far (p := ⟨nb, 2, none⟩) (by show w.heap.size ≠ nb; omega) (.slice none 0 0)
  have hZ7 := ((hZ6.far (p := ⟨nb, 0, none⟩) (by show w.heap.size + 1 + 1 ≠ nb; omega) (.int .i64 0)).far (p := ⟨nb, 1, none⟩) (by show w.heap.size + 1 + 1 ≠ nb; omega) (.slice none 0 0)).far (p := ⟨nb, 2, none⟩) (by show w.heap.size + 1 + 1 ≠ nb; omega) (.slice none 0 0)
  have hown7 := (((hown6.keep (S := fun b => b ≠ nb) (Same.setCell (p := ⟨nb, 0, none⟩) w6 (fun h => h rfl) (.int .i64 0)) (fun a ha e => by have := (hown6.block a ha).1; omega)).keep (S := fun b => b ≠ nb) (Same.setCell (p := ⟨nb, 1, none⟩) _ (fun h => h rfl) (.slice none 0 0)) (fun a ha e => by have := (hown6.block a ha).1; omega)).keep (S := fun b => b ≠ nb) (Same.setCell (p := ⟨nb, 2, none⟩) _ (fun h => h rfl) (.slice none 0 0)) (fun a ha e => by have := (hown6.block a ha).1; omega))
  clear n0 n1 n2 f0 f1 f2 nl x0 x1 x2 x3 y0 y1 y2 hN6 hX6 hZ6 hown6
  generalize ((w6.setCell ⟨nb, 0, none⟩ (.int .i64 0)).setCell ⟨nb, 1, none⟩ (.slice none 0 0)).setCell ⟨nb, 2, none⟩ (.slice none 0 0) = W7 at *
  obtain ⟨x0, x1, x2, x3, -, -, -, -, xl⟩ := hX7.four
  have n0 := hN7.cell 0
  have n1 := hN7.cell 1
  have n2 := hN7.cell 2
  have nl := hN7.lt
  simp at n0 n1 n2
  have HW := hid (wrap_none ({ data := #[120, 102, 111, 114, 109] } : ByteArray) ({ data := #[65, 112, 112, 108, 121] } : ByteArray) i W7)
  unfold noNone at HW
  repeat' (first | (go_at_call 78; go_must ((with_reducible refine Calls.mono HW.out ?_); rintro _ w8 ⟨rfl, hb8⟩; have hZ8 := hZ7.step hb8; have r0 := hZ8.cell 0; have r1 := hZ8.cell 1; have r2 := hZ8.cell 2; have f0 := hZ8.frozen 0; have f1 := hZ8.frozen 1; have f2 := hZ8.frozen 2; have rl := hZ8.lt; simp at r0 r1 r2; dsimp only)) | (with_reducible refine Keep.last ?_) | (with_reducible refine Keep.below (by assumption) ?_) | (with_reducible refine Keep.kept (by assumption) ?_) | (with_reducible refine Keep.alloc ?_) | (with_reducible refine Keep.same ?_) | ((with_reducible refine WpH.here ?_); first | (refine WpH.nil ?_; refine NoP.normal ?_) | (refine WpH.load (by rfl) (by rfl) (by go_simp; rfl) ?_; simp only [Act.put, List.setIfInBounds_toArray, List.set_cons_zero, List.set_cons_succ]) | (refine WpH.loadT (by rfl) (by rfl) (by go_simp; rfl) (by rintro _ _ ⟨⟩; exact ⟨_, _, _, _, _, _, by rfl, by assumption, by assumption⟩) ?_; simp only [Act.put, List.setIfInBounds_toArray, List.set_cons_zero, List.set_cons_succ]) | (refine WpH.pure (by rfl) (fun w_ => by go_simp; (try go_bits); rfl) ?_; simp only [Act.put, List.setIfInBounds_toArray, List.set_cons_zero, List.set_cons_succ]) | (refine WpH.wild1 (by rfl) (fun _ _ => ?_)) | (refine WpH.skip (by rfl) ?_; simp only [Act.put, List.setIfInBounds_toArray, List.set_cons_zero, List.set_cons_succ])) | go_values | go_skip | go_guarded | go_step | go_upon | go_back)
  skip
  refine bodyPost_ret (v := .tuple #[.slice A6 n c6, .agg #[.int .i64 0, .slice none 0 0, .slice none 0 0]]) (by simp [results, Tryd.results71, go_sem, r0, r1, r2, rl, size_set]) rfl ⟨A6, c6, rfl, ?_, ?_⟩
  · have hne : ∀ a, A6 = some a → a.block ≠ w.heap.size + 1 + 1 := fun a ha => by have := (hown7.block a ha).1; have := hZN.lt; omega
    have h8 := hown7.step hb8
    have := (((h8.keep (S := fun b => b ≠ w.heap.size + 1 + 1) (Same.setCell (p := ⟨w.heap.size + 1 + 1, 0, none⟩) w8 (fun h => h rfl) (.int .i64 0)) hne).keep (S := fun b => b ≠ w.heap.size + 1 + 1) (Same.setCell (p := ⟨w.heap.size + 1 + 1, 1, none⟩) _ (fun h => h rfl) (.slice none 0 0)) hne).keep (S := fun b => b ≠ w.heap.size + 1 + 1) (Same.setCell (p := ⟨w.heap.size + 1 + 1, 2, none⟩) _ (fun h => h rfl) (.slice none 0 0)) hne)
    exact this.mono hbN.size
  · exact bset (bset (bset (bvia hb7 hb8) (by show w.heap.size ≤ w.heap.size + 1 + 1; omega)) (by show w.heap.size ≤ w.heap.size + 1 + 1; omega)) (by show w.heap.size ≤ w.heap.size + 1 + 1; omega)
end Go.Proofs.YtogkbddniacgiaaDoor
