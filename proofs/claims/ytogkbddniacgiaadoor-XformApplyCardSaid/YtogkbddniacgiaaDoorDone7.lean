/- The statements' own helper of chapter 7: a row behind some operations. Conditions: row and operations lie in memory; each can be done where it stands. The waking example of chapter 7 is true, over any memory. No condition. -/
import Derived.Test.YtogkbddniacgiaaDoorXf2
import Derived.Test.YtogkbddniacgiaaDoorBel
namespace Go.Proofs.YtogkbddniacgiaaDoor
set_option linter.unusedSimpArgs false
set_option linter.unusedVariables false
open Go Go.RowKit
instance : Enc Opn where
  k := 4
  cells o := [.int .i64 o.kind, .int .i64 o.at_, .int .i32 o.char, .int .i64 o.rep]
  len _ := rfl
  one := by
    intro a u hu
    simp only [List.mem_cons, List.not_mem_nil, or_false] at hu
    rcases hu with rfl | rfl | rfl | rfl <;> rfl
theorem IsIds.monoK {w : World} {b K K' : Nat} {s : List Nm} (h : IsIds w b K s) (hk : K ≤ K') : IsIds w b K' s := by
  obtain ⟨n, D, ho, hn, hs⟩ := h
  exact ⟨n, D, ho, by omega, hs⟩
theorem Mdl.monoK {w : World} {S : Nat → Prop} {mb : Nat} {l : List El} {K K' : Nat} (h : Mdl w S mb l K) (hk : K ≤ K') : Mdl w S mb l K' := by
  obtain ⟨gt, gm, p, T, h1, h2, h3, h4, h5, r⟩ := h
  exact ⟨gt, gm, p, T, h1, h2, h3, h4, h5.monoK hk, r⟩
theorem apply_ok (w : World) (S : Nat → Prop) (mb : Nat) (l : List El) (K : Nat) (o : Opn) (id : Nm) (h : Mdl w S mb l K) (hl : l.length ≤ 536870912) (hK : K ≤ 1099511627776) (hc : CanDo l o id) :
    Calls Tryd.prog 67 #[.pointer (some ⟨mb, 0, none⟩), o.agg, id.val] w fun e w' => e = .returned .nilIface ∧ Mdl w' (Fr w S) mb (doneOp l o id) (K + 1) ∧ Out S w w' := by
  obtain ⟨hro, h0, hn⟩ := validOp_right hc.valid
  have hv := hc.valid
  obtain ⟨k, t, c, r⟩ := o
  obtain ⟨i, rfl⟩ : ∃ i : Nat, t = i := ⟨t.toNat, by simp only at h0; omega⟩
  simp only at hn h0
  have hm : ∀ e w', (e = Ending.returned Value.nilIface ∧ Mdl w' (Fr w S) mb (doneOp l ⟨k, i, c, r⟩ id) K ∧ Out S w w') → e = .returned .nilIface ∧ Mdl w' (Fr w S) mb (doneOp l ⟨k, i, c, r⟩ id) (K + 1) ∧ Out S w w' := fun e w' ⟨a, b, d⟩ => ⟨a, b.monoK (Nat.le_succ _), d⟩
  rcases rightOp_kind hro with ⟨h1, h2⟩ | h1 | h1
  · simp only at h1 h2
    subst h1
    obtain ⟨g1, g2⟩ := hc.ins rfl
    have he : doneOp l ⟨1, i, c, r⟩ id = l.take i ++ insEl id c :: l.drop i := by simp [doneOp]
    rw [he]
    exact apply_ins w S mb l K i c r id h hl hK (by omega) h2 hro hv g1 g2
  · simp only at h1
    subst h1
    have hi : i < l.length := by omega
    have he : l[i]? = some l[i] := List.getElem?_eq_getElem hi
    have hd : doneOp l ⟨2, i, c, r⟩ id = l.set i (l[i].hide 1) := by simp [doneOp, he]
    have hf := hc.hide (by simp) l[i] (by simp [he])
    rw [hd] at hm ⊢
    exact (apply_era w S mb l K i c r id l[i] h hl he hf hro hv).mono hm
  · simp only at h1
    subst h1
    have hi : i < l.length := by omega
    have he : l[i]? = some l[i] := List.getElem?_eq_getElem hi
    have hd : doneOp l ⟨3, i, c, r⟩ id = l.set i (l[i].hide (-1)) := by simp [doneOp, he]
    have hf := hc.hide (by simp) l[i] (by simp [he])
    rw [hd] at hm ⊢
    exact (apply_res w S mb l K i c r id l[i] h hl he hf hro hv).mono hm
def Opn.nm (o : Opn) : Nm := ⟨4, o.rep, 1⟩
def doneAll (l : List El) (ops : List Opn) : List El := ops.foldl (fun l o => doneOp l o o.nm) l
def CanAll : List El → List Opn → Prop
  | _, [] => True
  | l, o :: r => CanDo l o o.nm ∧ CanAll (doneOp l o o.nm) r
theorem doneOp_length (l : List El) (o : Opn) (id : Nm) : (doneOp l o id).length ≤ l.length + 1 := by
  unfold doneOp
  split
  · simp
    omega
  · split
    · simp
    · omega
theorem doneAll_length (l : List El) (ops : List Opn) : (doneAll l ops).length ≤ l.length + ops.length := by
  induction ops generalizing l with
  | nil => simp [doneAll]
  | cons o r ih =>
    have h1 := ih (doneOp l o o.nm)
    have h2 := doneOp_length l o o.nm
    simp only [doneAll, List.foldl_cons, List.length_cons] at *
    omega
theorem CanAll.at_ {l : List El} {ops : List Opn} (h : CanAll l ops) {k : Nat} {o : Opn} (hk : ops[k]? = some o) : CanDo (doneAll l (ops.take k)) o o.nm ∧ doneAll l (ops.take (k + 1)) = doneOp (doneAll l (ops.take k)) o o.nm := by
  induction ops generalizing l k with
  | nil => simp at hk
  | cons x r ih =>
    cases k with
    | zero =>
      simp at hk
      subst hk
      exact ⟨h.1, rfl⟩
    | succ k =>
      simp at hk
      have := ih h.2 hk
      simpa [doneAll] using this
theorem Out.keepT {S : Nat → Prop} {w w' : World} (h : Out S w w') (T : Nat → Prop) (hT : ∀ b, T b → ¬ S b) : KeepT T w w' := ⟨h.size, fun b hl hb => h.block b hl (hT b hb)⟩
set_option maxRecDepth 50000 in
set_option maxHeartbeats 2000000 in
theorem done_ok (w : World) (A B : Option Addr) (n c m d : Nat) (ls : List El) (ops : List Opn) (SB SC : Nat → Prop) (hr : Row w SB A n c ls) (ho : GRow w SC B m d ops) (hn : n ≤ 1000) (hm : m ≤ 1000) (hg : ∀ e ∈ ls, e.Good) (hd : (ls.map El.nm).Nodup) (hc : CanAll ls ops) :
    Calls Tryd.prog 36 #[.slice A n c, .slice B m d] w fun r w' => ∃ A' c', r = .returned (.tuple #[.slice A' (doneAll ls ops).length c', .bool true]) ∧ Own w' w.heap.size A' (doneAll ls ops).length c' (doneAll ls ops) ∧ Below w.heap.size w w' := by
  have HO := hid (mof_ok w A n c ls SB hr (by omega) hg hd)
  have Ho := hid (ho.more (S' := fun b => b < w.heap.size) fun b h _ => h)
  have Hc := hid hc
  have hmd := ho.2.1
  have hnl := hr.1
  have hml := ho.1
  clear hr ho hg hd hc
  go_enter Tryd.func36, Tryd.ntmps36
  repeat' (first | (go_at_call 65; go_must ((with_reducible refine Calls.mono HO.out ?_); rintro _ w1 ⟨mb, rfl, hM, hb1⟩; dsimp only)) | (with_reducible refine Keep.last ?_) | (with_reducible refine Keep.below (by assumption) ?_) | (with_reducible refine Keep.kept (by assumption) ?_) | (with_reducible refine Keep.alloc ?_) | (with_reducible refine Keep.same ?_) | ((with_reducible refine WpH.here ?_); first | (refine WpH.nil ?_; refine NoP.normal ?_) | (refine WpH.load (by rfl) (by rfl) (by go_simp; rfl) ?_; simp only [Act.put, List.setIfInBounds_toArray, List.set_cons_zero, List.set_cons_succ]) | (refine WpH.loadT (by rfl) (by rfl) (by go_simp; rfl) (by rintro _ _ ⟨⟩; exact ⟨_, _, _, _, _, _, by rfl, by assumption, by assumption⟩) ?_; simp only [Act.put, List.setIfInBounds_toArray, List.set_cons_zero, List.set_cons_succ]) | (refine WpH.pure (by rfl) (fun w_ => by go_simp; (try go_bits); rfl) ?_; simp only [Act.put, List.setIfInBounds_toArray, List.set_cons_zero, List.set_cons_succ]) | (refine WpH.wild1 (by rfl) (fun _ _ => ?_)) | (refine WpH.skip (by rfl) ?_; simp only [Act.put, List.setIfInBounds_toArray, List.set_cons_zero, List.set_cons_succ])) | go_values | go_skip | go_guarded | go_step | go_upon | go_back)
  go_loopw [8] (fun i wr => ∃ k : Nat, i = .int .i64 k ∧ k ≤ m ∧ Mdl wr (fun b => w.heap.size ≤ b) mb (doneAll ls (ops.take k)) (n + k) ∧ Below w.heap.size w wr) (fun i _ => m - (intOf i).toNat)
  case atStart => exact ⟨0, rfl, Nat.zero_le _, by simpa [doneAll] using hM, hb1⟩
  case round =>
    obtain ⟨k, rfl, hk, hMr, hbr⟩ := hrel
    by_cases hlt : k < m
    · obtain ⟨b, off, o, rfl, hSb, hbl, hok, hcell⟩ := (Ho.out.step hbr).at_ hlt
      obtain ⟨hcan, hstep⟩ := Hc.out.at_ hok
      have c0 : wr.drew.cell? ⟨b, off + k * 4, none⟩ = some (.int .i64 o.kind) := hcell 0 _ rfl
      have c1 : wr.drew.cell? ⟨b, off + k * 4 + 1, none⟩ = some (.int .i64 o.at_) := hcell 1 _ rfl
      have c2 : wr.drew.cell? ⟨b, off + k * 4 + 2, none⟩ = some (.int .i32 o.char) := hcell 2 _ rfl
      have c3 : wr.drew.cell? ⟨b, off + k * 4 + 3, none⟩ = some (.int .i64 o.rep) := hcell 3 _ rfl
      obtain ⟨cs, u, z, hH⟩ := cell_obj c0
      have hlen := doneAll_length ls (ops.take k)
      have htk : (ops.take k).length ≤ k := List.length_take_le _ _
      have hMd := hMr.keep (w' := wr.drew) (fun _ _ _ => rfl)
      have HA := hid (apply_ok wr.drew (fun b => w.heap.size ≤ b) mb _ (n + k) o o.nm hMd (by omega) (by omega) hcan)
      simp only [Opn.agg, Opn.nm, Nm.val] at HA
      have Hs := hid hstep
      have Hok := hid hok
      clear hcan hstep hcell hMr hMd hok
      repeat' (first | ((with_reducible refine region_at 7 ?_); refine wp_region_orderT (fun b => b < w.heap.size) [(0, true, false), (1, true, false), (2, true, false), (3, true, false), (4, true, false), (5, true, false), (6, true, false), (7, true, false), (8, true, false), (9, true, false), (10, true, false), (11, false, false), (12, true, false)] (by kernel_rfl) (by kernel_rfl) (by kernel_rfl) rfl rfl ?_) | (go_at_call 67; go_must ((with_reducible refine Calls.mono HA.out ?_); rintro _ w3 ⟨rfl, hM3, hO3⟩; have hk3 := hO3.keepT (fun b => b < w.heap.size) (fun b h1 h2 => by omega); dsimp only)) | (with_reducible refine Keep.last ?_) | (with_reducible refine Keep.below (by assumption) ?_) | (with_reducible refine Keep.kept (by assumption) ?_) | (with_reducible refine Keep.alloc ?_) | (with_reducible refine Keep.same ?_) | ((with_reducible refine WpH.here ?_); first | (refine WpH.nil ?_; refine NoP.normal ?_) | (refine WpH.load (by rfl) (by rfl) (by go_simp; rfl) ?_; simp only [Act.put, List.setIfInBounds_toArray, List.set_cons_zero, List.set_cons_succ]) | (refine WpH.loadT (by rfl) (by rfl) (by go_simp; rfl) (by rintro _ _ ⟨⟩; exact ⟨_, _, _, _, _, _, by rfl, by assumption, by assumption⟩) ?_; simp only [Act.put, List.setIfInBounds_toArray, List.set_cons_zero, List.set_cons_succ]) | (refine WpH.pure (by rfl) (fun w_ => by go_simp; (try go_bits); rfl) ?_; simp only [Act.put, List.setIfInBounds_toArray, List.set_cons_zero, List.set_cons_succ]) | (refine WpH.wild1 (by rfl) (fun _ _ => ?_)) | (refine WpH.skip (by rfl) ?_; simp only [Act.put, List.setIfInBounds_toArray, List.set_cons_zero, List.set_cons_succ])) | go_values | go_skip | go_guarded | go_step | go_upon | go_back)
      go_roundw
      case rel =>
        refine ⟨k + 1, by go_num, by omega, ?_, hO3.below (hbr.drew) (Nat.le_refl _) (fun b h => h)⟩
        rw [Hs.out]
        exact hM3.more fun b _ h => by
          rcases h with h | h
          · exact h
          · exact Nat.le_trans hbr.size h
      case measure => simp [intOf]; omega
    · obtain rfl : k = m := by omega
      have ht : ops.take k = ops := List.take_of_length_le (by omega)
      rw [ht] at hMr
      have hlen := doneAll_length ls ops
      have HE := hid (melements_any wr _ mb (doneAll ls ops) (n + k) hMr (by omega))
      clear ht hMr
      repeat' (first | (go_at_call 69; go_must ((with_reducible refine Calls.mono HE.out ?_); rintro _ w3 ⟨A3, c3, rfl, ho3, hb3⟩; dsimp only)) | (with_reducible refine Keep.last ?_) | (with_reducible refine Keep.below (by assumption) ?_) | (with_reducible refine Keep.kept (by assumption) ?_) | (with_reducible refine Keep.alloc ?_) | (with_reducible refine Keep.same ?_) | ((with_reducible refine WpH.here ?_); first | (refine WpH.nil ?_; refine NoP.normal ?_) | (refine WpH.load (by rfl) (by rfl) (by go_simp; rfl) ?_; simp only [Act.put, List.setIfInBounds_toArray, List.set_cons_zero, List.set_cons_succ]) | (refine WpH.loadT (by rfl) (by rfl) (by go_simp; rfl) (by rintro _ _ ⟨⟩; exact ⟨_, _, _, _, _, _, by rfl, by assumption, by assumption⟩) ?_; simp only [Act.put, List.setIfInBounds_toArray, List.set_cons_zero, List.set_cons_succ]) | (refine WpH.pure (by rfl) (fun w_ => by go_simp; (try go_bits); rfl) ?_; simp only [Act.put, List.setIfInBounds_toArray, List.set_cons_zero, List.set_cons_succ]) | (refine WpH.wild1 (by rfl) (fun _ _ => ?_)) | (refine WpH.skip (by rfl) ?_; simp only [Act.put, List.setIfInBounds_toArray, List.set_cons_zero, List.set_cons_succ])) | go_values | go_skip | go_guarded | go_step | go_upon | go_back)
      go_ret2
      exact ⟨A3, c3, rfl, ho3.mono hbr.size, hbr.trans (hb3.mono hbr.size)⟩
end Go.Proofs.YtogkbddniacgiaaDoor
namespace Go.Proofs.YtogkbddniacgiaaDoor
set_option linter.unusedSimpArgs false
set_option linter.unusedVariables false
open Go Go.RowKit
instance (n : Int) : Decidable (I64 n) := by unfold I64; infer_instance
instance (n : Int) : Decidable (I32 n) := by unfold I32; infer_instance
instance (n : Nm) : Decidable n.In := by unfold Nm.In; infer_instance
@[go_sem] theorem field_op0 (x0 x1 x2 x3 : Value) (w : World) : (Instr.field 58 (.agg #[x0, x1, x2, x3]) 0).run Tryd.prog w = .ok x0 w := by kernel_rfl
@[go_sem] theorem field_op1 (x0 x1 x2 x3 : Value) (w : World) : (Instr.field 58 (.agg #[x0, x1, x2, x3]) 1).run Tryd.prog w = .ok x1 w := by kernel_rfl
@[go_sem] theorem field_op2 (x0 x1 x2 x3 : Value) (w : World) : (Instr.field 58 (.agg #[x0, x1, x2, x3]) 2).run Tryd.prog w = .ok x2 w := by kernel_rfl
@[go_sem] theorem field_op3 (x0 x1 x2 x3 : Value) (w : World) : (Instr.field 58 (.agg #[x0, x1, x2, x3]) 3).run Tryd.prog w = .ok x3 w := by kernel_rfl
def opA : Opn := ⟨1, 0, 97, 1⟩
def opB : Opn := ⟨1, 0, 98, 2⟩
def wakeRow : List El := [insEl (Opn.nm opA) 97, insEl (Opn.nm opB) 98]
theorem Own.cell0 {w : World} {base : Nat} {A : Option Addr} {n c : Nat} {e : El} {es : List El} (h : Own w base A n c (e :: es)) : ∃ g, A = some ⟨g, 0, none⟩ ∧ base ≤ g ∧ g < w.heap.size ∧ w.cell? ⟨g, 3, none⟩ = some (.int .i32 e.char) := by
  obtain ⟨b, off, rfl, _, hcell⟩ := ((h.row (S := fun _ => True) fun _ _ _ => trivial).2.2.2 (by have := h.1; simp at this; omega))
  obtain ⟨g, hg⟩ := h.head
  have hb := h.block _ rfl
  injection hg with h1 h2
  subst h1 h2
  refine ⟨b, rfl, hb.1, hb.2, ?_⟩
  have := hcell 3 (.int .i32 e.char) rfl
  simpa using this
theorem wake_done (w : World) : Calls Tryd.prog 36 #[.slice none 0 0, .slice (some ⟨w.heap.size, 0, none⟩) 2 2] (w.alloc (.cells #[.int .i64 1, .int .i64 0, .int .i32 98, .int .i64 2, .int .i64 1, .int .i64 0, .int .i32 97, .int .i64 1] 58)) fun r w' => ∃ g c', r = .returned (.tuple #[.slice (some ⟨g, 0, none⟩) 2 c', .bool true]) ∧ w.heap.size ≤ g ∧ g < w'.heap.size ∧ w'.cell? ⟨g, 3, none⟩ = some (.int .i32 97) ∧ Below w.heap.size w w' ∧ Below (w.heap.size + 1) (w.alloc (.cells #[.int .i64 1, .int .i64 0, .int .i32 98, .int .i64 2, .int .i64 1, .int .i64 0, .int .i32 97, .int .i64 1] 58)) w' := by
  have hrow : GRow (w.alloc (.cells #[.int .i64 1, .int .i64 0, .int .i32 98, .int .i64 2, .int .i64 1, .int .i64 0, .int .i32 97, .int .i64 1] 58)) (fun _ => True) (some ⟨w.heap.size, 0, none⟩) 2 2 [opB, opA] := (GOwn.lit (t := 58) w #[.int .i64 1, .int .i64 0, .int .i32 98, .int .i64 2, .int .i64 1, .int .i64 0, .int .i32 97, .int .i64 1] [opB, opA] 0 (Nat.zero_le _) (by show 2 ≤ maxLen; decide) rfl).row fun _ _ _ => trivial
  have hb : Below w.heap.size w (w.alloc (.cells #[.int .i64 1, .int .i64 0, .int .i32 98, .int .i64 2, .int .i64 1, .int .i64 0, .int .i32 97, .int .i64 1] 58)) := (Below.refl _ _).alloc (Nat.le_refl _) _
  refine (done_ok _ none (some ⟨w.heap.size, 0, none⟩) 0 0 2 2 [] [opB, opA] (fun _ => True) (fun _ => True) (Row.nil _ _ _ _ (Nat.zero_le _)) hrow (by omega) (by omega) (fun e he => by cases he) List.nodup_nil ⟨⟨by decide, fun _ => ⟨by decide, by simp⟩, fun h => absurd rfl h⟩, ⟨by decide, fun _ => ⟨by decide, by decide⟩, fun h => absurd rfl h⟩, trivial⟩).mono ?_
  rintro _ w' ⟨A', c', rfl, ho, hbb⟩
  obtain ⟨g, rfl, h1, h2, h3⟩ := ho.cell0
  have h4 := hb.size
  exact ⟨g, c', rfl, by omega, h2, h3, hb.trans (hbb.mono hb.size), by simpa using hbb⟩
theorem two_size (w : World) (t : TypeId) (x y : Array Value) : ((w.alloc (.cells x t)).alloc (.cells y t)).heap.size = w.heap.size + 1 + 1 := by
  have s1 : (w.alloc (.cells x t)).heap.size = w.heap.size + 1 := Array.size_push _
  rw [← s1]
  exact Array.size_push _
theorem two_boxes (w : World) (t : TypeId) (x y : Array Value) : let W := (w.alloc (.cells x t)).alloc (.cells y t)
    Blk W w.heap.size t x ∧ Blk W (w.heap.size + 1) t y ∧ Below w.heap.size w W := by
  intro W
  have s1 : (w.alloc (.cells x t)).heap.size = w.heap.size + 1 := Array.size_push _
  refine ⟨(Blk.new w t x).alloc _, ?_, ((Below.refl _ _).alloc (Nat.le_refl _) _).alloc (by omega) _⟩
  have := Blk.new (w.alloc (.cells x t)) t y
  rw [s1] at this
  exact this
set_option maxRecDepth 50000 in
set_option maxHeartbeats 2000000 in
theorem wakes7_any (w : World) : Calls Tryd.prog 32 #[] w fun r w' => r = .returned (.bool true) ∧ Below w.heap.size w w' := by
  have HT := hid (fun W => T_any opA opB W (by unfold opA; exact ⟨by decide, by decide, by decide, by decide⟩))
  have HT2 := hid (fun W => T_any opB opA W (by unfold opB; exact ⟨by decide, by decide, by decide, by decide⟩))
  rw [show Tof opA opB = opA from by decide] at HT
  rw [show Tof opB opA = ⟨1, 1, 98, 2⟩ from by decide] at HT2
  simp only [Opn.agg, opA, opB] at HT HT2
  have HD := hid wake_done
  obtain ⟨hA, hB, hW⟩ := two_boxes w 58 (opCells opA) (opCells opB)
  simp only [opCells, opA, opB] at hA hB hW
  have lA : w.heap.size < w.heap.size + 1 + 1 := by omega
  have lB : w.heap.size + 1 < w.heap.size + 1 + 1 := by omega
  have zA := hA
  unfold Blk at zA
  have zB := hB
  unfold Blk at zB
  have sW := hW.size
  have eW := two_size w 58 (opCells opA) (opCells opB)
  simp only [opCells, opA, opB] at eW
  go_enter Tryd.func32, Tryd.ntmps32
  repeat' (first | ((with_reducible refine region_at 3 ?_); refine wp_region_orderT (fun b => b < w.heap.size + 1 + 1) [(0, true, false), (1, true, false), (2, true, false), (3, false, false), (4, false, false), (5, false, false), (6, true, false), (7, true, false), (8, true, false), (9, true, false), (10, true, false)] (by kernel_rfl) (by kernel_rfl) (by kernel_rfl) rfl rfl ?_) | (go_at_call 30; go_must (first | ((with_reducible refine Calls.mono (HT.out _) ?_); rintro _ w1 ⟨rfl, hb1⟩; have hbb := undrew hb1; have hk1 : KeepT (fun b => b < w.heap.size + 1 + 1) _ w1 := ⟨hbb.size, fun b _ hb => hbb.block b (by rw [eW]; exact hb)⟩; dsimp only) | ((with_reducible refine Calls.mono (HT2.out _) ?_); rintro _ w4 ⟨rfl, hb4⟩; dsimp only))) | (go_at_call 36; go_must ((with_reducible refine Calls.mono (HD.out _) ?_); rintro _ w3 ⟨g, c', rfl, hg1, hg2, hg3, hb3, hb5⟩; have hb2 := hbb.trans (hb3.mono hbb.size); have hk3 : KeepT (fun b => b < w.heap.size + 1 + 1) _ w3 := ⟨hb5.size, fun b _ hb => hb5.block b (by have := hbb.size; rw [eW] at this; omega)⟩; obtain ⟨a0, a1, a2, a3, -, -, -, -, al⟩ := (hA.step hb2).four; obtain ⟨z0, z1, z2, z3, -, -, -, -, zl⟩ := (hB.step hb2).four; dsimp only)) | (with_reducible refine Keep.last ?_) | (with_reducible refine Keep.below (by assumption) ?_) | (with_reducible refine Keep.kept (by assumption) ?_) | (with_reducible refine Keep.alloc ?_) | (with_reducible refine Keep.same ?_) | ((with_reducible refine WpH.here ?_); first | (refine WpH.nil ?_; refine NoP.normal ?_) | (refine WpH.load (by rfl) (by rfl) (by go_simp; rfl) ?_; simp only [Act.put, List.setIfInBounds_toArray, List.set_cons_zero, List.set_cons_succ]) | (refine WpH.loadT (by rfl) (by rfl) (by go_simp; rfl) (by rintro _ _ ⟨⟩; exact ⟨_, _, _, _, _, _, by rfl, by assumption, by assumption⟩) ?_; simp only [Act.put, List.setIfInBounds_toArray, List.set_cons_zero, List.set_cons_succ]) | (refine WpH.pure (by rfl) (fun w_ => by go_simp; (try go_bits); rfl) ?_; simp only [Act.put, List.setIfInBounds_toArray, List.set_cons_zero, List.set_cons_succ]) | (refine WpH.wild1 (by rfl) (fun _ _ => ?_)) | (refine WpH.skip (by rfl) ?_; simp only [Act.put, List.setIfInBounds_toArray, List.set_cons_zero, List.set_cons_succ])) | go_values | go_skip | go_guarded | go_step | go_upon | go_back)
  go_ret
  exact ⟨rfl, hW.trans ((hb2.trans (hb4.mono hb2.size)).mono hW.size)⟩
end Go.Proofs.YtogkbddniacgiaaDoor
