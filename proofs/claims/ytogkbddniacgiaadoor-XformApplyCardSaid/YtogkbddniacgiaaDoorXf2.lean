/- Is it an operation, may it be done; an insert done. Conditions: the model lies in memory; the numbers fit their kinds. -/
import Derived.Test.YtogkbddniacgiaaDoorXf1
import Derived.Test.YtogkbddniacgiaaDoorModel3
namespace Go.Proofs.YtogkbddniacgiaaDoor
set_option linter.unusedSimpArgs false
set_option linter.unusedVariables false
open Go Go.RowKit
def rightOp (o : Opn) : Bool := if o.rep < 0 ∨ 8 ≤ o.rep then false else if o.kind = 1 then rightC o.char else if o.kind = 2 ∨ o.kind = 3 then decide (o.char = 0) else false
def validOp (o : Opn) (n : Int) : Bool := rightOp o && decide (0 ≤ o.at_ ∧ (o.at_ < n ∨ o.at_ = n ∧ o.kind = 1))
set_option maxRecDepth 20000 in
set_option maxHeartbeats 1000000 in
theorem rightOp_any (o : Opn) (w : World) : Calls Tryd.prog 43 #[o.agg] w fun e w' => e = .returned (.bool (rightOp o)) ∧ Below w.heap.size w w' := by
  unfold Opn.agg
  go_enter Tryd.func43, Tryd.ntmps43
  repeat' (first | (with_reducible refine Keep.last ?_) | (with_reducible refine Keep.below (by assumption) ?_) | (with_reducible refine Keep.kept (by assumption) ?_) | (with_reducible refine Keep.alloc ?_) | (with_reducible refine Keep.same ?_) | ((with_reducible refine WpH.here ?_); first | (refine WpH.nil ?_; refine NoP.normal ?_) | (refine WpH.load (by rfl) (by rfl) (by go_simp; rfl) ?_; simp only [Act.put, List.setIfInBounds_toArray, List.set_cons_zero, List.set_cons_succ]) | (refine WpH.loadT (by rfl) (by rfl) (by go_simp; rfl) (by rintro _ _ ⟨⟩; exact ⟨_, _, _, _, _, _, by rfl, by assumption, by assumption⟩) ?_; simp only [Act.put, List.setIfInBounds_toArray, List.set_cons_zero, List.set_cons_succ]) | (refine WpH.pure (by rfl) (fun w_ => by go_simp; (try go_bits); rfl) ?_; simp only [Act.put, List.setIfInBounds_toArray, List.set_cons_zero, List.set_cons_succ]) | (refine WpH.wild1 (by rfl) (fun _ _ => ?_)) | (refine WpH.skip (by rfl) ?_; simp only [Act.put, List.setIfInBounds_toArray, List.set_cons_zero, List.set_cons_succ])) | go_values | go_skip | go_guarded | go_step | go_upon | go_back)
  all_goals
    go_ret
    refine ⟨congrArg (fun x => Ending.returned (.bool x)) ?_, (Below.refl _ _).alloc (Nat.le_refl _) _⟩
    try simp only [beq_iff_eq, beq_eq_false_iff_ne, ne_eq] at *
    unfold rightOp rightC
    first
      | (simp_all; done)
      | (simp_all; omega)
      | (rw [Bool.eq_iff_iff]; simp_all; done)
      | (rw [Bool.eq_iff_iff]; simp_all; omega)
      | (go_goals; fail)
set_option maxRecDepth 20000 in
set_option maxHeartbeats 1000000 in
theorem validOp_any (o : Opn) (n : Int) (w : World) : Calls Tryd.prog 44 #[o.agg, .int .i64 n] w fun e w' => e = .returned (.bool (validOp o n)) ∧ Below w.heap.size w w' := by
  have HR := hid (fun W => rightOp_any o W)
  have b1 : Below w.heap.size w (w.alloc (.cells (opCells o) 58)) := (Below.refl _ _).alloc (Nat.le_refl _) _
  have hx := Blk.new w 58 (opCells o)
  unfold opCells at b1 hx
  cases hr : rightOp o
  · rw [hr] at HR
    have hv : validOp o n = false := by unfold validOp; rw [hr]; rfl
    rw [hv]
    clear hv hr
    unfold Opn.agg at HR ⊢
    go_enter Tryd.func44, Tryd.ntmps44
    repeat' (first | (go_at_call 43; go_must ((with_reducible refine Calls.mono (HR.out _) ?_); rintro _ w1 ⟨rfl, hb1⟩; dsimp only)) | (with_reducible refine Keep.last ?_) | (with_reducible refine Keep.below (by assumption) ?_) | (with_reducible refine Keep.kept (by assumption) ?_) | (with_reducible refine Keep.alloc ?_) | (with_reducible refine Keep.same ?_) | ((with_reducible refine WpH.here ?_); first | (refine WpH.nil ?_; refine NoP.normal ?_) | (refine WpH.load (by rfl) (by rfl) (by go_simp; rfl) ?_; simp only [Act.put, List.setIfInBounds_toArray, List.set_cons_zero, List.set_cons_succ]) | (refine WpH.loadT (by rfl) (by rfl) (by go_simp; rfl) (by rintro _ _ ⟨⟩; exact ⟨_, _, _, _, _, _, by rfl, by assumption, by assumption⟩) ?_; simp only [Act.put, List.setIfInBounds_toArray, List.set_cons_zero, List.set_cons_succ]) | (refine WpH.pure (by rfl) (fun w_ => by go_simp; (try go_bits); rfl) ?_; simp only [Act.put, List.setIfInBounds_toArray, List.set_cons_zero, List.set_cons_succ]) | (refine WpH.wild1 (by rfl) (fun _ _ => ?_)) | (refine WpH.skip (by rfl) ?_; simp only [Act.put, List.setIfInBounds_toArray, List.set_cons_zero, List.set_cons_succ])) | go_values | go_skip | go_guarded | go_step | go_upon | go_back)
    go_ret
    exact ⟨rfl, b1.trans (hb1.mono b1.size)⟩
  · rw [hr] at HR
    have hv : validOp o n = decide (0 ≤ o.at_ ∧ (o.at_ < n ∨ o.at_ = n ∧ o.kind = 1)) := by unfold validOp; rw [hr]; rfl
    rw [hv]
    clear hv hr
    unfold Opn.agg at HR ⊢
    go_enter Tryd.func44, Tryd.ntmps44
    repeat' (first | (go_at_call 43; go_must ((with_reducible refine Calls.mono (HR.out _) ?_); rintro _ w1 ⟨rfl, hb1⟩; have hx1 := hx.step hb1; obtain ⟨x0, x1, x2, x3, -, -, -, -, xl⟩ := hx1.four; dsimp only)) | (with_reducible refine Keep.last ?_) | (with_reducible refine Keep.below (by assumption) ?_) | (with_reducible refine Keep.kept (by assumption) ?_) | (with_reducible refine Keep.alloc ?_) | (with_reducible refine Keep.same ?_) | ((with_reducible refine WpH.here ?_); first | (refine WpH.nil ?_; refine NoP.normal ?_) | (refine WpH.load (by rfl) (by rfl) (by go_simp; rfl) ?_; simp only [Act.put, List.setIfInBounds_toArray, List.set_cons_zero, List.set_cons_succ]) | (refine WpH.loadT (by rfl) (by rfl) (by go_simp; rfl) (by rintro _ _ ⟨⟩; exact ⟨_, _, _, _, _, _, by rfl, by assumption, by assumption⟩) ?_; simp only [Act.put, List.setIfInBounds_toArray, List.set_cons_zero, List.set_cons_succ]) | (refine WpH.pure (by rfl) (fun w_ => by go_simp; (try go_bits); rfl) ?_; simp only [Act.put, List.setIfInBounds_toArray, List.set_cons_zero, List.set_cons_succ]) | (refine WpH.wild1 (by rfl) (fun _ _ => ?_)) | (refine WpH.skip (by rfl) ?_; simp only [Act.put, List.setIfInBounds_toArray, List.set_cons_zero, List.set_cons_succ])) | go_values | go_skip | go_guarded | go_step | go_upon | go_back)
    all_goals
      go_ret
      refine ⟨congrArg (fun x => Ending.returned (.bool x)) ?_, b1.trans (hb1.mono b1.size)⟩
      clear HR x0 x1 x2 x3 b1 hx hb1 hx1
      try simp only [beq_iff_eq, beq_eq_false_iff_ne, ne_eq] at *
      first
        | (simp_all; done)
        | (simp_all; omega)
        | (rw [Bool.eq_iff_iff]; simp_all; done)
        | (rw [Bool.eq_iff_iff]; simp_all; omega)
        | (go_goals; fail)
/-- the element that an insert lays in -/
def insEl (i : Nm) (c : Int) : El := ⟨i.epoch, i.rep, i.num, c, 0⟩
theorem Out.mono {S S' : Nat → Prop} {w w' : World} (h : Out S w w') (hs : ∀ b, b < w.heap.size → S b → S' b) : Out S' w w' := ⟨h.os, h.tape, h.output, h.size, fun k hk hn => h.block k hk (fun h' => hn (hs k hk h'))⟩
/-- what an operation makes of a row; an insert lays in an element of that name -/
def doneOp (l : List El) (o : Opn) (id : Nm) : List El :=
  if o.kind = 1 then l.take o.at_.toNat ++ insEl id o.char :: l.drop o.at_.toNat
  else match l[o.at_.toNat]? with
    | some e => l.set o.at_.toNat (e.hide (if o.kind = 2 then 1 else -1))
    | none => l
/-- may it be done there: it is valid; what it makes is right -/
structure CanDo (l : List El) (o : Opn) (id : Nm) : Prop where
  valid : validOp o l.length = true
  ins : o.kind = 1 → id.In ∧ id ∉ l.map El.nm
  hide : o.kind ≠ 1 → ∀ e, l[o.at_.toNat]? = some e → fairH (e.hides + (if o.kind = 2 then 1 else -1)) = true
theorem validOp_right {o : Opn} {n : Int} (h : validOp o n = true) : rightOp o = true ∧ 0 ≤ o.at_ ∧ (o.at_ < n ∨ o.at_ = n ∧ o.kind = 1) := by
  unfold validOp at h
  rw [Bool.and_eq_true] at h
  exact ⟨h.1, by simpa using h.2⟩
theorem rightOp_kind {o : Opn} (h : rightOp o = true) : o.kind = 1 ∧ rightC o.char = true ∨ o.kind = 2 ∨ o.kind = 3 := by
  unfold rightOp at h
  split at h
  · cases h
  · split at h
    · exact .inl ⟨by assumption, h⟩
    · split at h
      · exact .inr (by assumption)
      · cases h
set_option maxRecDepth 50000 in
set_option maxHeartbeats 2000000 in
theorem apply_ins (w : World) (S : Nat → Prop) (mb : Nat) (l : List El) (K i : Nat) (c r : Int) (id : Nm) (h : Mdl w S mb l K) (hl : l.length ≤ 536870912) (hK : K ≤ 1099511627776) (hi : i ≤ l.length) (hc : rightC c = true) (hro : rightOp ⟨1, i, c, r⟩ = true) (hvo : validOp ⟨1, i, c, r⟩ l.length = true) (hid' : id.In) (hn : id ∉ l.map El.nm) :
    Calls Tryd.prog 67 #[.pointer (some ⟨mb, 0, none⟩), .agg #[.int .i64 1, .int .i64 i, .int .i32 c, .int .i64 r], .agg #[.int .i64 id.epoch, .int .i64 id.rep, .int .i64 id.num]] w fun e w' => e = .returned .nilIface ∧ Mdl w' (Fr w S) mb (l.take i ++ insEl id c :: l.drop i) (K + 1) ∧ Out S w w' := by
  have b1 : Below w.heap.size w ((w.alloc (.cells #[.int .i64 1, .int .i64 i, .int .i32 c, .int .i64 r] 58)).alloc (.cells #[.int .i64 id.epoch, .int .i64 id.rep, .int .i64 id.num] 34)) := ((Below.refl _ _).alloc (Nat.le_refl _) _).alloc (by simp) _
  have s1 : (w.alloc (.cells #[.int .i64 1, .int .i64 i, .int .i32 c, .int .i64 r] 58)).heap.size = w.heap.size + 1 := Array.size_push _
  have hx := (Blk.new w 58 #[.int .i64 1, .int .i64 i, .int .i32 c, .int .i64 r]).alloc (.cells #[.int .i64 id.epoch, .int .i64 id.rep, .int .i64 id.num] 34)
  have hy := Blk.new (w.alloc (.cells #[.int .i64 1, .int .i64 i, .int .i32 c, .int .i64 r] 58)) 34 #[.int .i64 id.epoch, .int .i64 id.rep, .int .i64 id.num]
  rw [s1] at hy
  have HR := hid (fun W => rightOp_any ⟨1, i, c, r⟩ W)
  have HV := hid (fun W => validOp_any ⟨1, i, c, r⟩ l.length W)
  rw [hro] at HR
  rw [hvo] at HV
  unfold Opn.agg at HR HV
  dsimp only at HR HV
  have hM0 := (h.more (S' := fun b => S b ∧ b < w.heap.size) fun b hl hs => ⟨hs, hl⟩).step b1
  have HN := hid new_nil
  clear hro hvo h
  go_enter Tryd.func67, Tryd.ntmps67
  repeat' (first | (go_at_call 43; go_must ((with_reducible refine Calls.mono (HR.out _) ?_); rintro _ w1 ⟨rfl, hb1⟩; have hx1 := hx.step hb1; have hy1 := hy.step hb1; obtain ⟨x0, x1, x2, x3, -, -, -, -, xl⟩ := hx1.four; have hM1 := (hM0.step hb1).keep (w' := w1.drew) (fun _ _ _ => rfl); have HL := hid (mlen_any w1.drew _ mb l K hM1); dsimp only)) | ((with_reducible refine region_at 5 ?_); refine wp_region_order [(0, true, false), (1, true, false), (2, false, false), (3, false, false), (4, true, false), (5, true, false)] (by kernel_rfl) (by kernel_rfl) (by kernel_rfl) rfl rfl ?_) | (go_at_call 108; go_must ((with_reducible refine Calls.mono HL.out ?_); rintro _ _ ⟨rfl, rfl⟩; dsimp only)) | (go_at_call 44; go_must ((with_reducible refine Calls.mono (HV.out _) ?_); rintro _ w2 ⟨rfl, hb2⟩; have hx2 := hx1.drew.step hb2; have hy2 := hy1.drew.step hb2; obtain ⟨u0, u1, u2, u3, -, -, -, -, ul⟩ := hx2.four; have y0 := hy2.cell 0; have y1 := hy2.cell 1; have y2 := hy2.cell 2; simp at y0 y1 y2; have hM2 := hM1.step hb2; have HI := hid (minsert_ok w2 _ mb l K i (insEl id c) hM2 hl hK hi ⟨hc, show fairH 0 = true by decide, hid'⟩ hn); (try (unfold insEl at HI; dsimp only at HI)); dsimp only)) | (go_at_call 109; go_must ((with_reducible refine Calls.mono HI.out ?_); rintro _ w3 ⟨rfl, hM3, hO3⟩; have hx3 := hO3.blk hx2 (fun h => by have := h.2; omega); obtain ⟨v0, v1, v2, v3, -, -, -, -, vl⟩ := hx3.four; dsimp only)) | (go_at_call 72; go_must ((with_reducible refine Calls.mono (HN.out _ _ _ _) ?_); rintro _ _ ⟨rfl, rfl⟩; dsimp only)) | (with_reducible refine Keep.last ?_) | (with_reducible refine Keep.below (by assumption) ?_) | (with_reducible refine Keep.kept (by assumption) ?_) | (with_reducible refine Keep.alloc ?_) | (with_reducible refine Keep.same ?_) | ((with_reducible refine WpH.here ?_); first | (refine WpH.nil ?_; refine NoP.normal ?_) | (refine WpH.load (by rfl) (by rfl) (by go_simp; rfl) ?_; simp only [Act.put, List.setIfInBounds_toArray, List.set_cons_zero, List.set_cons_succ]) | (refine WpH.loadT (by rfl) (by rfl) (by go_simp; rfl) (by rintro _ _ ⟨⟩; exact ⟨_, _, _, _, _, _, by rfl, by assumption, by assumption⟩) ?_; simp only [Act.put, List.setIfInBounds_toArray, List.set_cons_zero, List.set_cons_succ]) | (refine WpH.pure (by rfl) (fun w_ => by go_simp; (try go_bits); rfl) ?_; simp only [Act.put, List.setIfInBounds_toArray, List.set_cons_zero, List.set_cons_succ]) | (refine WpH.wild1 (by rfl) (fun _ _ => ?_)) | (refine WpH.skip (by rfl) ?_; simp only [Act.put, List.setIfInBounds_toArray, List.set_cons_zero, List.set_cons_succ])) | go_values | go_skip | go_guarded | go_step | go_upon | go_back)
  go_ret
  have B2 := b1.trans ((hb1.drew.trans (hb2.mono hb1.size)).mono b1.size)
  refine ⟨rfl, ?_, ((Out.of_below B2).trans hO3 fun b _ h => h).mono fun b _ h => h.1⟩
  refine hM3.more fun b _ h => ?_
  rcases h with h | h
  · exact .inl h.1
  · exact .inr (Nat.le_trans B2.size h)
set_option maxRecDepth 50000 in
set_option maxHeartbeats 2000000 in
theorem apply_era (w : World) (S : Nat → Prop) (mb : Nat) (l : List El) (K i : Nat) (c r : Int) (id : Nm) (e : El) (h : Mdl w S mb l K) (hl : l.length ≤ 536870912) (he : l[i]? = some e) (hf : fairH (e.hides + 1) = true) (hro : rightOp ⟨2, i, c, r⟩ = true) (hvo : validOp ⟨2, i, c, r⟩ l.length = true) :
    Calls Tryd.prog 67 #[.pointer (some ⟨mb, 0, none⟩), .agg #[.int .i64 2, .int .i64 i, .int .i32 c, .int .i64 r], .agg #[.int .i64 id.epoch, .int .i64 id.rep, .int .i64 id.num]] w fun e' w' => e' = .returned .nilIface ∧ Mdl w' (Fr w S) mb (l.set i (e.hide 1)) K ∧ Out S w w' := by
  have He := hid he
  clear he
  have b1 : Below w.heap.size w ((w.alloc (.cells #[.int .i64 2, .int .i64 i, .int .i32 c, .int .i64 r] 58)).alloc (.cells #[.int .i64 id.epoch, .int .i64 id.rep, .int .i64 id.num] 34)) := ((Below.refl _ _).alloc (Nat.le_refl _) _).alloc (by simp) _
  have s1 : (w.alloc (.cells #[.int .i64 2, .int .i64 i, .int .i32 c, .int .i64 r] 58)).heap.size = w.heap.size + 1 := Array.size_push _
  have hx := (Blk.new w 58 #[.int .i64 2, .int .i64 i, .int .i32 c, .int .i64 r]).alloc (.cells #[.int .i64 id.epoch, .int .i64 id.rep, .int .i64 id.num] 34)
  have hy := Blk.new (w.alloc (.cells #[.int .i64 2, .int .i64 i, .int .i32 c, .int .i64 r] 58)) 34 #[.int .i64 id.epoch, .int .i64 id.rep, .int .i64 id.num]
  rw [s1] at hy
  have HR := hid (fun W => rightOp_any ⟨2, i, c, r⟩ W)
  have HV := hid (fun W => validOp_any ⟨2, i, c, r⟩ l.length W)
  rw [hro] at HR
  rw [hvo] at HV
  unfold Opn.agg at HR HV
  dsimp only at HR HV
  have hM0 := (h.more (S' := fun b => S b ∧ b < w.heap.size) fun b hl hs => ⟨hs, hl⟩).step b1
  have HN := hid new_nil
  clear hro hvo h
  go_enter Tryd.func67, Tryd.ntmps67
  repeat' (first | (go_at_call 43; go_must ((with_reducible refine Calls.mono (HR.out _) ?_); rintro _ w1 ⟨rfl, hb1⟩; have hx1 := hx.step hb1; have hy1 := hy.step hb1; obtain ⟨x0, x1, x2, x3, -, -, -, -, xl⟩ := hx1.four; have hM1 := (hM0.step hb1).keep (w' := w1.drew) (fun _ _ _ => rfl); have HL := hid (mlen_any w1.drew _ mb l K hM1); dsimp only)) | ((with_reducible refine region_at 5 ?_); refine wp_region_order [(0, true, false), (1, true, false), (2, false, false), (3, false, false), (4, true, false), (5, true, false)] (by kernel_rfl) (by kernel_rfl) (by kernel_rfl) rfl rfl ?_) | (go_at_call 108; go_must ((with_reducible refine Calls.mono HL.out ?_); rintro _ _ ⟨rfl, rfl⟩; dsimp only)) | (go_at_call 44; go_must ((with_reducible refine Calls.mono (HV.out _) ?_); rintro _ w2 ⟨rfl, hb2⟩; have hx2 := hx1.drew.step hb2; have hy2 := hy1.drew.step hb2; obtain ⟨u0, u1, u2, u3, -, -, -, -, ul⟩ := hx2.four; have y0 := hy2.cell 0; have y1 := hy2.cell 1; have y2 := hy2.cell 2; simp at y0 y1 y2; have hM2 := hM1.step hb2; have HI := hid (madd_ok w2 _ mb l K i e 1 (.inl rfl) hM2 hl He.out hf); (try (unfold insEl at HI; dsimp only at HI)); dsimp only)) | (go_at_call 110; go_must ((with_reducible refine Calls.mono HI.out ?_); rintro _ w3 ⟨rfl, hM3, hO3⟩; have hx3 := hO3.blk hx2 (fun h => by have := h.2; omega); obtain ⟨v0, v1, v2, v3, -, -, -, -, vl⟩ := hx3.four; dsimp only)) | (go_at_call 72; go_must ((with_reducible refine Calls.mono (HN.out _ _ _ _) ?_); rintro _ _ ⟨rfl, rfl⟩; dsimp only)) | (with_reducible refine Keep.last ?_) | (with_reducible refine Keep.below (by assumption) ?_) | (with_reducible refine Keep.kept (by assumption) ?_) | (with_reducible refine Keep.alloc ?_) | (with_reducible refine Keep.same ?_) | ((with_reducible refine WpH.here ?_); first | (refine WpH.nil ?_; refine NoP.normal ?_) | (refine WpH.load (by rfl) (by rfl) (by go_simp; rfl) ?_; simp only [Act.put, List.setIfInBounds_toArray, List.set_cons_zero, List.set_cons_succ]) | (refine WpH.loadT (by rfl) (by rfl) (by go_simp; rfl) (by rintro _ _ ⟨⟩; exact ⟨_, _, _, _, _, _, by rfl, by assumption, by assumption⟩) ?_; simp only [Act.put, List.setIfInBounds_toArray, List.set_cons_zero, List.set_cons_succ]) | (refine WpH.pure (by rfl) (fun w_ => by go_simp; (try go_bits); rfl) ?_; simp only [Act.put, List.setIfInBounds_toArray, List.set_cons_zero, List.set_cons_succ]) | (refine WpH.wild1 (by rfl) (fun _ _ => ?_)) | (refine WpH.skip (by rfl) ?_; simp only [Act.put, List.setIfInBounds_toArray, List.set_cons_zero, List.set_cons_succ])) | go_values | go_skip | go_guarded | go_step | go_upon | go_back)
  go_ret
  have B2 := b1.trans ((hb1.drew.trans (hb2.mono hb1.size)).mono b1.size)
  refine ⟨rfl, ?_, ((Out.of_below B2).trans hO3 fun b _ h => h).mono fun b _ h => h.1⟩
  refine hM3.more fun b _ h => ?_
  rcases h with h | h
  · exact .inl h.1
  · exact .inr (Nat.le_trans B2.size h)
set_option maxRecDepth 50000 in
set_option maxHeartbeats 2000000 in
theorem apply_res (w : World) (S : Nat → Prop) (mb : Nat) (l : List El) (K i : Nat) (c r : Int) (id : Nm) (e : El) (h : Mdl w S mb l K) (hl : l.length ≤ 536870912) (he : l[i]? = some e) (hf : fairH (e.hides + -1) = true) (hro : rightOp ⟨3, i, c, r⟩ = true) (hvo : validOp ⟨3, i, c, r⟩ l.length = true) :
    Calls Tryd.prog 67 #[.pointer (some ⟨mb, 0, none⟩), .agg #[.int .i64 3, .int .i64 i, .int .i32 c, .int .i64 r], .agg #[.int .i64 id.epoch, .int .i64 id.rep, .int .i64 id.num]] w fun e' w' => e' = .returned .nilIface ∧ Mdl w' (Fr w S) mb (l.set i (e.hide (-1))) K ∧ Out S w w' := by
  have He := hid he
  clear he
  have b1 : Below w.heap.size w ((w.alloc (.cells #[.int .i64 3, .int .i64 i, .int .i32 c, .int .i64 r] 58)).alloc (.cells #[.int .i64 id.epoch, .int .i64 id.rep, .int .i64 id.num] 34)) := ((Below.refl _ _).alloc (Nat.le_refl _) _).alloc (by simp) _
  have s1 : (w.alloc (.cells #[.int .i64 3, .int .i64 i, .int .i32 c, .int .i64 r] 58)).heap.size = w.heap.size + 1 := Array.size_push _
  have hx := (Blk.new w 58 #[.int .i64 3, .int .i64 i, .int .i32 c, .int .i64 r]).alloc (.cells #[.int .i64 id.epoch, .int .i64 id.rep, .int .i64 id.num] 34)
  have hy := Blk.new (w.alloc (.cells #[.int .i64 3, .int .i64 i, .int .i32 c, .int .i64 r] 58)) 34 #[.int .i64 id.epoch, .int .i64 id.rep, .int .i64 id.num]
  rw [s1] at hy
  have HR := hid (fun W => rightOp_any ⟨3, i, c, r⟩ W)
  have HV := hid (fun W => validOp_any ⟨3, i, c, r⟩ l.length W)
  rw [hro] at HR
  rw [hvo] at HV
  unfold Opn.agg at HR HV
  dsimp only at HR HV
  have hM0 := (h.more (S' := fun b => S b ∧ b < w.heap.size) fun b hl hs => ⟨hs, hl⟩).step b1
  have HN := hid new_nil
  clear hro hvo h
  go_enter Tryd.func67, Tryd.ntmps67
  repeat' (first | (go_at_call 43; go_must ((with_reducible refine Calls.mono (HR.out _) ?_); rintro _ w1 ⟨rfl, hb1⟩; have hx1 := hx.step hb1; have hy1 := hy.step hb1; obtain ⟨x0, x1, x2, x3, -, -, -, -, xl⟩ := hx1.four; have hM1 := (hM0.step hb1).keep (w' := w1.drew) (fun _ _ _ => rfl); have HL := hid (mlen_any w1.drew _ mb l K hM1); dsimp only)) | ((with_reducible refine region_at 5 ?_); refine wp_region_order [(0, true, false), (1, true, false), (2, false, false), (3, false, false), (4, true, false), (5, true, false)] (by kernel_rfl) (by kernel_rfl) (by kernel_rfl) rfl rfl ?_) | (go_at_call 108; go_must ((with_reducible refine Calls.mono HL.out ?_); rintro _ _ ⟨rfl, rfl⟩; dsimp only)) | (go_at_call 44; go_must ((with_reducible refine Calls.mono (HV.out _) ?_); rintro _ w2 ⟨rfl, hb2⟩; have hx2 := hx1.drew.step hb2; have hy2 := hy1.drew.step hb2; obtain ⟨u0, u1, u2, u3, -, -, -, -, ul⟩ := hx2.four; have y0 := hy2.cell 0; have y1 := hy2.cell 1; have y2 := hy2.cell 2; simp at y0 y1 y2; have hM2 := hM1.step hb2; have HI := hid (madd_ok w2 _ mb l K i e (-1) (.inr rfl) hM2 hl He.out hf); (try (unfold insEl at HI; dsimp only at HI)); dsimp only)) | (go_at_call 110; go_must ((with_reducible refine Calls.mono HI.out ?_); rintro _ w3 ⟨rfl, hM3, hO3⟩; have hx3 := hO3.blk hx2 (fun h => by have := h.2; omega); obtain ⟨v0, v1, v2, v3, -, -, -, -, vl⟩ := hx3.four; dsimp only)) | (go_at_call 72; go_must ((with_reducible refine Calls.mono (HN.out _ _ _ _) ?_); rintro _ _ ⟨rfl, rfl⟩; dsimp only)) | (with_reducible refine Keep.last ?_) | (with_reducible refine Keep.below (by assumption) ?_) | (with_reducible refine Keep.kept (by assumption) ?_) | (with_reducible refine Keep.alloc ?_) | (with_reducible refine Keep.same ?_) | ((with_reducible refine WpH.here ?_); first | (refine WpH.nil ?_; refine NoP.normal ?_) | (refine WpH.load (by rfl) (by rfl) (by go_simp; rfl) ?_; simp only [Act.put, List.setIfInBounds_toArray, List.set_cons_zero, List.set_cons_succ]) | (refine WpH.loadT (by rfl) (by rfl) (by go_simp; rfl) (by rintro _ _ ⟨⟩; exact ⟨_, _, _, _, _, _, by rfl, by assumption, by assumption⟩) ?_; simp only [Act.put, List.setIfInBounds_toArray, List.set_cons_zero, List.set_cons_succ]) | (refine WpH.pure (by rfl) (fun w_ => by go_simp; (try go_bits); rfl) ?_; simp only [Act.put, List.setIfInBounds_toArray, List.set_cons_zero, List.set_cons_succ]) | (refine WpH.wild1 (by rfl) (fun _ _ => ?_)) | (refine WpH.skip (by rfl) ?_; simp only [Act.put, List.setIfInBounds_toArray, List.set_cons_zero, List.set_cons_succ])) | go_values | go_skip | go_guarded | go_step | go_upon | go_back)
  go_ret
  have B2 := b1.trans ((hb1.drew.trans (hb2.mono hb1.size)).mono b1.size)
  refine ⟨rfl, ?_, ((Out.of_below B2).trans hO3 fun b _ h => h).mono fun b _ h => h.1⟩
  refine hM3.more fun b _ h => ?_
  rcases h with h | h
  · exact .inl h.1
  · exact .inr (Nat.le_trans B2.size h)
end Go.Proofs.YtogkbddniacgiaaDoor
