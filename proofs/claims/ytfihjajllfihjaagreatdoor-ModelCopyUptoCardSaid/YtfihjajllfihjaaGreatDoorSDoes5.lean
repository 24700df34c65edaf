/- Chapter 5: one call on a model and on its plain row: the walks. Conditions: the model, its row and the reasons lie in memory, fewer than 2^20 elements. -/
import Derived.Test.YtfihjajllfihjaaGreatDoorSFinds5
import Derived.Test.YtfihjajllfihjaaGreatDoorSRefNo5
import Derived.Test.YtfihjajllfihjaaGreatDoorSMPurge
import Derived.Test.YtfihjajllfihjaaGreatDoorP38
namespace Go.Proofs.YtfihjajllfihjaaGreatDoor
set_option linter.unusedSimpArgs false
set_option linter.unusedVariables false
open Go Go.RowKit
variable {a : Nat → Addr}
theorem Blk.eight5 {w : World} {g : Nat} {t : TypeId} {x0 x1 x2 x3 x4 x5 x6 x7 : Value} (h : Blk w g t #[x0, x1, x2, x3, x4, x5, x6, x7]) : w.cell? ⟨g, 0, none⟩ = some x0 ∧ w.cell? ⟨g, 1, none⟩ = some x1 ∧ w.cell? ⟨g, 2, none⟩ = some x2 ∧ w.cell? ⟨g, 3, none⟩ = some x3 ∧ w.cell? ⟨g, 4, none⟩ = some x4 ∧ w.cell? ⟨g, 5, none⟩ = some x5 ∧ w.cell? ⟨g, 6, none⟩ = some x6 ∧ w.cell? ⟨g, 7, none⟩ = some x7 ∧ g < w.heap.size :=
  ⟨h.cell 0, h.cell 1, h.cell 2, h.cell 3, h.cell 4, h.cell 5, h.cell 6, h.cell 7, h.lt⟩
/-- the pair's row is the old one, or lies in new memory -/
def NewRow (w w' : World) (pb : Nat) (l' : List El) : Prop :=
  w'.cell? ⟨pb, 1, none⟩ = w.cell? ⟨pb, 1, none⟩ ∨ ∃ A c, w'.cell? ⟨pb, 1, none⟩ = some (.slice A l'.length c) ∧ Row w' (fun b => w.heap.size ≤ b) A l'.length c l'
/-- what one call leaves -/
def Did (w w' : World) (pb mb : Nat) (S : Nat → Prop) (l : List El) (K base : Nat) : Prop :=
  ∃ S' l' K', MPair w' pb mb S' l' K' base ∧ l'.length ≤ l.length + 1 ∧ K' ≤ K + 1 ∧ (∀ b, b < w.heap.size → S' b → S b) ∧ Out (fun b => S b ∨ b = pb) w w' ∧ NewRow w w' pb l'
section
variable {w X w' w4 W1 : World} {pb mb K K' base : Nat} {S S' : Nat → Prop} {l l' : List El} {A' : Option Addr} {c' : Nat}
theorem cell_below {b : Nat} {v : Value} {w w' : World} {k : Nat} (hb : Below w.heap.size w w') (h : w.cell? ⟨b, k, none⟩ = some v) : w'.cell? ⟨b, k, none⟩ = w.cell? ⟨b, k, none⟩ := by
  rw [h]
  exact (Same.of_below (S := fun _ => True) hb).cell (a := ⟨b, k, none⟩) trivial h
theorem MPair.row1 (h : MPair w pb mb S l K base) : ∃ A c, w.cell? ⟨pb, 1, none⟩ = some (.slice A l.length c) ∧ Row w (fun b => base ≤ b ∧ b ≠ pb ∧ ¬ S b) A l.length c l := by
  obtain ⟨A, c, hB, hr, -⟩ := h
  have h1 := hB.cell 1
  simp at h1
  exact ⟨A, c, h1, hr⟩
theorem Did.of_below (h : MPair w pb mb S l K base) (hb : Below w.heap.size w w') : Did w w' pb mb S l K base := by
  obtain ⟨A, c, h1, -⟩ := h.row1
  exact ⟨S, l, K, h.step hb, Nat.le_succ _, Nat.le_succ _, fun _ _ h => h, Out.of_below hb, .inl (cell_below hb h1)⟩
theorem Did.via (h : Did X w' pb mb S l K base) (hb : Below w.heap.size w X) (hpb : Hid (pb < w.heap.size) := by assumption) : Did w w' pb mb S l K base := by
  obtain ⟨S', l', K', h1, h2, h3, h4, h5, h6⟩ := h
  refine ⟨S', l', K', h1, h2, h3, fun b hl hs => h4 b (Nat.lt_of_lt_of_le hl hb.size) hs, (Out.of_below hb).trans h5 fun b _ h => h, ?_⟩
  rcases h6 with h6 | ⟨A, c, h6, h7⟩
  · refine .inl (h6.trans ?_)
    unfold World.cell?
    rw [hb.block pb hpb.out]
  · exact .inr ⟨A, c, h6, h7.more fun b _ hz => Nat.le_trans hb.size hz⟩
theorem Did.step (h : Did X w pb mb S l K base) (hb : Below w.heap.size w w') : Did X w' pb mb S l K base := by
  obtain ⟨S', l', K', h1, h2, h3, h4, h5, h6⟩ := h
  refine ⟨S', l', K', h1.step hb, h2, h3, h4, h5.trans (Out.of_below (S := fun b => S b ∨ b = pb) hb) fun b _ h => h, ?_⟩
  obtain ⟨A, c, hc, -⟩ := h1.row1
  rcases h6 with h6 | ⟨A, c, h6, h7⟩
  · exact .inl ((cell_below hb hc).trans h6)
  · exact .inr ⟨A, c, (cell_below hb hc).trans h6, h7.step hb⟩
theorem heap_set_ne {w : World} {p : Addr} {v : Value} {b : Nat} (h : b ≠ p.block) : (w.setCell p v).heap[b]? = w.heap[b]? := Below.heap_setCell _ _ _ _ h
/-- the new row is put down beside the new model -/
theorem did_put {v : Value} {z : Nat} (hz0 : z ≤ X.heap.size) (hP : MPair X pb mb S l K base) (D : Below X.heap.size X W1) {n : Nat} (hrow : Row W1 (fun b => X.heap.size ≤ b ∧ b < W1.heap.size) A' n c' l') (hM : Mdl w4 (Fr W1 (fun b => S b ∧ b < z)) mb l' K') (hO : Out (fun b => S b ∧ b < z) W1 w4) (hll : l'.length ≤ l.length + 1) (hK : K' ≤ K + 1) (hnd : (l'.map El.nm).Nodup)
    (hv : v = .slice A' n c') : Did X (w4.setCell ⟨pb, 1, none⟩ v) pb mb S l K base := by
  subst hv
  obtain rfl : l'.length = n := hrow.1
  obtain ⟨A, c, hB, -, -, hS, hbp, -⟩ := hP
  have hpl := hB.lt
  have hz := D.size
  have hz4 := hO.size
  have hpS : ¬ (S pb ∧ pb < z) := fun h => (hS pb h.1).2 rfl
  have hB4 := hO.blk (hB.step D) hpS
  refine ⟨Fr W1 (fun b => S b ∧ b < z), l', K', ⟨A', c', hB4.set_ 1 (.slice A' l'.length c'), ?_, ?_, ?_, hbp, hnd⟩, hll, hK, fun b hb h => ?_, ?_, ?_⟩
  · refine (hrow.keep (w' := w4.setCell ⟨pb, 1, none⟩ (.slice A' l'.length c')) fun b hb hl => ?_).more fun b _ h => ⟨by omega, by omega, fun h' => ?_⟩
    · rw [heap_set_ne (show b ≠ pb by omega)]
      exact hO.block b hl (fun h' => by omega)
    · rcases h' with h' | h' <;> omega
  · refine hM.keep fun b hl h => heap_set_ne fun e => ?_
    have e : b = pb := e
    subst e
    rcases h with h | h
    · exact hpS h
    · omega
  · intro b h
    rcases h with h | h
    · exact hS b h.1
    · exact ⟨by omega, by omega⟩
  · rcases h with h | h
    · exact h.1
    · omega
  · refine ((Out.of_below (S := fun b => S b ∨ b = pb) D).trans (⟨hO.os, hO.tape, hO.output, hO.size, fun k hk hn => hO.block k hk (fun h => hn (.inl h.1))⟩ : Out (fun b => S b ∨ b = pb) W1 w4) fun b _ h => h).trans (Out.setCell (S := fun b => S b ∨ b = pb) (p := ⟨pb, 1, none⟩) (.inr rfl) _) fun b _ h => h
  · have hc := (hB4.set_ 1 (.slice A' l'.length c')).cell 1
    simp at hc
    refine .inr ⟨A', c', hc, (hrow.keep (w' := w4.setCell ⟨pb, 1, none⟩ (.slice A' l'.length c')) fun b hb hl => ?_).more fun b _ h => h.1⟩
    rw [heap_set_ne (show b ≠ pb by omega)]
    exact hO.block b hl (fun h' => by omega)
/-- the old row is put down again -/
theorem did_same {A : Option Addr} {c : Nat} (hP : MPair X pb mb S l K base) (hA : X.cell? ⟨pb, 1, none⟩ = some (.slice A l.length c)) (D : Below X.heap.size X w4) : Did X (w4.setCell ⟨pb, 1, none⟩ (.slice A l.length c)) pb mb S l K base := by
  obtain ⟨A0, c0, hB, hrow, hM, hS, hbp, hnd⟩ := hP
  have h1 := hB.cell 1
  simp at h1
  rw [hA] at h1
  injection h1 with h1
  injection h1 with h1 h2 h3
  subst h1 h3
  refine ⟨S, l, K, ⟨A, c, (hB.step D).set_ 1 (.slice A l.length c), ?_, ?_, hS, hbp, hnd⟩, Nat.le_succ _, Nat.le_succ _, fun b _ h => h, ?_, ?_⟩
  · exact (hrow.step D).keep (w' := w4.setCell ⟨pb, 1, none⟩ (.slice A l.length c)) fun b hb hl => heap_set_ne hb.2.1
  · exact (hM.step D).keep fun b hl h => heap_set_ne (hS b h).2
  · exact (Out.of_below (S := fun b => S b ∨ b = pb) D).trans (Out.setCell (S := fun b => S b ∨ b = pb) (p := ⟨pb, 1, none⟩) (.inr rfl) _) fun b _ h => h
  · have hc := ((hB.step D).set_ 1 (.slice A l.length c)).cell 1
    simp at hc
    exact .inl (hc.trans hA.symm)
end
theorem ins_length (l : List El) (k : Nat) (e : El) (hk : k ≤ l.length) : (l.take k ++ e :: l.drop k).length = l.length + 1 := by
  rw [List.length_append, List.length_cons, List.length_take, List.length_drop]
  omega
set_option maxRecDepth 200000 in
set_option maxHeartbeats 8000000 in
theorem does0_ok (w : World) (pb mb : Nat) (S S' : Nat → Prop) (l : List El) (K base : Nat) (do_ n : Int) (e : El) (hP : MPair w pb mb S l K base) (hl : l.length ≤ 1048000) (hK : K ≤ 1099511627776) (hs : Sents w S' a) (hsb : ∀ b, S' b → b < base) (hin : e.In) (hd : do_ % 11 = 0) (k : Nat) (hkl : k ≤ l.length) (hw : wrongOf l e = 0) : Calls Tryz.prog 9 #[.pointer (some ⟨pb, 0, none⟩), .agg #[.int .i64 do_, .int .i64 (k : Nat), .int .i64 n, .int .i64 e.epoch, .int .i64 e.rep, .int .i64 e.num, .int .i32 e.char, .int .i64 e.hides]] w fun r w' => r = .returned (.bool true) ∧ Did w w' pb mb S l K base := by
  have B0 : Below w.heap.size w (w.alloc (.cells #[.int .i64 do_, .int .i64 (k : Nat), .int .i64 n, .int .i64 e.epoch, .int .i64 e.rep, .int .i64 e.num, .int .i32 e.char, .int .i64 e.hides] 34)) := balloc (Below.refl _ _)
  have hX := Blk.new w 34 #[.int .i64 do_, .int .i64 (k : Nat), .int .i64 n, .int .i64 e.epoch, .int .i64 e.rep, .int .i64 e.num, .int .i32 e.char, .int .i64 e.hides]
  have hM0 := (hP.mdl.more (S' := fun b => S b ∧ b < w.heap.size) fun b h1 h2 => ⟨h2, h1⟩).step B0
  have hPX := hP.step B0
  have hsX := hs.step B0
  have hwx := B0.size
  have HI := hid (fun W => within_any do_ 11 (by decide) (by decide) W)
  rw [hd] at HI
  have Hpw := hid hP.cell.2
  clear hP hs
  go_enter Tryz.func9, Tryz.ntmps9
  repeat' (first | (with_reducible refine stop_region 1 ?_) | go_values | go_skip | go_guarded | go_step | go_upon | go_back)
  refine Stop.go ?_
  generalize w.alloc (.cells #[.int .i64 do_, .int .i64 (k : Nat), .int .i64 n, .int .i64 e.epoch, .int .i64 e.rep, .int .i64 e.num, .int .i32 e.char, .int .i64 e.hides] 34) = X at *
  obtain ⟨A, c, hB, hrow, hM, hS, hbp, hnd⟩ := hPX
  have hPX : MPair X pb mb S l K base := ⟨A, c, hB, hrow, hM, hS, hbp, hnd⟩
  have HPX := hid hPX
  have Hnd := hid hnd
  have HSn := hid hS
  have hpS : ¬ (S pb ∧ pb < w.heap.size) := fun h => (hS pb h.1).2 rfl
  have hxS : ¬ (S w.heap.size ∧ w.heap.size < w.heap.size) := fun h => Nat.lt_irrefl _ h.2
  have hpl := hB.lt
  have hA1 := hB.cell 1
  simp at hA1
  have HA1 := hid hA1
  have Hsb := hid (fun b (h : S' b) => (by have := hsb b h; omega : b < pb ∧ b < X.heap.size))
  clear hnd hS hA1 hsb hPX
  have D0 := Below.refl X.heap.size X
  have kk := hB.step D0; have p0 := kk.cell 0; have p1 := kk.cell 1; have pf1 := kk.frozen 1; have pl := kk.lt; simp at p0 p1; clear kk; have kx := hX.step D0; obtain ⟨x0, x1, x2, x3, x4, x5, x6, x7, xl⟩ := kx.eight5; clear kx
  have hgood : e.Good ∧ e.nm ∉ l.map El.nm := by
    rw [wrongOf_eq] at hw
    rcases wrongS_cases (l.map El.nm) e with ⟨h, _⟩ | ⟨h, _⟩ | ⟨h, _⟩ | ⟨_, h1, h2, h3⟩
    · omega
    · omega
    · omega
    · exact ⟨⟨h1, h2, ⟨hin.1, hin.2.1, hin.2.2.1⟩⟩, h3⟩
  have hnd' : ((l.take k ++ e :: l.drop k).map El.nm).Nodup := by
    rw [List.map_append, List.map_cons]
    have h1 := Hnd.out
    rw [← List.take_append_drop k l, List.map_append] at h1
    have h2 := hgood.2
    rw [← List.take_append_drop k l, List.map_append, List.mem_append, not_or] at h2
    rw [List.nodup_append] at h1 ⊢
    refine ⟨h1.1, List.nodup_cons.2 ⟨h2.2, h1.2.1⟩, fun x hx y hy => ?_⟩
    rcases List.mem_cons.1 hy with hy | hy
    · intro he
      exact h2.1 (hy ▸ he ▸ hx)
    · exact h1.2.2 x hx y hy
  have HR := hid (fun W (hb : Below X.heap.size X W) => refInsert_ok A l.length c k l _ e W (hrow.step hb) (by omega) hkl hw)
  have HM := hid (fun W (hb : Below X.heap.size X W) => minsert_ok W _ mb l K k e (hM0.step hb) (by omega) hK hkl hgood.1 hgood.2)
  have hlen := ins_length l k e hkl
  have Hlen := hid hlen
  have Hnd' := hid hnd'
  clear hM0 hM hrow hgood hnd' hw hlen
  have hTB := Blk.new X 69 #[.int .i64 0, .slice none 0 0, .slice none 0 0]
  have Hsz := hid (show X.heap.size < (X.alloc (.cells #[.int .i64 0, .slice none 0 0, .slice none 0 0] 69)).drew.heap.size by show _ < (X.heap.push _).size; rw [Array.size_push]; exact Nat.lt_succ_self _)
  have HF0 := hid refused_none
  unfold noNone at HF0 HR
  repeat' (first | (go_at_call 32; go_must ((with_reducible refine Calls.mono (HI.out _) ?_); rintro _ _ ⟨rfl, rfl⟩; dsimp only)) | (go_at_call 33; go_must ((with_reducible refine Calls.mono (HR.out _ (by (repeat' (first | (with_reducible exact Below.refl _ _) | (with_reducible assumption) | (with_reducible refine balloc ?_) | (with_reducible refine bdrew ?_) | (with_reducible refine bset ?_ (by (try dsimp only); omega)) | (with_reducible refine bvia ?_ (by assumption)))))) ?_); rintro _ w1 ⟨A', c', rfl, hown, hb1⟩; have D1 := bvia (show Below X.heap.size X _ by (repeat' (first | (with_reducible exact Below.refl _ _) | (with_reducible assumption) | (with_reducible refine balloc ?_) | (with_reducible refine bdrew ?_) | (with_reducible refine bset ?_ (by (try dsimp only); omega)) | (with_reducible refine bvia ?_ (by assumption))))) hb1; (try (have hT1 := hTB.drew.step hb1; have t0 := hT1.cell 0; have t1 := hT1.cell 1; have t2 := hT1.cell 2; have tf0 := hT1.frozen 0; have tf1 := hT1.frozen 1; have tf2 := hT1.frozen 2; have tl := hT1.lt; simp at t0 t1 t2)); dsimp only)) | (with_reducible refine Keep.allocD ?_) | ((with_reducible refine region_at 4 ?_); refine wp_region_ordT (fun _ => True) (.one 0 true false (.one 1 true false (.one 2 true false (.one 3 true false (.one 4 true false (.one 5 true false (.one 6 true false (.one 7 true false (.two 8 12 (.one 9 true false (.one 10 true false (.one 11 true false (.one 12 false false (.one 13 true false (.one 14 false true .nil)))))) (.one 8 false false (.one 9 true false (.one 10 true false (.one 11 true false (.one 13 true false (.one 14 false true .nil))))))))))))))) (by kernel_rfl) (by kernel_rfl) (by kernel_rfl) rfl rfl ?_) | (with_reducible refine stop_region 5 ?_) | (with_reducible refine Keep.last ?_) | (with_reducible refine Keep.below (by assumption) ?_) | (with_reducible refine Keep.kept (by assumption) ?_) | (with_reducible refine Keep.alloc ?_) | (with_reducible refine Keep.same ?_) | ((with_reducible refine WpH.here ?_); first | (refine WpH.nil ?_; refine NoP.normal ?_) | (refine WpH.load (by rfl) (by rfl) (by go_simp; rfl) ?_; simp only [Act.put, List.setIfInBounds_toArray, List.set_cons_zero, List.set_cons_succ]) | (refine WpH.loadT (by rfl) (by rfl) (by go_simp; rfl) (by rintro _ _ ⟨⟩; exact ⟨_, _, _, _, _, _, by rfl, by assumption, by assumption⟩) ?_; simp only [Act.put, List.setIfInBounds_toArray, List.set_cons_zero, List.set_cons_succ]) | (refine WpH.pure (by rfl) (fun w_ => by go_simp; (try go_bits); rfl) ?_; simp only [Act.put, List.setIfInBounds_toArray, List.set_cons_zero, List.set_cons_succ]) | (refine WpH.wild1 (by rfl) (fun _ _ => ?_)) | (refine WpH.skip (by rfl) ?_; simp only [Act.put, List.setIfInBounds_toArray, List.set_cons_zero, List.set_cons_succ])) | ((with_reducible refine WpO.here ?_); first | (refine WpO.done ?_; first | refine NoP.normal ?_ | refine NoO.normal ?_) | (refine WpO.load (by rfl) (by rfl) (by go_simp; rfl) ?_; simp only [Act.put, List.setIfInBounds_toArray, List.set_cons_zero, List.set_cons_succ]) | (refine WpO.loadT (by rfl) (by rfl) (by go_simp; rfl) (by rintro _ _ ⟨⟩; exact ⟨_, _, _, _, _, _, by rfl, by assumption, by assumption⟩) ?_; simp only [Act.put, List.setIfInBounds_toArray, List.set_cons_zero, List.set_cons_succ]) | (refine WpO.pure (by rfl) (fun w_ => by go_simp; (try go_bits); rfl) ?_; simp only [Act.put, List.setIfInBounds_toArray, List.set_cons_zero, List.set_cons_succ]) | (refine WpO.skip (by rfl) ?_; simp only [Act.put, List.setIfInBounds_toArray, List.set_cons_zero, List.set_cons_succ]) | refine WpO.wild ?_ | refine WpO.two ?_ ?_ | refine WpO.three ?_ ?_ ?_) | ((with_reducible refine wildO.here ?_); first | (refine wildO.go (by rfl) (fun _ _ => ?_)) | (refine wildO.skip (by rfl) ?_; simp only [Act.put, List.setIfInBounds_toArray, List.set_cons_zero, List.set_cons_succ])) | go_values | go_skip | go_guarded | go_step | go_upon | go_back)
  skip
  all_goals
    refine Stop.go ?_
    first
    | (have hb1A : Below X.drew.heap.size X.drew w1 := (by with_reducible exact hb1); have eW := balloc (o := (.cells #[(.int .i64 0), (.slice none 0 0), (.slice none 0 0)] 69)) (Below.refl _ w1); have hT := Blk.new w1 69 #[(.int .i64 0), (.slice none 0 0), (.slice none 0 0)]; have D := bvia D1 eW; have htx : X.heap.size ≤ w1.heap.size := D1.size; have hrow1 := ((hown.row (S := fun b => X.heap.size ≤ b ∧ b < w1.heap.size) fun b h1 h2 => ⟨h1, h2⟩).step eW).more (S' := fun b => X.heap.size ≤ b ∧ b < (w1.alloc (.cells #[.int .i64 0, .slice none 0 0, .slice none 0 0] 69)).heap.size) (fun b h1 h2 => ⟨h2.1, h1⟩); clear eW hb1A; generalize w1.alloc (.cells #[(.int .i64 0), (.slice none 0 0), (.slice none 0 0)] 69) = W1 at *; generalize w1.heap.size = tb at *)
    | (have hT : Blk (((w1.setCell ⟨X.heap.size, 0, none⟩ (.int .i64 0)).setCell ⟨X.heap.size, 1, none⟩ (.slice none 0 0)).setCell ⟨X.heap.size, 2, none⟩ (.slice none 0 0)) X.heap.size 69 #[(.int .i64 0), (.slice none 0 0), (.slice none 0 0)] := ((hT1.set_ 0 _).set_ 1 _).set_ 2 _; have D : Below X.heap.size X (((w1.setCell ⟨X.heap.size, 0, none⟩ (.int .i64 0)).setCell ⟨X.heap.size, 1, none⟩ (.slice none 0 0)).setCell ⟨X.heap.size, 2, none⟩ (.slice none 0 0)) := bset (bset (bset D1 (Nat.le_refl _)) (Nat.le_refl _)) (Nat.le_refl _); have htx : X.heap.size ≤ X.heap.size := Nat.le_refl _; have hrow1 := ((hown.row (S := fun b => X.heap.size < b ∧ b < w1.heap.size) fun b h1 h2 => ⟨Nat.lt_of_lt_of_le Hsz.out h1, h2⟩).keep (w' := ((w1.setCell ⟨X.heap.size, 0, none⟩ (.int .i64 0)).setCell ⟨X.heap.size, 1, none⟩ (.slice none 0 0)).setCell ⟨X.heap.size, 2, none⟩ (.slice none 0 0)) (fun b hb hl => (by rw [heap_set_ne (show b ≠ X.heap.size by omega), heap_set_ne (show b ≠ X.heap.size by omega), heap_set_ne (show b ≠ X.heap.size by omega)]))).more (S' := fun b => X.heap.size ≤ b ∧ b < (((w1.setCell ⟨X.heap.size, 0, none⟩ (.int .i64 0)).setCell ⟨X.heap.size, 1, none⟩ (.slice none 0 0)).setCell ⟨X.heap.size, 2, none⟩ (.slice none 0 0)).heap.size) (fun b h1 h2 => ⟨Nat.le_of_lt h2.1, h1⟩); clear hT1 t0 t1 t2 tf0 tf1 tf2 tl; generalize ((w1.setCell ⟨X.heap.size, 0, none⟩ (.int .i64 0)).setCell ⟨X.heap.size, 1, none⟩ (.slice none 0 0)).setCell ⟨X.heap.size, 2, none⟩ (.slice none 0 0) = W1 at *)
    clear hb1 D1
    clear p0 p1 pf1 pl x0 x1 x2 x3 x4 x5 x6 x7 xl
    have hWX := D.size
    have htl := hT.lt
    have hDd := D.drew
    have kk := hB.step hDd; have p0 := kk.cell 0; have p1 := kk.cell 1; have pf1 := kk.frozen 1; have pl := kk.lt; simp at p0 p1; clear kk; have kx := hX.step hDd; obtain ⟨x0, x1, x2, x3, x4, x5, x6, x7, xl⟩ := kx.eight5; clear kx
    have Hrow1 := hid hrow1
    clear hrow1 hown
    have qp : W1.drew.heap[pb]? = some (.cells #[.pointer (some ⟨mb, 0, none⟩), .slice A l.length c] 37 (0, 0)) := hB.step hDd
    have qx : W1.drew.heap[w.heap.size]? = some (.cells #[.int .i64 do_, .int .i64 (k : Nat), .int .i64 n, .int .i64 e.epoch, .int .i64 e.rep, .int .i64 e.num, .int .i32 e.char, .int .i64 e.hides] 34 (0, 0)) := hX.step hDd
    repeat' (first | ((with_reducible refine region_at 5 ?_); refine wp_region_orderT (fun b => ¬ (S b ∧ b < w.heap.size)) [(0, true, false), (1, true, false), (2, true, false), (3, true, false), (4, true, false), (5, true, false), (6, true, false), (7, true, false), (8, false, false), (9, true, false)] (by kernel_rfl) (by kernel_rfl) (by kernel_rfl) rfl rfl ?_) | (go_at_call 34; go_must ((with_reducible refine Calls.mono (HM.out _ hDd) ?_); rintro _ w4 ⟨rfl, hM4, hO4⟩; have hk4 : KeepT (fun b => ¬ (S b ∧ b < w.heap.size)) W1.drew w4 := ⟨hO4.size, fun b h1 h2 => hO4.block b h1 h2⟩; have hB4 := hO4.blk (hB.step hDd) hpS; have p0 := hB4.cell 0; have p1 := hB4.cell 1; have pf1 := hB4.frozen 1; have pl := hB4.lt; simp at p0 p1; dsimp only)) | (with_reducible refine stop_region 7 ?_) | (with_reducible refine Keep.last ?_) | (with_reducible refine Keep.below (by assumption) ?_) | (with_reducible refine Keep.kept (by assumption) ?_) | (with_reducible refine Keep.alloc ?_) | (with_reducible refine Keep.same ?_) | ((with_reducible refine WpH.here ?_); first | (refine WpH.nil ?_; refine NoP.normal ?_) | (refine WpH.load (by rfl) (by rfl) (by go_simp; rfl) ?_; simp only [Act.put, List.setIfInBounds_toArray, List.set_cons_zero, List.set_cons_succ]) | (refine WpH.loadT (by rfl) (by rfl) (by go_simp; rfl) (by rintro _ _ ⟨⟩; exact ⟨_, _, _, _, _, _, by rfl, by assumption, by assumption⟩) ?_; simp only [Act.put, List.setIfInBounds_toArray, List.set_cons_zero, List.set_cons_succ]) | (refine WpH.pure (by rfl) (fun w_ => by go_simp; (try go_bits); rfl) ?_; simp only [Act.put, List.setIfInBounds_toArray, List.set_cons_zero, List.set_cons_succ]) | (refine WpH.wild1 (by rfl) (fun _ _ => ?_)) | (refine WpH.skip (by rfl) ?_; simp only [Act.put, List.setIfInBounds_toArray, List.set_cons_zero, List.set_cons_succ])) | ((with_reducible refine WpO.here ?_); first | (refine WpO.done ?_; first | refine NoP.normal ?_ | refine NoO.normal ?_) | (refine WpO.load (by rfl) (by rfl) (by go_simp; rfl) ?_; simp only [Act.put, List.setIfInBounds_toArray, List.set_cons_zero, List.set_cons_succ]) | (refine WpO.loadT (by rfl) (by rfl) (by go_simp; rfl) (by rintro _ _ ⟨⟩; exact ⟨_, _, _, _, _, _, by rfl, by assumption, by assumption⟩) ?_; simp only [Act.put, List.setIfInBounds_toArray, List.set_cons_zero, List.set_cons_succ]) | (refine WpO.pure (by rfl) (fun w_ => by go_simp; (try go_bits); rfl) ?_; simp only [Act.put, List.setIfInBounds_toArray, List.set_cons_zero, List.set_cons_succ]) | (refine WpO.skip (by rfl) ?_; simp only [Act.put, List.setIfInBounds_toArray, List.set_cons_zero, List.set_cons_succ]) | refine WpO.wild ?_ | refine WpO.two ?_ ?_ | refine WpO.three ?_ ?_ ?_) | ((with_reducible refine wildO.here ?_); first | (refine wildO.go (by rfl) (fun _ _ => ?_)) | (refine wildO.skip (by rfl) ?_; simp only [Act.put, List.setIfInBounds_toArray, List.set_cons_zero, List.set_cons_succ])) | go_values | go_skip | go_guarded | go_step | go_upon | go_back)
    skip
    refine Stop.go ?_
    have hT6 := (hO4.blk hT.drew (fun h => by have := h.2; omega)).far (p := ⟨pb, 1, none⟩) (by dsimp only; omega) (.slice A' (l.length + 1) c')
    have hDid := did_put (v := .slice A' (l.length + 1) c') hwx HPX.out hDd (Hrow1.out.drew) hM4 hO4 (by rw [Hlen.out]; exact Nat.le_refl _) (Nat.le_refl _) Hnd'.out rfl
    clear p0 p1 pf1 pl hB4 hM4 hO4
    generalize w4.setCell ⟨pb, 1, none⟩ (.slice A' (l.length + 1) c') = W6 at *
    have t0 := hT6.cell 0; have t1 := hT6.cell 1; have t2 := hT6.cell 2; have tl := hT6.lt; simp at t0 t1 t2
    repeat' (first | (go_at_call 30; go_must ((with_reducible refine Calls.mono (HF0.out _) ?_); rintro _ w9 ⟨rfl, hb9⟩; dsimp only)) | go_values | go_skip | go_guarded | go_step | go_upon | go_back)
    skip
    go_ret
    exact ⟨rfl, (hDid.step hb9).via B0⟩
set_option maxRecDepth 200000 in
set_option maxHeartbeats 8000000 in
theorem does1_ok (w : World) (pb mb : Nat) (S S' : Nat → Prop) (l : List El) (K base : Nat) (do_ n : Int) (e : El) (hP : MPair w pb mb S l K base) (hl : l.length ≤ 1048000) (hK : K ≤ 1099511627776) (hs : Sents w S' a) (hsb : ∀ b, S' b → b < base) (hin : e.In) (hd : do_ % 11 = 1) (k : Nat) (e0 : El) (he0 : l[k]? = some e0) (hn1 : n = 1 ∨ n = -1) (hf : fairH (e0.hides + n) = true) : Calls Tryz.prog 9 #[.pointer (some ⟨pb, 0, none⟩), .agg #[.int .i64 do_, .int .i64 (k : Nat), .int .i64 n, .int .i64 e.epoch, .int .i64 e.rep, .int .i64 e.num, .int .i32 e.char, .int .i64 e.hides]] w fun r w' => r = .returned (.bool true) ∧ Did w w' pb mb S l K base := by
  have B0 : Below w.heap.size w (w.alloc (.cells #[.int .i64 do_, .int .i64 (k : Nat), .int .i64 n, .int .i64 e.epoch, .int .i64 e.rep, .int .i64 e.num, .int .i32 e.char, .int .i64 e.hides] 34)) := balloc (Below.refl _ _)
  have hX := Blk.new w 34 #[.int .i64 do_, .int .i64 (k : Nat), .int .i64 n, .int .i64 e.epoch, .int .i64 e.rep, .int .i64 e.num, .int .i32 e.char, .int .i64 e.hides]
  have hM0 := (hP.mdl.more (S' := fun b => S b ∧ b < w.heap.size) fun b h1 h2 => ⟨h2, h1⟩).step B0
  have hPX := hP.step B0
  have hsX := hs.step B0
  have hwx := B0.size
  have HI := hid (fun W => within_any do_ 11 (by decide) (by decide) W)
  rw [hd] at HI
  have Hpw := hid hP.cell.2
  clear hP hs
  go_enter Tryz.func9, Tryz.ntmps9
  repeat' (first | (with_reducible refine stop_region 1 ?_) | go_values | go_skip | go_guarded | go_step | go_upon | go_back)
  refine Stop.go ?_
  generalize w.alloc (.cells #[.int .i64 do_, .int .i64 (k : Nat), .int .i64 n, .int .i64 e.epoch, .int .i64 e.rep, .int .i64 e.num, .int .i32 e.char, .int .i64 e.hides] 34) = X at *
  obtain ⟨A, c, hB, hrow, hM, hS, hbp, hnd⟩ := hPX
  have hPX : MPair X pb mb S l K base := ⟨A, c, hB, hrow, hM, hS, hbp, hnd⟩
  have HPX := hid hPX
  have Hnd := hid hnd
  have HSn := hid hS
  have hpS : ¬ (S pb ∧ pb < w.heap.size) := fun h => (hS pb h.1).2 rfl
  have hxS : ¬ (S w.heap.size ∧ w.heap.size < w.heap.size) := fun h => Nat.lt_irrefl _ h.2
  have hpl := hB.lt
  have hA1 := hB.cell 1
  simp at hA1
  have HA1 := hid hA1
  have Hsb := hid (fun b (h : S' b) => (by have := hsb b h; omega : b < pb ∧ b < X.heap.size))
  clear hnd hS hA1 hsb hPX
  have D0 := Below.refl X.heap.size X
  have kk := hB.step D0; have p0 := kk.cell 0; have p1 := kk.cell 1; have pf1 := kk.frozen 1; have pl := kk.lt; simp at p0 p1; clear kk; have kx := hX.step D0; obtain ⟨x0, x1, x2, x3, x4, x5, x6, x7, xl⟩ := kx.eight5; clear kx
  have hnd' : ((l.set k (e0.hide n)).map El.nm).Nodup := by rw [map_nm_set _ _ _ _ he0]; exact Hnd.out
  have HR := hid (fun W (hb : Below X.heap.size X W) => refAdd_ok A l.length c k l _ e0 n hn1 W (hrow.step hb) (by omega) he0 hf)
  have HM := hid (fun W (hb : Below X.heap.size X W) => madd_ok W _ mb l K k e0 n hn1 (hM0.step hb) (by omega) he0 hf)
  have Hnd' := hid hnd'
  clear hM0 hM hrow hnd' he0 hf
  have hTB := Blk.new X 69 #[.int .i64 0, .slice none 0 0, .slice none 0 0]
  have Hsz := hid (show X.heap.size < (X.alloc (.cells #[.int .i64 0, .slice none 0 0, .slice none 0 0] 69)).drew.heap.size by show _ < (X.heap.push _).size; rw [Array.size_push]; exact Nat.lt_succ_self _)
  have HF0 := hid refused_none
  unfold noNone at HF0 HR
  repeat' (first | (go_at_call 32; go_must ((with_reducible refine Calls.mono (HI.out _) ?_); rintro _ _ ⟨rfl, rfl⟩; dsimp only)) | (go_at_call 35; go_must ((with_reducible refine Calls.mono (HR.out _ (by (repeat' (first | (with_reducible exact Below.refl _ _) | (with_reducible assumption) | (with_reducible refine balloc ?_) | (with_reducible refine bdrew ?_) | (with_reducible refine bset ?_ (by (try dsimp only); omega)) | (with_reducible refine bvia ?_ (by assumption)))))) ?_); rintro _ w1 ⟨A', c', rfl, hown, hb1⟩; have D1 := bvia (show Below X.heap.size X _ by (repeat' (first | (with_reducible exact Below.refl _ _) | (with_reducible assumption) | (with_reducible refine balloc ?_) | (with_reducible refine bdrew ?_) | (with_reducible refine bset ?_ (by (try dsimp only); omega)) | (with_reducible refine bvia ?_ (by assumption))))) hb1; (try (have hT1 := hTB.drew.step hb1; have t0 := hT1.cell 0; have t1 := hT1.cell 1; have t2 := hT1.cell 2; have tf0 := hT1.frozen 0; have tf1 := hT1.frozen 1; have tf2 := hT1.frozen 2; have tl := hT1.lt; simp at t0 t1 t2)); dsimp only)) | (with_reducible refine Keep.allocD ?_) | ((with_reducible refine region_at 9 ?_); refine wp_region_ordT (fun _ => True) (.one 0 true false (.one 1 true false (.one 2 true false (.one 3 true false (.one 4 true false (.one 5 true false (.one 6 true false (.one 7 true false (.two 8 12 (.one 9 true false (.one 10 true false (.one 11 true false (.one 12 false false (.one 13 true false (.one 14 false true .nil)))))) (.one 8 false false (.one 9 true false (.one 10 true false (.one 11 true false (.one 13 true false (.one 14 false true .nil))))))))))))))) (by kernel_rfl) (by kernel_rfl) (by kernel_rfl) rfl rfl ?_) | (with_reducible refine stop_region 10 ?_) | (with_reducible refine Keep.last ?_) | (with_reducible refine Keep.below (by assumption) ?_) | (with_reducible refine Keep.kept (by assumption) ?_) | (with_reducible refine Keep.alloc ?_) | (with_reducible refine Keep.same ?_) | ((with_reducible refine WpH.here ?_); first | (refine WpH.nil ?_; refine NoP.normal ?_) | (refine WpH.load (by rfl) (by rfl) (by go_simp; rfl) ?_; simp only [Act.put, List.setIfInBounds_toArray, List.set_cons_zero, List.set_cons_succ]) | (refine WpH.loadT (by rfl) (by rfl) (by go_simp; rfl) (by rintro _ _ ⟨⟩; exact ⟨_, _, _, _, _, _, by rfl, by assumption, by assumption⟩) ?_; simp only [Act.put, List.setIfInBounds_toArray, List.set_cons_zero, List.set_cons_succ]) | (refine WpH.pure (by rfl) (fun w_ => by go_simp; (try go_bits); rfl) ?_; simp only [Act.put, List.setIfInBounds_toArray, List.set_cons_zero, List.set_cons_succ]) | (refine WpH.wild1 (by rfl) (fun _ _ => ?_)) | (refine WpH.skip (by rfl) ?_; simp only [Act.put, List.setIfInBounds_toArray, List.set_cons_zero, List.set_cons_succ])) | ((with_reducible refine WpO.here ?_); first | (refine WpO.done ?_; first | refine NoP.normal ?_ | refine NoO.normal ?_) | (refine WpO.load (by rfl) (by rfl) (by go_simp; rfl) ?_; simp only [Act.put, List.setIfInBounds_toArray, List.set_cons_zero, List.set_cons_succ]) | (refine WpO.loadT (by rfl) (by rfl) (by go_simp; rfl) (by rintro _ _ ⟨⟩; exact ⟨_, _, _, _, _, _, by rfl, by assumption, by assumption⟩) ?_; simp only [Act.put, List.setIfInBounds_toArray, List.set_cons_zero, List.set_cons_succ]) | (refine WpO.pure (by rfl) (fun w_ => by go_simp; (try go_bits); rfl) ?_; simp only [Act.put, List.setIfInBounds_toArray, List.set_cons_zero, List.set_cons_succ]) | (refine WpO.skip (by rfl) ?_; simp only [Act.put, List.setIfInBounds_toArray, List.set_cons_zero, List.set_cons_succ]) | refine WpO.wild ?_ | refine WpO.two ?_ ?_ | refine WpO.three ?_ ?_ ?_) | ((with_reducible refine wildO.here ?_); first | (refine wildO.go (by rfl) (fun _ _ => ?_)) | (refine wildO.skip (by rfl) ?_; simp only [Act.put, List.setIfInBounds_toArray, List.set_cons_zero, List.set_cons_succ])) | go_values | go_skip | go_guarded | go_step | go_upon | go_back)
  skip
  all_goals
    refine Stop.go ?_
    first
    | (have hb1A : Below X.drew.heap.size X.drew w1 := (by with_reducible exact hb1); have eW := balloc (o := (.cells #[(.int .i64 0), (.slice none 0 0), (.slice none 0 0)] 69)) (Below.refl _ w1); have hT := Blk.new w1 69 #[(.int .i64 0), (.slice none 0 0), (.slice none 0 0)]; have D := bvia D1 eW; have htx : X.heap.size ≤ w1.heap.size := D1.size; have hrow1 := ((hown.row (S := fun b => X.heap.size ≤ b ∧ b < w1.heap.size) fun b h1 h2 => ⟨h1, h2⟩).step eW).more (S' := fun b => X.heap.size ≤ b ∧ b < (w1.alloc (.cells #[.int .i64 0, .slice none 0 0, .slice none 0 0] 69)).heap.size) (fun b h1 h2 => ⟨h2.1, h1⟩); clear eW hb1A; generalize w1.alloc (.cells #[(.int .i64 0), (.slice none 0 0), (.slice none 0 0)] 69) = W1 at *; generalize w1.heap.size = tb at *)
    | (have hT : Blk (((w1.setCell ⟨X.heap.size, 0, none⟩ (.int .i64 0)).setCell ⟨X.heap.size, 1, none⟩ (.slice none 0 0)).setCell ⟨X.heap.size, 2, none⟩ (.slice none 0 0)) X.heap.size 69 #[(.int .i64 0), (.slice none 0 0), (.slice none 0 0)] := ((hT1.set_ 0 _).set_ 1 _).set_ 2 _; have D : Below X.heap.size X (((w1.setCell ⟨X.heap.size, 0, none⟩ (.int .i64 0)).setCell ⟨X.heap.size, 1, none⟩ (.slice none 0 0)).setCell ⟨X.heap.size, 2, none⟩ (.slice none 0 0)) := bset (bset (bset D1 (Nat.le_refl _)) (Nat.le_refl _)) (Nat.le_refl _); have htx : X.heap.size ≤ X.heap.size := Nat.le_refl _; have hrow1 := ((hown.row (S := fun b => X.heap.size < b ∧ b < w1.heap.size) fun b h1 h2 => ⟨Nat.lt_of_lt_of_le Hsz.out h1, h2⟩).keep (w' := ((w1.setCell ⟨X.heap.size, 0, none⟩ (.int .i64 0)).setCell ⟨X.heap.size, 1, none⟩ (.slice none 0 0)).setCell ⟨X.heap.size, 2, none⟩ (.slice none 0 0)) (fun b hb hl => (by rw [heap_set_ne (show b ≠ X.heap.size by omega), heap_set_ne (show b ≠ X.heap.size by omega), heap_set_ne (show b ≠ X.heap.size by omega)]))).more (S' := fun b => X.heap.size ≤ b ∧ b < (((w1.setCell ⟨X.heap.size, 0, none⟩ (.int .i64 0)).setCell ⟨X.heap.size, 1, none⟩ (.slice none 0 0)).setCell ⟨X.heap.size, 2, none⟩ (.slice none 0 0)).heap.size) (fun b h1 h2 => ⟨Nat.le_of_lt h2.1, h1⟩); clear hT1 t0 t1 t2 tf0 tf1 tf2 tl; generalize ((w1.setCell ⟨X.heap.size, 0, none⟩ (.int .i64 0)).setCell ⟨X.heap.size, 1, none⟩ (.slice none 0 0)).setCell ⟨X.heap.size, 2, none⟩ (.slice none 0 0) = W1 at *)
    clear hb1 D1
    clear p0 p1 pf1 pl x0 x1 x2 x3 x4 x5 x6 x7 xl
    have hWX := D.size
    have htl := hT.lt
    have hDd := D.drew
    have kk := hB.step hDd; have p0 := kk.cell 0; have p1 := kk.cell 1; have pf1 := kk.frozen 1; have pl := kk.lt; simp at p0 p1; clear kk; have kx := hX.step hDd; obtain ⟨x0, x1, x2, x3, x4, x5, x6, x7, xl⟩ := kx.eight5; clear kx
    have Hrow1 := hid hrow1
    clear hrow1 hown
    have qp : W1.drew.heap[pb]? = some (.cells #[.pointer (some ⟨mb, 0, none⟩), .slice A l.length c] 37 (0, 0)) := hB.step hDd
    have qx : W1.drew.heap[w.heap.size]? = some (.cells #[.int .i64 do_, .int .i64 (k : Nat), .int .i64 n, .int .i64 e.epoch, .int .i64 e.rep, .int .i64 e.num, .int .i32 e.char, .int .i64 e.hides] 34 (0, 0)) := hX.step hDd
    repeat' (first | ((with_reducible refine region_at 10 ?_); refine wp_region_orderT (fun b => ¬ (S b ∧ b < w.heap.size)) [(0, true, false), (1, true, false), (2, true, false), (3, true, false), (4, true, false), (5, true, false), (6, true, false), (7, true, false), (8, false, false), (9, true, false)] (by kernel_rfl) (by kernel_rfl) (by kernel_rfl) rfl rfl ?_) | (go_at_call 36; go_must ((with_reducible refine Calls.mono (HM.out _ hDd) ?_); rintro _ w4 ⟨rfl, hM4, hO4⟩; have hk4 : KeepT (fun b => ¬ (S b ∧ b < w.heap.size)) W1.drew w4 := ⟨hO4.size, fun b h1 h2 => hO4.block b h1 h2⟩; have hB4 := hO4.blk (hB.step hDd) hpS; have p0 := hB4.cell 0; have p1 := hB4.cell 1; have pf1 := hB4.frozen 1; have pl := hB4.lt; simp at p0 p1; dsimp only)) | (with_reducible refine stop_region 12 ?_) | (with_reducible refine Keep.last ?_) | (with_reducible refine Keep.below (by assumption) ?_) | (with_reducible refine Keep.kept (by assumption) ?_) | (with_reducible refine Keep.alloc ?_) | (with_reducible refine Keep.same ?_) | ((with_reducible refine WpH.here ?_); first | (refine WpH.nil ?_; refine NoP.normal ?_) | (refine WpH.load (by rfl) (by rfl) (by go_simp; rfl) ?_; simp only [Act.put, List.setIfInBounds_toArray, List.set_cons_zero, List.set_cons_succ]) | (refine WpH.loadT (by rfl) (by rfl) (by go_simp; rfl) (by rintro _ _ ⟨⟩; exact ⟨_, _, _, _, _, _, by rfl, by assumption, by assumption⟩) ?_; simp only [Act.put, List.setIfInBounds_toArray, List.set_cons_zero, List.set_cons_succ]) | (refine WpH.pure (by rfl) (fun w_ => by go_simp; (try go_bits); rfl) ?_; simp only [Act.put, List.setIfInBounds_toArray, List.set_cons_zero, List.set_cons_succ]) | (refine WpH.wild1 (by rfl) (fun _ _ => ?_)) | (refine WpH.skip (by rfl) ?_; simp only [Act.put, List.setIfInBounds_toArray, List.set_cons_zero, List.set_cons_succ])) | ((with_reducible refine WpO.here ?_); first | (refine WpO.done ?_; first | refine NoP.normal ?_ | refine NoO.normal ?_) | (refine WpO.load (by rfl) (by rfl) (by go_simp; rfl) ?_; simp only [Act.put, List.setIfInBounds_toArray, List.set_cons_zero, List.set_cons_succ]) | (refine WpO.loadT (by rfl) (by rfl) (by go_simp; rfl) (by rintro _ _ ⟨⟩; exact ⟨_, _, _, _, _, _, by rfl, by assumption, by assumption⟩) ?_; simp only [Act.put, List.setIfInBounds_toArray, List.set_cons_zero, List.set_cons_succ]) | (refine WpO.pure (by rfl) (fun w_ => by go_simp; (try go_bits); rfl) ?_; simp only [Act.put, List.setIfInBounds_toArray, List.set_cons_zero, List.set_cons_succ]) | (refine WpO.skip (by rfl) ?_; simp only [Act.put, List.setIfInBounds_toArray, List.set_cons_zero, List.set_cons_succ]) | refine WpO.wild ?_ | refine WpO.two ?_ ?_ | refine WpO.three ?_ ?_ ?_) | ((with_reducible refine wildO.here ?_); first | (refine wildO.go (by rfl) (fun _ _ => ?_)) | (refine wildO.skip (by rfl) ?_; simp only [Act.put, List.setIfInBounds_toArray, List.set_cons_zero, List.set_cons_succ])) | go_values | go_skip | go_guarded | go_step | go_upon | go_back)
    skip
    refine Stop.go ?_
    have hT6 := (hO4.blk hT.drew (fun h => by have := h.2; omega)).far (p := ⟨pb, 1, none⟩) (by dsimp only; omega) (.slice A' l.length c')
    have hDid := did_put (v := .slice A' l.length c') hwx HPX.out hDd (Hrow1.out.drew) hM4 hO4 (by rw [List.length_set]; exact Nat.le_succ _) (Nat.le_succ _) Hnd'.out rfl
    clear p0 p1 pf1 pl hB4 hM4 hO4
    generalize w4.setCell ⟨pb, 1, none⟩ (.slice A' l.length c') = W6 at *
    have t0 := hT6.cell 0; have t1 := hT6.cell 1; have t2 := hT6.cell 2; have tl := hT6.lt; simp at t0 t1 t2
    repeat' (first | (go_at_call 30; go_must ((with_reducible refine Calls.mono (HF0.out _) ?_); rintro _ w9 ⟨rfl, hb9⟩; dsimp only)) | go_values | go_skip | go_guarded | go_step | go_upon | go_back)
    skip
    go_ret
    exact ⟨rfl, (hDid.step hb9).via B0⟩
set_option maxRecDepth 200000 in
set_option maxHeartbeats 8000000 in
theorem does0_wrong (w : World) (pb mb : Nat) (S S' : Nat → Prop) (l : List El) (K base : Nat) (do_ n : Int) (e : El) (hP : MPair w pb mb S l K base) (hl : l.length ≤ 1048000) (hK : K ≤ 1099511627776) (hs : Sents w S' a) (hsb : ∀ b, S' b → b < base) (hin : e.In) (hd : do_ % 11 = 0) (k code : Nat) (hkl : k ≤ l.length) (hw : wrongOf l e = code) (hc0 : 1 ≤ code) (hc13 : code ≤ 13) : Calls Tryz.prog 9 #[.pointer (some ⟨pb, 0, none⟩), .agg #[.int .i64 do_, .int .i64 (k : Nat), .int .i64 n, .int .i64 e.epoch, .int .i64 e.rep, .int .i64 e.num, .int .i32 e.char, .int .i64 e.hides]] w fun r w' => r = .returned (.bool true) ∧ Did w w' pb mb S l K base := by
  have B0 : Below w.heap.size w (w.alloc (.cells #[.int .i64 do_, .int .i64 (k : Nat), .int .i64 n, .int .i64 e.epoch, .int .i64 e.rep, .int .i64 e.num, .int .i32 e.char, .int .i64 e.hides] 34)) := balloc (Below.refl _ _)
  have hX := Blk.new w 34 #[.int .i64 do_, .int .i64 (k : Nat), .int .i64 n, .int .i64 e.epoch, .int .i64 e.rep, .int .i64 e.num, .int .i32 e.char, .int .i64 e.hides]
  have hM0 := (hP.mdl.more (S' := fun b => S b ∧ b < w.heap.size) fun b h1 h2 => ⟨h2, h1⟩).step B0
  have hPX := hP.step B0
  have hsX := hs.step B0
  have hwx := B0.size
  have HI := hid (fun W => within_any do_ 11 (by decide) (by decide) W)
  rw [hd] at HI
  have Hpw := hid hP.cell.2
  clear hP hs
  go_enter Tryz.func9, Tryz.ntmps9
  repeat' (first | (with_reducible refine stop_region 1 ?_) | go_values | go_skip | go_guarded | go_step | go_upon | go_back)
  refine Stop.go ?_
  generalize w.alloc (.cells #[.int .i64 do_, .int .i64 (k : Nat), .int .i64 n, .int .i64 e.epoch, .int .i64 e.rep, .int .i64 e.num, .int .i32 e.char, .int .i64 e.hides] 34) = X at *
  obtain ⟨A, c, hB, hrow, hM, hS, hbp, hnd⟩ := hPX
  have hPX : MPair X pb mb S l K base := ⟨A, c, hB, hrow, hM, hS, hbp, hnd⟩
  have HPX := hid hPX
  have Hnd := hid hnd
  have HSn := hid hS
  have hpS : ¬ (S pb ∧ pb < w.heap.size) := fun h => (hS pb h.1).2 rfl
  have hxS : ¬ (S w.heap.size ∧ w.heap.size < w.heap.size) := fun h => Nat.lt_irrefl _ h.2
  have hpl := hB.lt
  have hA1 := hB.cell 1
  simp at hA1
  have HA1 := hid hA1
  have Hsb := hid (fun b (h : S' b) => (by have := hsb b h; omega : b < pb ∧ b < X.heap.size))
  clear hnd hS hA1 hsb hPX
  have D0 := Below.refl X.heap.size X
  have kk := hB.step D0; have p0 := kk.cell 0; have p1 := kk.cell 1; have pf1 := kk.frozen 1; have pl := kk.lt; simp at p0 p1; clear kk; have kx := hX.step D0; obtain ⟨x0, x1, x2, x3, x4, x5, x6, x7, xl⟩ := kx.eight5; clear kx
  have HR := hid (fun W (hb : Below X.heap.size X W) => refInsert_no A l.length c k code l _ (fun _ => False) e W (hrow.step hb) (by omega) hkl hw hc0 hc13)
  have HM := hid (fun W (hb : Below X.heap.size X W) => minsert_wrong (a := a) W S S' mb l K k code e (hM.step hb) (by omega) hkl ⟨hin.1, hin.2.1, hin.2.2.1⟩ (by rw [← wrongOf_eq]; exact hw) (by omega) hc13 (hsX.step hb))
  clear hM0 hM hrow hw
  have hTB := Blk.new X 69 #[.int .i64 0, .slice none 0 0, .slice none 0 0]
  have Hsz := hid (show X.heap.size < (X.alloc (.cells #[.int .i64 0, .slice none 0 0, .slice none 0 0] 69)).drew.heap.size by show _ < (X.heap.push _).size; rw [Array.size_push]; exact Nat.lt_succ_self _)
  have Hpl := hid hpl
  have HF := hid (fun W e v (he : IsErr W (fun _ => True) a [⟨({ data := #[109, 111, 100, 101, 108] } : ByteArray), ({ data := #[73, 110, 115, 101, 114, 116] } : ByteArray), atOf ((k : Nat) : Int)⟩] code e) (hno : IsNo W (fun _ => True) [⟨({ data := #[109, 111, 100, 101, 108] } : ByteArray), ({ data := #[73, 110, 115, 101, 114, 116] } : ByteArray), atOf ((k : Nat) : Int)⟩] code v) (hs : Sents W (fun _ => True) a) => refused_any (a := a) _ code e v _ _ W he hno hs (by simp))
  repeat' (first | (go_at_call 32; go_must ((with_reducible refine Calls.mono (HI.out _) ?_); rintro _ _ ⟨rfl, rfl⟩; dsimp only)) | (go_at_call 33; go_must ((with_reducible refine Calls.mono (HR.out _ (by (repeat' (first | (with_reducible exact Below.refl _ _) | (with_reducible assumption) | (with_reducible refine balloc ?_) | (with_reducible refine bdrew ?_) | (with_reducible refine bset ?_ (by (try dsimp only); omega)) | (with_reducible refine bvia ?_ (by assumption)))))) ?_); rintro _ w1 ⟨v1, rfl, ⟨g1, B, m, d, C, q, rfl, hr1, hr2⟩, hb1⟩; have D1 := bvia (show Below X.heap.size X _ by (repeat' (first | (with_reducible exact Below.refl _ _) | (with_reducible assumption) | (with_reducible refine balloc ?_) | (with_reducible refine bdrew ?_) | (with_reducible refine bset ?_ (by (try dsimp only); omega)) | (with_reducible refine bvia ?_ (by assumption))))) hb1; have hno0 : IsNo w1 _ [⟨({ data := #[109, 111, 100, 101, 108] } : ByteArray), ({ data := #[73, 110, 115, 101, 114, 116] } : ByteArray), atOf ((k : Nat) : Int)⟩] code (.agg #[.int .i64 (code : Nat), .slice B m d, .slice C 1 q]) := ⟨g1, B, m, d, C, q, rfl, hr1, hr2⟩; clear hr1 hr2; (try (have hT1 := hTB.drew.step hb1; have t0 := hT1.cell 0; have t1 := hT1.cell 1; have t2 := hT1.cell 2; have tf0 := hT1.frozen 0; have tf1 := hT1.frozen 1; have tf2 := hT1.frozen 2; have tl := hT1.lt; simp at t0 t1 t2)); dsimp only)) | (with_reducible refine Keep.allocD ?_) | ((with_reducible refine region_at 4 ?_); refine wp_region_ordT (fun _ => True) (.one 0 true false (.one 1 true false (.one 2 true false (.one 3 true false (.one 4 true false (.one 5 true false (.one 6 true false (.one 7 true false (.two 8 12 (.one 9 true false (.one 10 true false (.one 11 true false (.one 12 false false (.one 13 true false (.one 14 false true .nil)))))) (.one 8 false false (.one 9 true false (.one 10 true false (.one 11 true false (.one 13 true false (.one 14 false true .nil))))))))))))))) (by kernel_rfl) (by kernel_rfl) (by kernel_rfl) rfl rfl ?_) | (with_reducible refine stop_region 5 ?_) | (with_reducible refine Keep.last ?_) | (with_reducible refine Keep.below (by assumption) ?_) | (with_reducible refine Keep.kept (by assumption) ?_) | (with_reducible refine Keep.alloc ?_) | (with_reducible refine Keep.same ?_) | ((with_reducible refine WpH.here ?_); first | (refine WpH.nil ?_; refine NoP.normal ?_) | (refine WpH.load (by rfl) (by rfl) (by go_simp; rfl) ?_; simp only [Act.put, List.setIfInBounds_toArray, List.set_cons_zero, List.set_cons_succ]) | (refine WpH.loadT (by rfl) (by rfl) (by go_simp; rfl) (by rintro _ _ ⟨⟩; exact ⟨_, _, _, _, _, _, by rfl, by assumption, by assumption⟩) ?_; simp only [Act.put, List.setIfInBounds_toArray, List.set_cons_zero, List.set_cons_succ]) | (refine WpH.pure (by rfl) (fun w_ => by go_simp; (try go_bits); rfl) ?_; simp only [Act.put, List.setIfInBounds_toArray, List.set_cons_zero, List.set_cons_succ]) | (refine WpH.wild1 (by rfl) (fun _ _ => ?_)) | (refine WpH.skip (by rfl) ?_; simp only [Act.put, List.setIfInBounds_toArray, List.set_cons_zero, List.set_cons_succ])) | ((with_reducible refine WpO.here ?_); first | (refine WpO.done ?_; first | refine NoP.normal ?_ | refine NoO.normal ?_) | (refine WpO.load (by rfl) (by rfl) (by go_simp; rfl) ?_; simp only [Act.put, List.setIfInBounds_toArray, List.set_cons_zero, List.set_cons_succ]) | (refine WpO.loadT (by rfl) (by rfl) (by go_simp; rfl) (by rintro _ _ ⟨⟩; exact ⟨_, _, _, _, _, _, by rfl, by assumption, by assumption⟩) ?_; simp only [Act.put, List.setIfInBounds_toArray, List.set_cons_zero, List.set_cons_succ]) | (refine WpO.pure (by rfl) (fun w_ => by go_simp; (try go_bits); rfl) ?_; simp only [Act.put, List.setIfInBounds_toArray, List.set_cons_zero, List.set_cons_succ]) | (refine WpO.skip (by rfl) ?_; simp only [Act.put, List.setIfInBounds_toArray, List.set_cons_zero, List.set_cons_succ]) | refine WpO.wild ?_ | refine WpO.two ?_ ?_ | refine WpO.three ?_ ?_ ?_) | ((with_reducible refine wildO.here ?_); first | (refine wildO.go (by rfl) (fun _ _ => ?_)) | (refine wildO.skip (by rfl) ?_; simp only [Act.put, List.setIfInBounds_toArray, List.set_cons_zero, List.set_cons_succ])) | go_values | go_skip | go_guarded | go_step | go_upon | go_back)
  skip
  all_goals
    refine Stop.go ?_
    first
    | (have hb1A : Below X.drew.heap.size X.drew w1 := (by with_reducible exact hb1); have eW := balloc (o := (.cells #[(.int .i64 (code : Nat)), (.slice B m d), (.slice C 1 q)] 69)) (Below.refl _ w1); have hT := Blk.new w1 69 #[(.int .i64 (code : Nat)), (.slice B m d), (.slice C 1 q)]; have D := bvia D1 eW; have htx : X.heap.size ≤ w1.heap.size := D1.size; have hno1 : IsNo (w1.alloc (.cells #[(.int .i64 (code : Nat)), (.slice B m d), (.slice C 1 q)] 69)) (fun b => b ≠ pb) _ _ _ := hno0.re eW.size (Same.of_below eW) (fun b hb => by rcases hb with hb | hb; exact hb.elim; have := Hpl.out; have : X.heap.size ≤ b := hb; omega); clear eW hb1A; generalize w1.alloc (.cells #[(.int .i64 (code : Nat)), (.slice B m d), (.slice C 1 q)] 69) = W1 at *; generalize w1.heap.size = tb at *)
    | (have hT : Blk (((w1.setCell ⟨X.heap.size, 0, none⟩ (.int .i64 (code : Nat))).setCell ⟨X.heap.size, 1, none⟩ (.slice B m d)).setCell ⟨X.heap.size, 2, none⟩ (.slice C 1 q)) X.heap.size 69 #[(.int .i64 (code : Nat)), (.slice B m d), (.slice C 1 q)] := ((hT1.set_ 0 _).set_ 1 _).set_ 2 _; have D : Below X.heap.size X (((w1.setCell ⟨X.heap.size, 0, none⟩ (.int .i64 (code : Nat))).setCell ⟨X.heap.size, 1, none⟩ (.slice B m d)).setCell ⟨X.heap.size, 2, none⟩ (.slice C 1 q)) := bset (bset (bset D1 (Nat.le_refl _)) (Nat.le_refl _)) (Nat.le_refl _); have htx : X.heap.size ≤ X.heap.size := Nat.le_refl _; have hno1 : IsNo (((w1.setCell ⟨X.heap.size, 0, none⟩ (.int .i64 (code : Nat))).setCell ⟨X.heap.size, 1, none⟩ (.slice B m d)).setCell ⟨X.heap.size, 2, none⟩ (.slice C 1 q)) (fun b => b ≠ pb) _ _ _ := hno0.re (Nat.le_of_eq (by simp [World.setCell])) (fun b hb _ => (by rcases hb with hb | hb; exact hb.elim; have := Hsz.out; have hb : (X.alloc (.cells #[.int .i64 0, .slice none 0 0, .slice none 0 0] 69)).drew.heap.size ≤ b := hb; rw [heap_set_ne (show b ≠ X.heap.size by omega), heap_set_ne (show b ≠ X.heap.size by omega), heap_set_ne (show b ≠ X.heap.size by omega)])) (fun b hb => by rcases hb with hb | hb; exact hb.elim; have := Hpl.out; have := Hsz.out; have hb : (X.alloc (.cells #[.int .i64 0, .slice none 0 0, .slice none 0 0] 69)).drew.heap.size ≤ b := hb; omega); clear hT1 t0 t1 t2 tf0 tf1 tf2 tl; generalize ((w1.setCell ⟨X.heap.size, 0, none⟩ (.int .i64 (code : Nat))).setCell ⟨X.heap.size, 1, none⟩ (.slice B m d)).setCell ⟨X.heap.size, 2, none⟩ (.slice C 1 q) = W1 at *)
    clear hb1 D1
    clear p0 p1 pf1 pl x0 x1 x2 x3 x4 x5 x6 x7 xl
    have hWX := D.size
    have htl := hT.lt
    have hDd := D.drew
    have kk := hB.step hDd; have p0 := kk.cell 0; have p1 := kk.cell 1; have pf1 := kk.frozen 1; have pl := kk.lt; simp at p0 p1; clear kk; have kx := hX.step hDd; obtain ⟨x0, x1, x2, x3, x4, x5, x6, x7, xl⟩ := kx.eight5; clear kx
    have Hno1 := hid hno1
    clear hno1 hno0
    repeat' (first | ((with_reducible refine region_at 5 ?_); refine wp_region_order [(0, true, false), (1, true, false), (2, true, false), (3, true, false), (4, true, false), (5, true, false), (6, true, false), (7, true, false), (8, false, false), (9, true, false)] (by kernel_rfl) (by kernel_rfl) (by kernel_rfl) rfl rfl ?_) | (go_at_call 34; go_must ((with_reducible refine Calls.mono (HM.out _ hDd) ?_); rintro _ w4 ⟨v4, rfl, he4, hb4⟩; have D4 := bvia hDd hb4; have kk := hB.step D4; have p0 := kk.cell 0; have p1 := kk.cell 1; have pf1 := kk.frozen 1; have pl := kk.lt; simp at p0 p1; clear kk; have kx := hX.step D4; obtain ⟨x0, x1, x2, x3, x4, x5, x6, x7, xl⟩ := kx.eight5; clear kx; dsimp only)) | (with_reducible refine stop_region 7 ?_) | (with_reducible refine Keep.last ?_) | (with_reducible refine Keep.below (by assumption) ?_) | (with_reducible refine Keep.kept (by assumption) ?_) | (with_reducible refine Keep.alloc ?_) | (with_reducible refine Keep.same ?_) | ((with_reducible refine WpH.here ?_); first | (refine WpH.nil ?_; refine NoP.normal ?_) | (refine WpH.load (by rfl) (by rfl) (by go_simp; rfl) ?_; simp only [Act.put, List.setIfInBounds_toArray, List.set_cons_zero, List.set_cons_succ]) | (refine WpH.loadT (by rfl) (by rfl) (by go_simp; rfl) (by rintro _ _ ⟨⟩; exact ⟨_, _, _, _, _, _, by rfl, by assumption, by assumption⟩) ?_; simp only [Act.put, List.setIfInBounds_toArray, List.set_cons_zero, List.set_cons_succ]) | (refine WpH.pure (by rfl) (fun w_ => by go_simp; (try go_bits); rfl) ?_; simp only [Act.put, List.setIfInBounds_toArray, List.set_cons_zero, List.set_cons_succ]) | (refine WpH.wild1 (by rfl) (fun _ _ => ?_)) | (refine WpH.skip (by rfl) ?_; simp only [Act.put, List.setIfInBounds_toArray, List.set_cons_zero, List.set_cons_succ])) | ((with_reducible refine WpO.here ?_); first | (refine WpO.done ?_; first | refine NoP.normal ?_ | refine NoO.normal ?_) | (refine WpO.load (by rfl) (by rfl) (by go_simp; rfl) ?_; simp only [Act.put, List.setIfInBounds_toArray, List.set_cons_zero, List.set_cons_succ]) | (refine WpO.loadT (by rfl) (by rfl) (by go_simp; rfl) (by rintro _ _ ⟨⟩; exact ⟨_, _, _, _, _, _, by rfl, by assumption, by assumption⟩) ?_; simp only [Act.put, List.setIfInBounds_toArray, List.set_cons_zero, List.set_cons_succ]) | (refine WpO.pure (by rfl) (fun w_ => by go_simp; (try go_bits); rfl) ?_; simp only [Act.put, List.setIfInBounds_toArray, List.set_cons_zero, List.set_cons_succ]) | (refine WpO.skip (by rfl) ?_; simp only [Act.put, List.setIfInBounds_toArray, List.set_cons_zero, List.set_cons_succ]) | refine WpO.wild ?_ | refine WpO.two ?_ ?_ | refine WpO.three ?_ ?_ ?_) | ((with_reducible refine wildO.here ?_); first | (refine wildO.go (by rfl) (fun _ _ => ?_)) | (refine wildO.skip (by rfl) ?_; simp only [Act.put, List.setIfInBounds_toArray, List.set_cons_zero, List.set_cons_succ])) | go_values | go_skip | go_guarded | go_step | go_upon | go_back)
    skip
    refine Stop.go ?_
    have hWd : W1.drew.heap.size = W1.heap.size := rfl
    have hT6 := (hT.drew.step hb4).far (p := ⟨pb, 1, none⟩) (by dsimp only; have := Hpl.out; omega) (.slice A l.length c)
    have hDid := did_same HPX.out HA1.out D4
    have hno6 := ((Hno1.out.re (w' := W1.drew) (Nat.le_refl _) (Same.drew _ _) (fun _ h => h)).re hb4.size (Same.of_below hb4) (fun _ h => h)).re (w' := w4.setCell ⟨pb, 1, none⟩ (.slice A l.length c)) (Nat.le_of_eq (by simp [World.setCell])) (fun b hb _ => heap_set_ne hb) (S' := fun _ => True) (fun _ _ => trivial)
    have he6 := (he4.keep (w' := w4.setCell ⟨pb, 1, none⟩ (.slice A l.length c)) (fun b hb _ => heap_set_ne (fun e => by
      have e : b = pb := e
      subst e
      rcases hb with hb | hb
      · have := (Hsb.out b hb).1; omega
      · have := Hpl.out; have hb : W1.heap.size ≤ b := hb; omega))).more (S' := fun _ => True) fun _ _ _ => trivial
    have hs6 := ((hsX.step D4).keep (w' := w4.setCell ⟨pb, 1, none⟩ (.slice A l.length c)) (fun b hb _ => heap_set_ne (fun e => by
      have e : b = pb := e
      subst e
      have := (Hsb.out b hb).1; omega))).wide
    have HF6 := hid (HF.out _ _ _ he6 hno6 hs6)
    clear p0 p1 pf1 pl he4 x0 x1 x2 x3 x4 x5 x6 x7 xl hno6 he6 hs6
    generalize w4.setCell ⟨pb, 1, none⟩ (.slice A l.length c) = W6 at *
    have t0 := hT6.cell 0; have t1 := hT6.cell 1; have t2 := hT6.cell 2; have tl := hT6.lt; simp at t0 t1 t2
    repeat' (first | (go_at_call 30; go_must ((with_reducible refine Calls.mono HF6.out ?_); rintro _ w9 ⟨rfl, hb9⟩; dsimp only)) | go_values | go_skip | go_guarded | go_step | go_upon | go_back)
    skip
    go_ret
    exact ⟨rfl, (hDid.step hb9).via B0⟩
set_option maxRecDepth 200000 in
set_option maxHeartbeats 8000000 in
theorem does0_range (w : World) (pb mb : Nat) (S S' : Nat → Prop) (l : List El) (K base : Nat) (do_ n : Int) (e : El) (hP : MPair w pb mb S l K base) (hl : l.length ≤ 1048000) (hK : K ≤ 1099511627776) (hs : Sents w S' a) (hsb : ∀ b, S' b → b < base) (hin : e.In) (i : Int) (hd : do_ % 11 = 0) (hi : i < 0 ∨ (l.length : Int) < i) : Calls Tryz.prog 9 #[.pointer (some ⟨pb, 0, none⟩), .agg #[.int .i64 do_, .int .i64 i, .int .i64 n, .int .i64 e.epoch, .int .i64 e.rep, .int .i64 e.num, .int .i32 e.char, .int .i64 e.hides]] w fun r w' => r = .returned (.bool true) ∧ Did w w' pb mb S l K base := by
  have B0 : Below w.heap.size w (w.alloc (.cells #[.int .i64 do_, .int .i64 i, .int .i64 n, .int .i64 e.epoch, .int .i64 e.rep, .int .i64 e.num, .int .i32 e.char, .int .i64 e.hides] 34)) := balloc (Below.refl _ _)
  have hX := Blk.new w 34 #[.int .i64 do_, .int .i64 i, .int .i64 n, .int .i64 e.epoch, .int .i64 e.rep, .int .i64 e.num, .int .i32 e.char, .int .i64 e.hides]
  have hM0 := (hP.mdl.more (S' := fun b => S b ∧ b < w.heap.size) fun b h1 h2 => ⟨h2, h1⟩).step B0
  have hPX := hP.step B0
  have hsX := hs.step B0
  have hwx := B0.size
  have HI := hid (fun W => within_any do_ 11 (by decide) (by decide) W)
  rw [hd] at HI
  have Hpw := hid hP.cell.2
  clear hP hs
  go_enter Tryz.func9, Tryz.ntmps9
  repeat' (first | (with_reducible refine stop_region 1 ?_) | go_values | go_skip | go_guarded | go_step | go_upon | go_back)
  refine Stop.go ?_
  generalize w.alloc (.cells #[.int .i64 do_, .int .i64 i, .int .i64 n, .int .i64 e.epoch, .int .i64 e.rep, .int .i64 e.num, .int .i32 e.char, .int .i64 e.hides] 34) = X at *
  obtain ⟨A, c, hB, hrow, hM, hS, hbp, hnd⟩ := hPX
  have hPX : MPair X pb mb S l K base := ⟨A, c, hB, hrow, hM, hS, hbp, hnd⟩
  have HPX := hid hPX
  have Hnd := hid hnd
  have HSn := hid hS
  have hpS : ¬ (S pb ∧ pb < w.heap.size) := fun h => (hS pb h.1).2 rfl
  have hxS : ¬ (S w.heap.size ∧ w.heap.size < w.heap.size) := fun h => Nat.lt_irrefl _ h.2
  have hpl := hB.lt
  have hA1 := hB.cell 1
  simp at hA1
  have HA1 := hid hA1
  have Hsb := hid (fun b (h : S' b) => (by have := hsb b h; omega : b < pb ∧ b < X.heap.size))
  clear hnd hS hA1 hsb hPX
  have D0 := Below.refl X.heap.size X
  have kk := hB.step D0; have p0 := kk.cell 0; have p1 := kk.cell 1; have pf1 := kk.frozen 1; have pl := kk.lt; simp at p0 p1; clear kk; have kx := hX.step D0; obtain ⟨x0, x1, x2, x3, x4, x5, x6, x7, xl⟩ := kx.eight5; clear kx
  have HR := hid (fun W (hb : Below X.heap.size X W) => refInsert_range A l.length c i l _ (fun _ => False) e W (hrow.step hb) hi)
  have HM := hid (fun W (hb : Below X.heap.size X W) => minsert_range (a := a) W S S' mb l K i e (hM.step hb) hi (hsX.step hb))
  clear hM0 hM hrow hi
  have hTB := Blk.new X 69 #[.int .i64 0, .slice none 0 0, .slice none 0 0]
  have Hsz := hid (show X.heap.size < (X.alloc (.cells #[.int .i64 0, .slice none 0 0, .slice none 0 0] 69)).drew.heap.size by show _ < (X.heap.push _).size; rw [Array.size_push]; exact Nat.lt_succ_self _)
  have Hpl := hid hpl
  have HF := hid (fun W e v (he : IsErr W (fun _ => True) a [⟨({ data := #[109, 111, 100, 101, 108] } : ByteArray), ({ data := #[73, 110, 115, 101, 114, 116] } : ByteArray), atOf i⟩] 2 e) (hno : IsNo W (fun _ => True) [⟨({ data := #[109, 111, 100, 101, 108] } : ByteArray), ({ data := #[73, 110, 115, 101, 114, 116] } : ByteArray), atOf i⟩] 2 v) (hs : Sents W (fun _ => True) a) => refused_any (a := a) _ 2 e v _ _ W he hno hs (by simp))
  repeat' (first | (go_at_call 32; go_must ((with_reducible refine Calls.mono (HI.out _) ?_); rintro _ _ ⟨rfl, rfl⟩; dsimp only)) | (go_at_call 33; go_must ((with_reducible refine Calls.mono (HR.out _ (by (repeat' (first | (with_reducible exact Below.refl _ _) | (with_reducible assumption) | (with_reducible refine balloc ?_) | (with_reducible refine bdrew ?_) | (with_reducible refine bset ?_ (by (try dsimp only); omega)) | (with_reducible refine bvia ?_ (by assumption)))))) ?_); rintro _ w1 ⟨v1, rfl, ⟨g1, B, m, d, C, q, rfl, hr1, hr2⟩, hb1⟩; have D1 := bvia (show Below X.heap.size X _ by (repeat' (first | (with_reducible exact Below.refl _ _) | (with_reducible assumption) | (with_reducible refine balloc ?_) | (with_reducible refine bdrew ?_) | (with_reducible refine bset ?_ (by (try dsimp only); omega)) | (with_reducible refine bvia ?_ (by assumption))))) hb1; have hno0 : IsNo w1 _ [⟨({ data := #[109, 111, 100, 101, 108] } : ByteArray), ({ data := #[73, 110, 115, 101, 114, 116] } : ByteArray), atOf i⟩] 2 (.agg #[.int .i64 (2 : Nat), .slice B m d, .slice C 1 q]) := ⟨g1, B, m, d, C, q, rfl, hr1, hr2⟩; clear hr1 hr2; (try (have hT1 := hTB.drew.step hb1; have t0 := hT1.cell 0; have t1 := hT1.cell 1; have t2 := hT1.cell 2; have tf0 := hT1.frozen 0; have tf1 := hT1.frozen 1; have tf2 := hT1.frozen 2; have tl := hT1.lt; simp at t0 t1 t2)); dsimp only)) | (with_reducible refine Keep.allocD ?_) | ((with_reducible refine region_at 4 ?_); refine wp_region_ordT (fun _ => True) (.one 0 true false (.one 1 true false (.one 2 true false (.one 3 true false (.one 4 true false (.one 5 true false (.one 6 true false (.one 7 true false (.two 8 12 (.one 9 true false (.one 10 true false (.one 11 true false (.one 12 false false (.one 13 true false (.one 14 false true .nil)))))) (.one 8 false false (.one 9 true false (.one 10 true false (.one 11 true false (.one 13 true false (.one 14 false true .nil))))))))))))))) (by kernel_rfl) (by kernel_rfl) (by kernel_rfl) rfl rfl ?_) | (with_reducible refine stop_region 5 ?_) | (with_reducible refine Keep.last ?_) | (with_reducible refine Keep.below (by assumption) ?_) | (with_reducible refine Keep.kept (by assumption) ?_) | (with_reducible refine Keep.alloc ?_) | (with_reducible refine Keep.same ?_) | ((with_reducible refine WpH.here ?_); first | (refine WpH.nil ?_; refine NoP.normal ?_) | (refine WpH.load (by rfl) (by rfl) (by go_simp; rfl) ?_; simp only [Act.put, List.setIfInBounds_toArray, List.set_cons_zero, List.set_cons_succ]) | (refine WpH.loadT (by rfl) (by rfl) (by go_simp; rfl) (by rintro _ _ ⟨⟩; exact ⟨_, _, _, _, _, _, by rfl, by assumption, by assumption⟩) ?_; simp only [Act.put, List.setIfInBounds_toArray, List.set_cons_zero, List.set_cons_succ]) | (refine WpH.pure (by rfl) (fun w_ => by go_simp; (try go_bits); rfl) ?_; simp only [Act.put, List.setIfInBounds_toArray, List.set_cons_zero, List.set_cons_succ]) | (refine WpH.wild1 (by rfl) (fun _ _ => ?_)) | (refine WpH.skip (by rfl) ?_; simp only [Act.put, List.setIfInBounds_toArray, List.set_cons_zero, List.set_cons_succ])) | ((with_reducible refine WpO.here ?_); first | (refine WpO.done ?_; first | refine NoP.normal ?_ | refine NoO.normal ?_) | (refine WpO.load (by rfl) (by rfl) (by go_simp; rfl) ?_; simp only [Act.put, List.setIfInBounds_toArray, List.set_cons_zero, List.set_cons_succ]) | (refine WpO.loadT (by rfl) (by rfl) (by go_simp; rfl) (by rintro _ _ ⟨⟩; exact ⟨_, _, _, _, _, _, by rfl, by assumption, by assumption⟩) ?_; simp only [Act.put, List.setIfInBounds_toArray, List.set_cons_zero, List.set_cons_succ]) | (refine WpO.pure (by rfl) (fun w_ => by go_simp; (try go_bits); rfl) ?_; simp only [Act.put, List.setIfInBounds_toArray, List.set_cons_zero, List.set_cons_succ]) | (refine WpO.skip (by rfl) ?_; simp only [Act.put, List.setIfInBounds_toArray, List.set_cons_zero, List.set_cons_succ]) | refine WpO.wild ?_ | refine WpO.two ?_ ?_ | refine WpO.three ?_ ?_ ?_) | ((with_reducible refine wildO.here ?_); first | (refine wildO.go (by rfl) (fun _ _ => ?_)) | (refine wildO.skip (by rfl) ?_; simp only [Act.put, List.setIfInBounds_toArray, List.set_cons_zero, List.set_cons_succ])) | go_values | go_skip | go_guarded | go_step | go_upon | go_back)
  skip
  all_goals
    refine Stop.go ?_
    first
    | (have hb1A : Below X.drew.heap.size X.drew w1 := (by with_reducible exact hb1); have eW := balloc (o := (.cells #[(.int .i64 (2 : Nat)), (.slice B m d), (.slice C 1 q)] 69)) (Below.refl _ w1); have hT := Blk.new w1 69 #[(.int .i64 (2 : Nat)), (.slice B m d), (.slice C 1 q)]; have D := bvia D1 eW; have htx : X.heap.size ≤ w1.heap.size := D1.size; have hno1 : IsNo (w1.alloc (.cells #[(.int .i64 (2 : Nat)), (.slice B m d), (.slice C 1 q)] 69)) (fun b => b ≠ pb) _ _ _ := hno0.re eW.size (Same.of_below eW) (fun b hb => by rcases hb with hb | hb; exact hb.elim; have := Hpl.out; have : X.heap.size ≤ b := hb; omega); clear eW hb1A; generalize w1.alloc (.cells #[(.int .i64 (2 : Nat)), (.slice B m d), (.slice C 1 q)] 69) = W1 at *; generalize w1.heap.size = tb at *)
    | (have hT : Blk (((w1.setCell ⟨X.heap.size, 0, none⟩ (.int .i64 (2 : Nat))).setCell ⟨X.heap.size, 1, none⟩ (.slice B m d)).setCell ⟨X.heap.size, 2, none⟩ (.slice C 1 q)) X.heap.size 69 #[(.int .i64 (2 : Nat)), (.slice B m d), (.slice C 1 q)] := ((hT1.set_ 0 _).set_ 1 _).set_ 2 _; have D : Below X.heap.size X (((w1.setCell ⟨X.heap.size, 0, none⟩ (.int .i64 (2 : Nat))).setCell ⟨X.heap.size, 1, none⟩ (.slice B m d)).setCell ⟨X.heap.size, 2, none⟩ (.slice C 1 q)) := bset (bset (bset D1 (Nat.le_refl _)) (Nat.le_refl _)) (Nat.le_refl _); have htx : X.heap.size ≤ X.heap.size := Nat.le_refl _; have hno1 : IsNo (((w1.setCell ⟨X.heap.size, 0, none⟩ (.int .i64 (2 : Nat))).setCell ⟨X.heap.size, 1, none⟩ (.slice B m d)).setCell ⟨X.heap.size, 2, none⟩ (.slice C 1 q)) (fun b => b ≠ pb) _ _ _ := hno0.re (Nat.le_of_eq (by simp [World.setCell])) (fun b hb _ => (by rcases hb with hb | hb; exact hb.elim; have := Hsz.out; have hb : (X.alloc (.cells #[.int .i64 0, .slice none 0 0, .slice none 0 0] 69)).drew.heap.size ≤ b := hb; rw [heap_set_ne (show b ≠ X.heap.size by omega), heap_set_ne (show b ≠ X.heap.size by omega), heap_set_ne (show b ≠ X.heap.size by omega)])) (fun b hb => by rcases hb with hb | hb; exact hb.elim; have := Hpl.out; have := Hsz.out; have hb : (X.alloc (.cells #[.int .i64 0, .slice none 0 0, .slice none 0 0] 69)).drew.heap.size ≤ b := hb; omega); clear hT1 t0 t1 t2 tf0 tf1 tf2 tl; generalize ((w1.setCell ⟨X.heap.size, 0, none⟩ (.int .i64 (2 : Nat))).setCell ⟨X.heap.size, 1, none⟩ (.slice B m d)).setCell ⟨X.heap.size, 2, none⟩ (.slice C 1 q) = W1 at *)
    clear hb1 D1
    clear p0 p1 pf1 pl x0 x1 x2 x3 x4 x5 x6 x7 xl
    have hWX := D.size
    have htl := hT.lt
    have hDd := D.drew
    have kk := hB.step hDd; have p0 := kk.cell 0; have p1 := kk.cell 1; have pf1 := kk.frozen 1; have pl := kk.lt; simp at p0 p1; clear kk; have kx := hX.step hDd; obtain ⟨x0, x1, x2, x3, x4, x5, x6, x7, xl⟩ := kx.eight5; clear kx
    have Hno1 := hid hno1
    clear hno1 hno0
    repeat' (first | ((with_reducible refine region_at 5 ?_); refine wp_region_order [(0, true, false), (1, true, false), (2, true, false), (3, true, false), (4, true, false), (5, true, false), (6, true, false), (7, true, false), (8, false, false), (9, true, false)] (by kernel_rfl) (by kernel_rfl) (by kernel_rfl) rfl rfl ?_) | (go_at_call 34; go_must ((with_reducible refine Calls.mono (HM.out _ hDd) ?_); rintro _ w4 ⟨v4, rfl, he4, hb4⟩; have D4 := bvia hDd hb4; have kk := hB.step D4; have p0 := kk.cell 0; have p1 := kk.cell 1; have pf1 := kk.frozen 1; have pl := kk.lt; simp at p0 p1; clear kk; have kx := hX.step D4; obtain ⟨x0, x1, x2, x3, x4, x5, x6, x7, xl⟩ := kx.eight5; clear kx; dsimp only)) | (with_reducible refine stop_region 7 ?_) | (with_reducible refine Keep.last ?_) | (with_reducible refine Keep.below (by assumption) ?_) | (with_reducible refine Keep.kept (by assumption) ?_) | (with_reducible refine Keep.alloc ?_) | (with_reducible refine Keep.same ?_) | ((with_reducible refine WpH.here ?_); first | (refine WpH.nil ?_; refine NoP.normal ?_) | (refine WpH.load (by rfl) (by rfl) (by go_simp; rfl) ?_; simp only [Act.put, List.setIfInBounds_toArray, List.set_cons_zero, List.set_cons_succ]) | (refine WpH.loadT (by rfl) (by rfl) (by go_simp; rfl) (by rintro _ _ ⟨⟩; exact ⟨_, _, _, _, _, _, by rfl, by assumption, by assumption⟩) ?_; simp only [Act.put, List.setIfInBounds_toArray, List.set_cons_zero, List.set_cons_succ]) | (refine WpH.pure (by rfl) (fun w_ => by go_simp; (try go_bits); rfl) ?_; simp only [Act.put, List.setIfInBounds_toArray, List.set_cons_zero, List.set_cons_succ]) | (refine WpH.wild1 (by rfl) (fun _ _ => ?_)) | (refine WpH.skip (by rfl) ?_; simp only [Act.put, List.setIfInBounds_toArray, List.set_cons_zero, List.set_cons_succ])) | ((with_reducible refine WpO.here ?_); first | (refine WpO.done ?_; first | refine NoP.normal ?_ | refine NoO.normal ?_) | (refine WpO.load (by rfl) (by rfl) (by go_simp; rfl) ?_; simp only [Act.put, List.setIfInBounds_toArray, List.set_cons_zero, List.set_cons_succ]) | (refine WpO.loadT (by rfl) (by rfl) (by go_simp; rfl) (by rintro _ _ ⟨⟩; exact ⟨_, _, _, _, _, _, by rfl, by assumption, by assumption⟩) ?_; simp only [Act.put, List.setIfInBounds_toArray, List.set_cons_zero, List.set_cons_succ]) | (refine WpO.pure (by rfl) (fun w_ => by go_simp; (try go_bits); rfl) ?_; simp only [Act.put, List.setIfInBounds_toArray, List.set_cons_zero, List.set_cons_succ]) | (refine WpO.skip (by rfl) ?_; simp only [Act.put, List.setIfInBounds_toArray, List.set_cons_zero, List.set_cons_succ]) | refine WpO.wild ?_ | refine WpO.two ?_ ?_ | refine WpO.three ?_ ?_ ?_) | ((with_reducible refine wildO.here ?_); first | (refine wildO.go (by rfl) (fun _ _ => ?_)) | (refine wildO.skip (by rfl) ?_; simp only [Act.put, List.setIfInBounds_toArray, List.set_cons_zero, List.set_cons_succ])) | go_values | go_skip | go_guarded | go_step | go_upon | go_back)
    skip
    refine Stop.go ?_
    have hWd : W1.drew.heap.size = W1.heap.size := rfl
    have hT6 := (hT.drew.step hb4).far (p := ⟨pb, 1, none⟩) (by dsimp only; have := Hpl.out; omega) (.slice A l.length c)
    have hDid := did_same HPX.out HA1.out D4
    have hno6 := ((Hno1.out.re (w' := W1.drew) (Nat.le_refl _) (Same.drew _ _) (fun _ h => h)).re hb4.size (Same.of_below hb4) (fun _ h => h)).re (w' := w4.setCell ⟨pb, 1, none⟩ (.slice A l.length c)) (Nat.le_of_eq (by simp [World.setCell])) (fun b hb _ => heap_set_ne hb) (S' := fun _ => True) (fun _ _ => trivial)
    have he6 := (he4.keep (w' := w4.setCell ⟨pb, 1, none⟩ (.slice A l.length c)) (fun b hb _ => heap_set_ne (fun e => by
      have e : b = pb := e
      subst e
      rcases hb with hb | hb
      · have := (Hsb.out b hb).1; omega
      · have := Hpl.out; have hb : W1.heap.size ≤ b := hb; omega))).more (S' := fun _ => True) fun _ _ _ => trivial
    have hs6 := ((hsX.step D4).keep (w' := w4.setCell ⟨pb, 1, none⟩ (.slice A l.length c)) (fun b hb _ => heap_set_ne (fun e => by
      have e : b = pb := e
      subst e
      have := (Hsb.out b hb).1; omega))).wide
    have HF6 := hid (HF.out _ _ _ he6 hno6 hs6)
    clear p0 p1 pf1 pl he4 x0 x1 x2 x3 x4 x5 x6 x7 xl hno6 he6 hs6
    generalize w4.setCell ⟨pb, 1, none⟩ (.slice A l.length c) = W6 at *
    have t0 := hT6.cell 0; have t1 := hT6.cell 1; have t2 := hT6.cell 2; have tl := hT6.lt; simp at t0 t1 t2
    repeat' (first | (go_at_call 30; go_must ((with_reducible refine Calls.mono HF6.out ?_); rintro _ w9 ⟨rfl, hb9⟩; dsimp only)) | go_values | go_skip | go_guarded | go_step | go_upon | go_back)
    skip
    go_ret
    exact ⟨rfl, (hDid.step hb9).via B0⟩
set_option maxRecDepth 200000 in
set_option maxHeartbeats 8000000 in
theorem does1_range (w : World) (pb mb : Nat) (S S' : Nat → Prop) (l : List El) (K base : Nat) (do_ n : Int) (e : El) (hP : MPair w pb mb S l K base) (hl : l.length ≤ 1048000) (hK : K ≤ 1099511627776) (hs : Sents w S' a) (hsb : ∀ b, S' b → b < base) (hin : e.In) (i : Int) (hd : do_ % 11 = 1) (hi : i < 0 ∨ (l.length : Int) ≤ i) : Calls Tryz.prog 9 #[.pointer (some ⟨pb, 0, none⟩), .agg #[.int .i64 do_, .int .i64 i, .int .i64 n, .int .i64 e.epoch, .int .i64 e.rep, .int .i64 e.num, .int .i32 e.char, .int .i64 e.hides]] w fun r w' => r = .returned (.bool true) ∧ Did w w' pb mb S l K base := by
  have B0 : Below w.heap.size w (w.alloc (.cells #[.int .i64 do_, .int .i64 i, .int .i64 n, .int .i64 e.epoch, .int .i64 e.rep, .int .i64 e.num, .int .i32 e.char, .int .i64 e.hides] 34)) := balloc (Below.refl _ _)
  have hX := Blk.new w 34 #[.int .i64 do_, .int .i64 i, .int .i64 n, .int .i64 e.epoch, .int .i64 e.rep, .int .i64 e.num, .int .i32 e.char, .int .i64 e.hides]
  have hM0 := (hP.mdl.more (S' := fun b => S b ∧ b < w.heap.size) fun b h1 h2 => ⟨h2, h1⟩).step B0
  have hPX := hP.step B0
  have hsX := hs.step B0
  have hwx := B0.size
  have HI := hid (fun W => within_any do_ 11 (by decide) (by decide) W)
  rw [hd] at HI
  have Hpw := hid hP.cell.2
  clear hP hs
  go_enter Tryz.func9, Tryz.ntmps9
  repeat' (first | (with_reducible refine stop_region 1 ?_) | go_values | go_skip | go_guarded | go_step | go_upon | go_back)
  refine Stop.go ?_
  generalize w.alloc (.cells #[.int .i64 do_, .int .i64 i, .int .i64 n, .int .i64 e.epoch, .int .i64 e.rep, .int .i64 e.num, .int .i32 e.char, .int .i64 e.hides] 34) = X at *
  obtain ⟨A, c, hB, hrow, hM, hS, hbp, hnd⟩ := hPX
  have hPX : MPair X pb mb S l K base := ⟨A, c, hB, hrow, hM, hS, hbp, hnd⟩
  have HPX := hid hPX
  have Hnd := hid hnd
  have HSn := hid hS
  have hpS : ¬ (S pb ∧ pb < w.heap.size) := fun h => (hS pb h.1).2 rfl
  have hxS : ¬ (S w.heap.size ∧ w.heap.size < w.heap.size) := fun h => Nat.lt_irrefl _ h.2
  have hpl := hB.lt
  have hA1 := hB.cell 1
  simp at hA1
  have HA1 := hid hA1
  have Hsb := hid (fun b (h : S' b) => (by have := hsb b h; omega : b < pb ∧ b < X.heap.size))
  clear hnd hS hA1 hsb hPX
  have D0 := Below.refl X.heap.size X
  have kk := hB.step D0; have p0 := kk.cell 0; have p1 := kk.cell 1; have pf1 := kk.frozen 1; have pl := kk.lt; simp at p0 p1; clear kk; have kx := hX.step D0; obtain ⟨x0, x1, x2, x3, x4, x5, x6, x7, xl⟩ := kx.eight5; clear kx
  have HR := hid (fun W (hb : Below X.heap.size X W) => refAdd_range A l.length c i n l _ (fun _ => False) W (hrow.step hb) hi)
  have HM := hid (fun W (hb : Below X.heap.size X W) => madd_range (a := a) W S S' mb l K i n (hM.step hb) hi (hsX.step hb))
  clear hM0 hM hrow hi
  have hTB := Blk.new X 69 #[.int .i64 0, .slice none 0 0, .slice none 0 0]
  have Hsz := hid (show X.heap.size < (X.alloc (.cells #[.int .i64 0, .slice none 0 0, .slice none 0 0] 69)).drew.heap.size by show _ < (X.heap.push _).size; rw [Array.size_push]; exact Nat.lt_succ_self _)
  have Hpl := hid hpl
  have HF := hid (fun W e v (he : IsErr W (fun _ => True) a [⟨({ data := #[109, 111, 100, 101, 108] } : ByteArray), ({ data := #[65, 100, 100] } : ByteArray), atOf i⟩] 2 e) (hno : IsNo W (fun _ => True) [⟨({ data := #[109, 111, 100, 101, 108] } : ByteArray), ({ data := #[65, 100, 100] } : ByteArray), atOf i⟩] 2 v) (hs : Sents W (fun _ => True) a) => refused_any (a := a) _ 2 e v _ _ W he hno hs (by simp))
  repeat' (first | (go_at_call 32; go_must ((with_reducible refine Calls.mono (HI.out _) ?_); rintro _ _ ⟨rfl, rfl⟩; dsimp only)) | (go_at_call 35; go_must ((with_reducible refine Calls.mono (HR.out _ (by (repeat' (first | (with_reducible exact Below.refl _ _) | (with_reducible assumption) | (with_reducible refine balloc ?_) | (with_reducible refine bdrew ?_) | (with_reducible refine bset ?_ (by (try dsimp only); omega)) | (with_reducible refine bvia ?_ (by assumption)))))) ?_); rintro _ w1 ⟨v1, rfl, ⟨g1, B, m, d, C, q, rfl, hr1, hr2⟩, hb1⟩; have D1 := bvia (show Below X.heap.size X _ by (repeat' (first | (with_reducible exact Below.refl _ _) | (with_reducible assumption) | (with_reducible refine balloc ?_) | (with_reducible refine bdrew ?_) | (with_reducible refine bset ?_ (by (try dsimp only); omega)) | (with_reducible refine bvia ?_ (by assumption))))) hb1; have hno0 : IsNo w1 _ [⟨({ data := #[109, 111, 100, 101, 108] } : ByteArray), ({ data := #[65, 100, 100] } : ByteArray), atOf i⟩] 2 (.agg #[.int .i64 (2 : Nat), .slice B m d, .slice C 1 q]) := ⟨g1, B, m, d, C, q, rfl, hr1, hr2⟩; clear hr1 hr2; (try (have hT1 := hTB.drew.step hb1; have t0 := hT1.cell 0; have t1 := hT1.cell 1; have t2 := hT1.cell 2; have tf0 := hT1.frozen 0; have tf1 := hT1.frozen 1; have tf2 := hT1.frozen 2; have tl := hT1.lt; simp at t0 t1 t2)); dsimp only)) | (with_reducible refine Keep.allocD ?_) | ((with_reducible refine region_at 9 ?_); refine wp_region_ordT (fun _ => True) (.one 0 true false (.one 1 true false (.one 2 true false (.one 3 true false (.one 4 true false (.one 5 true false (.one 6 true false (.one 7 true false (.two 8 12 (.one 9 true false (.one 10 true false (.one 11 true false (.one 12 false false (.one 13 true false (.one 14 false true .nil)))))) (.one 8 false false (.one 9 true false (.one 10 true false (.one 11 true false (.one 13 true false (.one 14 false true .nil))))))))))))))) (by kernel_rfl) (by kernel_rfl) (by kernel_rfl) rfl rfl ?_) | (with_reducible refine stop_region 10 ?_) | (with_reducible refine Keep.last ?_) | (with_reducible refine Keep.below (by assumption) ?_) | (with_reducible refine Keep.kept (by assumption) ?_) | (with_reducible refine Keep.alloc ?_) | (with_reducible refine Keep.same ?_) | ((with_reducible refine WpH.here ?_); first | (refine WpH.nil ?_; refine NoP.normal ?_) | (refine WpH.load (by rfl) (by rfl) (by go_simp; rfl) ?_; simp only [Act.put, List.setIfInBounds_toArray, List.set_cons_zero, List.set_cons_succ]) | (refine WpH.loadT (by rfl) (by rfl) (by go_simp; rfl) (by rintro _ _ ⟨⟩; exact ⟨_, _, _, _, _, _, by rfl, by assumption, by assumption⟩) ?_; simp only [Act.put, List.setIfInBounds_toArray, List.set_cons_zero, List.set_cons_succ]) | (refine WpH.pure (by rfl) (fun w_ => by go_simp; (try go_bits); rfl) ?_; simp only [Act.put, List.setIfInBounds_toArray, List.set_cons_zero, List.set_cons_succ]) | (refine WpH.wild1 (by rfl) (fun _ _ => ?_)) | (refine WpH.skip (by rfl) ?_; simp only [Act.put, List.setIfInBounds_toArray, List.set_cons_zero, List.set_cons_succ])) | ((with_reducible refine WpO.here ?_); first | (refine WpO.done ?_; first | refine NoP.normal ?_ | refine NoO.normal ?_) | (refine WpO.load (by rfl) (by rfl) (by go_simp; rfl) ?_; simp only [Act.put, List.setIfInBounds_toArray, List.set_cons_zero, List.set_cons_succ]) | (refine WpO.loadT (by rfl) (by rfl) (by go_simp; rfl) (by rintro _ _ ⟨⟩; exact ⟨_, _, _, _, _, _, by rfl, by assumption, by assumption⟩) ?_; simp only [Act.put, List.setIfInBounds_toArray, List.set_cons_zero, List.set_cons_succ]) | (refine WpO.pure (by rfl) (fun w_ => by go_simp; (try go_bits); rfl) ?_; simp only [Act.put, List.setIfInBounds_toArray, List.set_cons_zero, List.set_cons_succ]) | (refine WpO.skip (by rfl) ?_; simp only [Act.put, List.setIfInBounds_toArray, List.set_cons_zero, List.set_cons_succ]) | refine WpO.wild ?_ | refine WpO.two ?_ ?_ | refine WpO.three ?_ ?_ ?_) | ((with_reducible refine wildO.here ?_); first | (refine wildO.go (by rfl) (fun _ _ => ?_)) | (refine wildO.skip (by rfl) ?_; simp only [Act.put, List.setIfInBounds_toArray, List.set_cons_zero, List.set_cons_succ])) | go_values | go_skip | go_guarded | go_step | go_upon | go_back)
  skip
  all_goals
    refine Stop.go ?_
    first
    | (have hb1A : Below X.drew.heap.size X.drew w1 := (by with_reducible exact hb1); have eW := balloc (o := (.cells #[(.int .i64 (2 : Nat)), (.slice B m d), (.slice C 1 q)] 69)) (Below.refl _ w1); have hT := Blk.new w1 69 #[(.int .i64 (2 : Nat)), (.slice B m d), (.slice C 1 q)]; have D := bvia D1 eW; have htx : X.heap.size ≤ w1.heap.size := D1.size; have hno1 : IsNo (w1.alloc (.cells #[(.int .i64 (2 : Nat)), (.slice B m d), (.slice C 1 q)] 69)) (fun b => b ≠ pb) _ _ _ := hno0.re eW.size (Same.of_below eW) (fun b hb => by rcases hb with hb | hb; exact hb.elim; have := Hpl.out; have : X.heap.size ≤ b := hb; omega); clear eW hb1A; generalize w1.alloc (.cells #[(.int .i64 (2 : Nat)), (.slice B m d), (.slice C 1 q)] 69) = W1 at *; generalize w1.heap.size = tb at *)
    | (have hT : Blk (((w1.setCell ⟨X.heap.size, 0, none⟩ (.int .i64 (2 : Nat))).setCell ⟨X.heap.size, 1, none⟩ (.slice B m d)).setCell ⟨X.heap.size, 2, none⟩ (.slice C 1 q)) X.heap.size 69 #[(.int .i64 (2 : Nat)), (.slice B m d), (.slice C 1 q)] := ((hT1.set_ 0 _).set_ 1 _).set_ 2 _; have D : Below X.heap.size X (((w1.setCell ⟨X.heap.size, 0, none⟩ (.int .i64 (2 : Nat))).setCell ⟨X.heap.size, 1, none⟩ (.slice B m d)).setCell ⟨X.heap.size, 2, none⟩ (.slice C 1 q)) := bset (bset (bset D1 (Nat.le_refl _)) (Nat.le_refl _)) (Nat.le_refl _); have htx : X.heap.size ≤ X.heap.size := Nat.le_refl _; have hno1 : IsNo (((w1.setCell ⟨X.heap.size, 0, none⟩ (.int .i64 (2 : Nat))).setCell ⟨X.heap.size, 1, none⟩ (.slice B m d)).setCell ⟨X.heap.size, 2, none⟩ (.slice C 1 q)) (fun b => b ≠ pb) _ _ _ := hno0.re (Nat.le_of_eq (by simp [World.setCell])) (fun b hb _ => (by rcases hb with hb | hb; exact hb.elim; have := Hsz.out; have hb : (X.alloc (.cells #[.int .i64 0, .slice none 0 0, .slice none 0 0] 69)).drew.heap.size ≤ b := hb; rw [heap_set_ne (show b ≠ X.heap.size by omega), heap_set_ne (show b ≠ X.heap.size by omega), heap_set_ne (show b ≠ X.heap.size by omega)])) (fun b hb => by rcases hb with hb | hb; exact hb.elim; have := Hpl.out; have := Hsz.out; have hb : (X.alloc (.cells #[.int .i64 0, .slice none 0 0, .slice none 0 0] 69)).drew.heap.size ≤ b := hb; omega); clear hT1 t0 t1 t2 tf0 tf1 tf2 tl; generalize ((w1.setCell ⟨X.heap.size, 0, none⟩ (.int .i64 (2 : Nat))).setCell ⟨X.heap.size, 1, none⟩ (.slice B m d)).setCell ⟨X.heap.size, 2, none⟩ (.slice C 1 q) = W1 at *)
    clear hb1 D1
    clear p0 p1 pf1 pl x0 x1 x2 x3 x4 x5 x6 x7 xl
    have hWX := D.size
    have htl := hT.lt
    have hDd := D.drew
    have kk := hB.step hDd; have p0 := kk.cell 0; have p1 := kk.cell 1; have pf1 := kk.frozen 1; have pl := kk.lt; simp at p0 p1; clear kk; have kx := hX.step hDd; obtain ⟨x0, x1, x2, x3, x4, x5, x6, x7, xl⟩ := kx.eight5; clear kx
    have Hno1 := hid hno1
    clear hno1 hno0
    repeat' (first | ((with_reducible refine region_at 10 ?_); refine wp_region_order [(0, true, false), (1, true, false), (2, true, false), (3, true, false), (4, true, false), (5, true, false), (6, true, false), (7, true, false), (8, false, false), (9, true, false)] (by kernel_rfl) (by kernel_rfl) (by kernel_rfl) rfl rfl ?_) | (go_at_call 36; go_must ((with_reducible refine Calls.mono (HM.out _ hDd) ?_); rintro _ w4 ⟨v4, rfl, he4, hb4⟩; have D4 := bvia hDd hb4; have kk := hB.step D4; have p0 := kk.cell 0; have p1 := kk.cell 1; have pf1 := kk.frozen 1; have pl := kk.lt; simp at p0 p1; clear kk; have kx := hX.step D4; obtain ⟨x0, x1, x2, x3, x4, x5, x6, x7, xl⟩ := kx.eight5; clear kx; dsimp only)) | (with_reducible refine stop_region 12 ?_) | (with_reducible refine Keep.last ?_) | (with_reducible refine Keep.below (by assumption) ?_) | (with_reducible refine Keep.kept (by assumption) ?_) | (with_reducible refine Keep.alloc ?_) | (with_reducible refine Keep.same ?_) | ((with_reducible refine WpH.here ?_); first | (refine WpH.nil ?_; refine NoP.normal ?_) | (refine WpH.load (by rfl) (by rfl) (by go_simp; rfl) ?_; simp only [Act.put, List.setIfInBounds_toArray, List.set_cons_zero, List.set_cons_succ]) | (refine WpH.loadT (by rfl) (by rfl) (by go_simp; rfl) (by rintro _ _ ⟨⟩; exact ⟨_, _, _, _, _, _, by rfl, by assumption, by assumption⟩) ?_; simp only [Act.put, List.setIfInBounds_toArray, List.set_cons_zero, List.set_cons_succ]) | (refine WpH.pure (by rfl) (fun w_ => by go_simp; (try go_bits); rfl) ?_; simp only [Act.put, List.setIfInBounds_toArray, List.set_cons_zero, List.set_cons_succ]) | (refine WpH.wild1 (by rfl) (fun _ _ => ?_)) | (refine WpH.skip (by rfl) ?_; simp only [Act.put, List.setIfInBounds_toArray, List.set_cons_zero, List.set_cons_succ])) | ((with_reducible refine WpO.here ?_); first | (refine WpO.done ?_; first | refine NoP.normal ?_ | refine NoO.normal ?_) | (refine WpO.load (by rfl) (by rfl) (by go_simp; rfl) ?_; simp only [Act.put, List.setIfInBounds_toArray, List.set_cons_zero, List.set_cons_succ]) | (refine WpO.loadT (by rfl) (by rfl) (by go_simp; rfl) (by rintro _ _ ⟨⟩; exact ⟨_, _, _, _, _, _, by rfl, by assumption, by assumption⟩) ?_; simp only [Act.put, List.setIfInBounds_toArray, List.set_cons_zero, List.set_cons_succ]) | (refine WpO.pure (by rfl) (fun w_ => by go_simp; (try go_bits); rfl) ?_; simp only [Act.put, List.setIfInBounds_toArray, List.set_cons_zero, List.set_cons_succ]) | (refine WpO.skip (by rfl) ?_; simp only [Act.put, List.setIfInBounds_toArray, List.set_cons_zero, List.set_cons_succ]) | refine WpO.wild ?_ | refine WpO.two ?_ ?_ | refine WpO.three ?_ ?_ ?_) | ((with_reducible refine wildO.here ?_); first | (refine wildO.go (by rfl) (fun _ _ => ?_)) | (refine wildO.skip (by rfl) ?_; simp only [Act.put, List.setIfInBounds_toArray, List.set_cons_zero, List.set_cons_succ])) | go_values | go_skip | go_guarded | go_step | go_upon | go_back)
    skip
    refine Stop.go ?_
    have hWd : W1.drew.heap.size = W1.heap.size := rfl
    have hT6 := (hT.drew.step hb4).far (p := ⟨pb, 1, none⟩) (by dsimp only; have := Hpl.out; omega) (.slice A l.length c)
    have hDid := did_same HPX.out HA1.out D4
    have hno6 := ((Hno1.out.re (w' := W1.drew) (Nat.le_refl _) (Same.drew _ _) (fun _ h => h)).re hb4.size (Same.of_below hb4) (fun _ h => h)).re (w' := w4.setCell ⟨pb, 1, none⟩ (.slice A l.length c)) (Nat.le_of_eq (by simp [World.setCell])) (fun b hb _ => heap_set_ne hb) (S' := fun _ => True) (fun _ _ => trivial)
    have he6 := (he4.keep (w' := w4.setCell ⟨pb, 1, none⟩ (.slice A l.length c)) (fun b hb _ => heap_set_ne (fun e => by
      have e : b = pb := e
      subst e
      rcases hb with hb | hb
      · have := (Hsb.out b hb).1; omega
      · have := Hpl.out; have hb : W1.heap.size ≤ b := hb; omega))).more (S' := fun _ => True) fun _ _ _ => trivial
    have hs6 := ((hsX.step D4).keep (w' := w4.setCell ⟨pb, 1, none⟩ (.slice A l.length c)) (fun b hb _ => heap_set_ne (fun e => by
      have e : b = pb := e
      subst e
      have := (Hsb.out b hb).1; omega))).wide
    have HF6 := hid (HF.out _ _ _ he6 hno6 hs6)
    clear p0 p1 pf1 pl he4 x0 x1 x2 x3 x4 x5 x6 x7 xl hno6 he6 hs6
    generalize w4.setCell ⟨pb, 1, none⟩ (.slice A l.length c) = W6 at *
    have t0 := hT6.cell 0; have t1 := hT6.cell 1; have t2 := hT6.cell 2; have tl := hT6.lt; simp at t0 t1 t2
    repeat' (first | (go_at_call 30; go_must ((with_reducible refine Calls.mono HF6.out ?_); rintro _ w9 ⟨rfl, hb9⟩; dsimp only)) | go_values | go_skip | go_guarded | go_step | go_upon | go_back)
    skip
    go_ret
    exact ⟨rfl, (hDid.step hb9).via B0⟩
set_option maxRecDepth 200000 in
set_option maxHeartbeats 8000000 in
theorem does1_by (w : World) (pb mb : Nat) (S S' : Nat → Prop) (l : List El) (K base : Nat) (do_ n : Int) (e : El) (hP : MPair w pb mb S l K base) (hl : l.length ≤ 1048000) (hK : K ≤ 1099511627776) (hs : Sents w S' a) (hsb : ∀ b, S' b → b < base) (hin : e.In) (hd : do_ % 11 = 1) (k : Nat) (e0 : El) (he0 : l[k]? = some e0) (hn1 : ¬ n = 1) (hn2 : ¬ n = -1) : Calls Tryz.prog 9 #[.pointer (some ⟨pb, 0, none⟩), .agg #[.int .i64 do_, .int .i64 (k : Nat), .int .i64 n, .int .i64 e.epoch, .int .i64 e.rep, .int .i64 e.num, .int .i32 e.char, .int .i64 e.hides]] w fun r w' => r = .returned (.bool true) ∧ Did w w' pb mb S l K base := by
  have B0 : Below w.heap.size w (w.alloc (.cells #[.int .i64 do_, .int .i64 (k : Nat), .int .i64 n, .int .i64 e.epoch, .int .i64 e.rep, .int .i64 e.num, .int .i32 e.char, .int .i64 e.hides] 34)) := balloc (Below.refl _ _)
  have hX := Blk.new w 34 #[.int .i64 do_, .int .i64 (k : Nat), .int .i64 n, .int .i64 e.epoch, .int .i64 e.rep, .int .i64 e.num, .int .i32 e.char, .int .i64 e.hides]
  have hM0 := (hP.mdl.more (S' := fun b => S b ∧ b < w.heap.size) fun b h1 h2 => ⟨h2, h1⟩).step B0
  have hPX := hP.step B0
  have hsX := hs.step B0
  have hwx := B0.size
  have HI := hid (fun W => within_any do_ 11 (by decide) (by decide) W)
  rw [hd] at HI
  have Hpw := hid hP.cell.2
  clear hP hs
  go_enter Tryz.func9, Tryz.ntmps9
  repeat' (first | (with_reducible refine stop_region 1 ?_) | go_values | go_skip | go_guarded | go_step | go_upon | go_back)
  refine Stop.go ?_
  generalize w.alloc (.cells #[.int .i64 do_, .int .i64 (k : Nat), .int .i64 n, .int .i64 e.epoch, .int .i64 e.rep, .int .i64 e.num, .int .i32 e.char, .int .i64 e.hides] 34) = X at *
  obtain ⟨A, c, hB, hrow, hM, hS, hbp, hnd⟩ := hPX
  have hPX : MPair X pb mb S l K base := ⟨A, c, hB, hrow, hM, hS, hbp, hnd⟩
  have HPX := hid hPX
  have Hnd := hid hnd
  have HSn := hid hS
  have hpS : ¬ (S pb ∧ pb < w.heap.size) := fun h => (hS pb h.1).2 rfl
  have hxS : ¬ (S w.heap.size ∧ w.heap.size < w.heap.size) := fun h => Nat.lt_irrefl _ h.2
  have hpl := hB.lt
  have hA1 := hB.cell 1
  simp at hA1
  have HA1 := hid hA1
  have Hsb := hid (fun b (h : S' b) => (by have := hsb b h; omega : b < pb ∧ b < X.heap.size))
  clear hnd hS hA1 hsb hPX
  have D0 := Below.refl X.heap.size X
  have kk := hB.step D0; have p0 := kk.cell 0; have p1 := kk.cell 1; have pf1 := kk.frozen 1; have pl := kk.lt; simp at p0 p1; clear kk; have kx := hX.step D0; obtain ⟨x0, x1, x2, x3, x4, x5, x6, x7, xl⟩ := kx.eight5; clear kx
  have HR := hid (fun W (hb : Below X.heap.size X W) => refAdd_by A l.length c k n l _ (fun _ => False) W (hrow.step hb) (List.getElem?_eq_some_iff.1 he0).1 hn1 hn2)
  have HM := hid (fun W (hb : Below X.heap.size X W) => madd_by (a := a) W S S' mb l K k e0 n (hM.step hb) (by omega) he0 hn1 hn2 (hsX.step hb))
  clear hM0 hM hrow he0
  have hTB := Blk.new X 69 #[.int .i64 0, .slice none 0 0, .slice none 0 0]
  have Hsz := hid (show X.heap.size < (X.alloc (.cells #[.int .i64 0, .slice none 0 0, .slice none 0 0] 69)).drew.heap.size by show _ < (X.heap.push _).size; rw [Array.size_push]; exact Nat.lt_succ_self _)
  have Hpl := hid hpl
  have HF := hid (fun W e v (he : IsErr W (fun _ => True) a [⟨({ data := #[109, 111, 100, 101, 108] } : ByteArray), ({ data := #[65, 100, 100] } : ByteArray), atOf ((k : Nat) : Int)⟩] 1 e) (hno : IsNo W (fun _ => True) [⟨({ data := #[109, 111, 100, 101, 108] } : ByteArray), ({ data := #[65, 100, 100] } : ByteArray), atOf ((k : Nat) : Int)⟩] 1 v) (hs : Sents W (fun _ => True) a) => refused_any (a := a) _ 1 e v _ _ W he hno hs (by simp))
  repeat' (first | (go_at_call 32; go_must ((with_reducible refine Calls.mono (HI.out _) ?_); rintro _ _ ⟨rfl, rfl⟩; dsimp only)) | (go_at_call 35; go_must ((with_reducible refine Calls.mono (HR.out _ (by (repeat' (first | (with_reducible exact Below.refl _ _) | (with_reducible assumption) | (with_reducible refine balloc ?_) | (with_reducible refine bdrew ?_) | (with_reducible refine bset ?_ (by (try dsimp only); omega)) | (with_reducible refine bvia ?_ (by assumption)))))) ?_); rintro _ w1 ⟨v1, rfl, ⟨g1, B, m, d, C, q, rfl, hr1, hr2⟩, hb1⟩; have D1 := bvia (show Below X.heap.size X _ by (repeat' (first | (with_reducible exact Below.refl _ _) | (with_reducible assumption) | (with_reducible refine balloc ?_) | (with_reducible refine bdrew ?_) | (with_reducible refine bset ?_ (by (try dsimp only); omega)) | (with_reducible refine bvia ?_ (by assumption))))) hb1; have hno0 : IsNo w1 _ [⟨({ data := #[109, 111, 100, 101, 108] } : ByteArray), ({ data := #[65, 100, 100] } : ByteArray), atOf ((k : Nat) : Int)⟩] 1 (.agg #[.int .i64 (1 : Nat), .slice B m d, .slice C 1 q]) := ⟨g1, B, m, d, C, q, rfl, hr1, hr2⟩; clear hr1 hr2; (try (have hT1 := hTB.drew.step hb1; have t0 := hT1.cell 0; have t1 := hT1.cell 1; have t2 := hT1.cell 2; have tf0 := hT1.frozen 0; have tf1 := hT1.frozen 1; have tf2 := hT1.frozen 2; have tl := hT1.lt; simp at t0 t1 t2)); dsimp only)) | (with_reducible refine Keep.allocD ?_) | ((with_reducible refine region_at 9 ?_); refine wp_region_ordT (fun _ => True) (.one 0 true false (.one 1 true false (.one 2 true false (.one 3 true false (.one 4 true false (.one 5 true false (.one 6 true false (.one 7 true false (.two 8 12 (.one 9 true false (.one 10 true false (.one 11 true false (.one 12 false false (.one 13 true false (.one 14 false true .nil)))))) (.one 8 false false (.one 9 true false (.one 10 true false (.one 11 true false (.one 13 true false (.one 14 false true .nil))))))))))))))) (by kernel_rfl) (by kernel_rfl) (by kernel_rfl) rfl rfl ?_) | (with_reducible refine stop_region 10 ?_) | (with_reducible refine Keep.last ?_) | (with_reducible refine Keep.below (by assumption) ?_) | (with_reducible refine Keep.kept (by assumption) ?_) | (with_reducible refine Keep.alloc ?_) | (with_reducible refine Keep.same ?_) | ((with_reducible refine WpH.here ?_); first | (refine WpH.nil ?_; refine NoP.normal ?_) | (refine WpH.load (by rfl) (by rfl) (by go_simp; rfl) ?_; simp only [Act.put, List.setIfInBounds_toArray, List.set_cons_zero, List.set_cons_succ]) | (refine WpH.loadT (by rfl) (by rfl) (by go_simp; rfl) (by rintro _ _ ⟨⟩; exact ⟨_, _, _, _, _, _, by rfl, by assumption, by assumption⟩) ?_; simp only [Act.put, List.setIfInBounds_toArray, List.set_cons_zero, List.set_cons_succ]) | (refine WpH.pure (by rfl) (fun w_ => by go_simp; (try go_bits); rfl) ?_; simp only [Act.put, List.setIfInBounds_toArray, List.set_cons_zero, List.set_cons_succ]) | (refine WpH.wild1 (by rfl) (fun _ _ => ?_)) | (refine WpH.skip (by rfl) ?_; simp only [Act.put, List.setIfInBounds_toArray, List.set_cons_zero, List.set_cons_succ])) | ((with_reducible refine WpO.here ?_); first | (refine WpO.done ?_; first | refine NoP.normal ?_ | refine NoO.normal ?_) | (refine WpO.load (by rfl) (by rfl) (by go_simp; rfl) ?_; simp only [Act.put, List.setIfInBounds_toArray, List.set_cons_zero, List.set_cons_succ]) | (refine WpO.loadT (by rfl) (by rfl) (by go_simp; rfl) (by rintro _ _ ⟨⟩; exact ⟨_, _, _, _, _, _, by rfl, by assumption, by assumption⟩) ?_; simp only [Act.put, List.setIfInBounds_toArray, List.set_cons_zero, List.set_cons_succ]) | (refine WpO.pure (by rfl) (fun w_ => by go_simp; (try go_bits); rfl) ?_; simp only [Act.put, List.setIfInBounds_toArray, List.set_cons_zero, List.set_cons_succ]) | (refine WpO.skip (by rfl) ?_; simp only [Act.put, List.setIfInBounds_toArray, List.set_cons_zero, List.set_cons_succ]) | refine WpO.wild ?_ | refine WpO.two ?_ ?_ | refine WpO.three ?_ ?_ ?_) | ((with_reducible refine wildO.here ?_); first | (refine wildO.go (by rfl) (fun _ _ => ?_)) | (refine wildO.skip (by rfl) ?_; simp only [Act.put, List.setIfInBounds_toArray, List.set_cons_zero, List.set_cons_succ])) | go_values | go_skip | go_guarded | go_step | go_upon | go_back)
  skip
  all_goals
    refine Stop.go ?_
    first
    | (have hb1A : Below X.drew.heap.size X.drew w1 := (by with_reducible exact hb1); have eW := balloc (o := (.cells #[(.int .i64 (1 : Nat)), (.slice B m d), (.slice C 1 q)] 69)) (Below.refl _ w1); have hT := Blk.new w1 69 #[(.int .i64 (1 : Nat)), (.slice B m d), (.slice C 1 q)]; have D := bvia D1 eW; have htx : X.heap.size ≤ w1.heap.size := D1.size; have hno1 : IsNo (w1.alloc (.cells #[(.int .i64 (1 : Nat)), (.slice B m d), (.slice C 1 q)] 69)) (fun b => b ≠ pb) _ _ _ := hno0.re eW.size (Same.of_below eW) (fun b hb => by rcases hb with hb | hb; exact hb.elim; have := Hpl.out; have : X.heap.size ≤ b := hb; omega); clear eW hb1A; generalize w1.alloc (.cells #[(.int .i64 (1 : Nat)), (.slice B m d), (.slice C 1 q)] 69) = W1 at *; generalize w1.heap.size = tb at *)
    | (have hT : Blk (((w1.setCell ⟨X.heap.size, 0, none⟩ (.int .i64 (1 : Nat))).setCell ⟨X.heap.size, 1, none⟩ (.slice B m d)).setCell ⟨X.heap.size, 2, none⟩ (.slice C 1 q)) X.heap.size 69 #[(.int .i64 (1 : Nat)), (.slice B m d), (.slice C 1 q)] := ((hT1.set_ 0 _).set_ 1 _).set_ 2 _; have D : Below X.heap.size X (((w1.setCell ⟨X.heap.size, 0, none⟩ (.int .i64 (1 : Nat))).setCell ⟨X.heap.size, 1, none⟩ (.slice B m d)).setCell ⟨X.heap.size, 2, none⟩ (.slice C 1 q)) := bset (bset (bset D1 (Nat.le_refl _)) (Nat.le_refl _)) (Nat.le_refl _); have htx : X.heap.size ≤ X.heap.size := Nat.le_refl _; have hno1 : IsNo (((w1.setCell ⟨X.heap.size, 0, none⟩ (.int .i64 (1 : Nat))).setCell ⟨X.heap.size, 1, none⟩ (.slice B m d)).setCell ⟨X.heap.size, 2, none⟩ (.slice C 1 q)) (fun b => b ≠ pb) _ _ _ := hno0.re (Nat.le_of_eq (by simp [World.setCell])) (fun b hb _ => (by rcases hb with hb | hb; exact hb.elim; have := Hsz.out; have hb : (X.alloc (.cells #[.int .i64 0, .slice none 0 0, .slice none 0 0] 69)).drew.heap.size ≤ b := hb; rw [heap_set_ne (show b ≠ X.heap.size by omega), heap_set_ne (show b ≠ X.heap.size by omega), heap_set_ne (show b ≠ X.heap.size by omega)])) (fun b hb => by rcases hb with hb | hb; exact hb.elim; have := Hpl.out; have := Hsz.out; have hb : (X.alloc (.cells #[.int .i64 0, .slice none 0 0, .slice none 0 0] 69)).drew.heap.size ≤ b := hb; omega); clear hT1 t0 t1 t2 tf0 tf1 tf2 tl; generalize ((w1.setCell ⟨X.heap.size, 0, none⟩ (.int .i64 (1 : Nat))).setCell ⟨X.heap.size, 1, none⟩ (.slice B m d)).setCell ⟨X.heap.size, 2, none⟩ (.slice C 1 q) = W1 at *)
    clear hb1 D1
    clear p0 p1 pf1 pl x0 x1 x2 x3 x4 x5 x6 x7 xl
    have hWX := D.size
    have htl := hT.lt
    have hDd := D.drew
    have kk := hB.step hDd; have p0 := kk.cell 0; have p1 := kk.cell 1; have pf1 := kk.frozen 1; have pl := kk.lt; simp at p0 p1; clear kk; have kx := hX.step hDd; obtain ⟨x0, x1, x2, x3, x4, x5, x6, x7, xl⟩ := kx.eight5; clear kx
    have Hno1 := hid hno1
    clear hno1 hno0
    repeat' (first | ((with_reducible refine region_at 10 ?_); refine wp_region_order [(0, true, false), (1, true, false), (2, true, false), (3, true, false), (4, true, false), (5, true, false), (6, true, false), (7, true, false), (8, false, false), (9, true, false)] (by kernel_rfl) (by kernel_rfl) (by kernel_rfl) rfl rfl ?_) | (go_at_call 36; go_must ((with_reducible refine Calls.mono (HM.out _ hDd) ?_); rintro _ w4 ⟨v4, rfl, he4, hb4⟩; have D4 := bvia hDd hb4; have kk := hB.step D4; have p0 := kk.cell 0; have p1 := kk.cell 1; have pf1 := kk.frozen 1; have pl := kk.lt; simp at p0 p1; clear kk; have kx := hX.step D4; obtain ⟨x0, x1, x2, x3, x4, x5, x6, x7, xl⟩ := kx.eight5; clear kx; dsimp only)) | (with_reducible refine stop_region 12 ?_) | (with_reducible refine Keep.last ?_) | (with_reducible refine Keep.below (by assumption) ?_) | (with_reducible refine Keep.kept (by assumption) ?_) | (with_reducible refine Keep.alloc ?_) | (with_reducible refine Keep.same ?_) | ((with_reducible refine WpH.here ?_); first | (refine WpH.nil ?_; refine NoP.normal ?_) | (refine WpH.load (by rfl) (by rfl) (by go_simp; rfl) ?_; simp only [Act.put, List.setIfInBounds_toArray, List.set_cons_zero, List.set_cons_succ]) | (refine WpH.loadT (by rfl) (by rfl) (by go_simp; rfl) (by rintro _ _ ⟨⟩; exact ⟨_, _, _, _, _, _, by rfl, by assumption, by assumption⟩) ?_; simp only [Act.put, List.setIfInBounds_toArray, List.set_cons_zero, List.set_cons_succ]) | (refine WpH.pure (by rfl) (fun w_ => by go_simp; (try go_bits); rfl) ?_; simp only [Act.put, List.setIfInBounds_toArray, List.set_cons_zero, List.set_cons_succ]) | (refine WpH.wild1 (by rfl) (fun _ _ => ?_)) | (refine WpH.skip (by rfl) ?_; simp only [Act.put, List.setIfInBounds_toArray, List.set_cons_zero, List.set_cons_succ])) | ((with_reducible refine WpO.here ?_); first | (refine WpO.done ?_; first | refine NoP.normal ?_ | refine NoO.normal ?_) | (refine WpO.load (by rfl) (by rfl) (by go_simp; rfl) ?_; simp only [Act.put, List.setIfInBounds_toArray, List.set_cons_zero, List.set_cons_succ]) | (refine WpO.loadT (by rfl) (by rfl) (by go_simp; rfl) (by rintro _ _ ⟨⟩; exact ⟨_, _, _, _, _, _, by rfl, by assumption, by assumption⟩) ?_; simp only [Act.put, List.setIfInBounds_toArray, List.set_cons_zero, List.set_cons_succ]) | (refine WpO.pure (by rfl) (fun w_ => by go_simp; (try go_bits); rfl) ?_; simp only [Act.put, List.setIfInBounds_toArray, List.set_cons_zero, List.set_cons_succ]) | (refine WpO.skip (by rfl) ?_; simp only [Act.put, List.setIfInBounds_toArray, List.set_cons_zero, List.set_cons_succ]) | refine WpO.wild ?_ | refine WpO.two ?_ ?_ | refine WpO.three ?_ ?_ ?_) | ((with_reducible refine wildO.here ?_); first | (refine wildO.go (by rfl) (fun _ _ => ?_)) | (refine wildO.skip (by rfl) ?_; simp only [Act.put, List.setIfInBounds_toArray, List.set_cons_zero, List.set_cons_succ])) | go_values | go_skip | go_guarded | go_step | go_upon | go_back)
    skip
    refine Stop.go ?_
    have hWd : W1.drew.heap.size = W1.heap.size := rfl
    have hT6 := (hT.drew.step hb4).far (p := ⟨pb, 1, none⟩) (by dsimp only; have := Hpl.out; omega) (.slice A l.length c)
    have hDid := did_same HPX.out HA1.out D4
    have hno6 := ((Hno1.out.re (w' := W1.drew) (Nat.le_refl _) (Same.drew _ _) (fun _ h => h)).re hb4.size (Same.of_below hb4) (fun _ h => h)).re (w' := w4.setCell ⟨pb, 1, none⟩ (.slice A l.length c)) (Nat.le_of_eq (by simp [World.setCell])) (fun b hb _ => heap_set_ne hb) (S' := fun _ => True) (fun _ _ => trivial)
    have he6 := (he4.keep (w' := w4.setCell ⟨pb, 1, none⟩ (.slice A l.length c)) (fun b hb _ => heap_set_ne (fun e => by
      have e : b = pb := e
      subst e
      rcases hb with hb | hb
      · have := (Hsb.out b hb).1; omega
      · have := Hpl.out; have hb : W1.heap.size ≤ b := hb; omega))).more (S' := fun _ => True) fun _ _ _ => trivial
    have hs6 := ((hsX.step D4).keep (w' := w4.setCell ⟨pb, 1, none⟩ (.slice A l.length c)) (fun b hb _ => heap_set_ne (fun e => by
      have e : b = pb := e
      subst e
      have := (Hsb.out b hb).1; omega))).wide
    have HF6 := hid (HF.out _ _ _ he6 hno6 hs6)
    clear p0 p1 pf1 pl he4 x0 x1 x2 x3 x4 x5 x6 x7 xl hno6 he6 hs6
    generalize w4.setCell ⟨pb, 1, none⟩ (.slice A l.length c) = W6 at *
    have t0 := hT6.cell 0; have t1 := hT6.cell 1; have t2 := hT6.cell 2; have tl := hT6.lt; simp at t0 t1 t2
    repeat' (first | (go_at_call 30; go_must ((with_reducible refine Calls.mono HF6.out ?_); rintro _ w9 ⟨rfl, hb9⟩; dsimp only)) | go_values | go_skip | go_guarded | go_step | go_upon | go_back)
    skip
    go_ret
    exact ⟨rfl, (hDid.step hb9).via B0⟩
set_option maxRecDepth 200000 in
set_option maxHeartbeats 8000000 in
theorem does1_arg (w : World) (pb mb : Nat) (S S' : Nat → Prop) (l : List El) (K base : Nat) (do_ n : Int) (e : El) (hP : MPair w pb mb S l K base) (hl : l.length ≤ 1048000) (hK : K ≤ 1099511627776) (hs : Sents w S' a) (hsb : ∀ b, S' b → b < base) (hin : e.In) (hd : do_ % 11 = 1) (k : Nat) (e0 : El) (he0 : l[k]? = some e0) (hn1 : n = 1 ∨ n = -1) (hf : fairH (e0.hides + n) = false) : Calls Tryz.prog 9 #[.pointer (some ⟨pb, 0, none⟩), .agg #[.int .i64 do_, .int .i64 (k : Nat), .int .i64 n, .int .i64 e.epoch, .int .i64 e.rep, .int .i64 e.num, .int .i32 e.char, .int .i64 e.hides]] w fun r w' => r = .returned (.bool true) ∧ Did w w' pb mb S l K base := by
  have B0 : Below w.heap.size w (w.alloc (.cells #[.int .i64 do_, .int .i64 (k : Nat), .int .i64 n, .int .i64 e.epoch, .int .i64 e.rep, .int .i64 e.num, .int .i32 e.char, .int .i64 e.hides] 34)) := balloc (Below.refl _ _)
  have hX := Blk.new w 34 #[.int .i64 do_, .int .i64 (k : Nat), .int .i64 n, .int .i64 e.epoch, .int .i64 e.rep, .int .i64 e.num, .int .i32 e.char, .int .i64 e.hides]
  have hM0 := (hP.mdl.more (S' := fun b => S b ∧ b < w.heap.size) fun b h1 h2 => ⟨h2, h1⟩).step B0
  have hPX := hP.step B0
  have hsX := hs.step B0
  have hwx := B0.size
  have HI := hid (fun W => within_any do_ 11 (by decide) (by decide) W)
  rw [hd] at HI
  have Hpw := hid hP.cell.2
  clear hP hs
  go_enter Tryz.func9, Tryz.ntmps9
  repeat' (first | (with_reducible refine stop_region 1 ?_) | go_values | go_skip | go_guarded | go_step | go_upon | go_back)
  refine Stop.go ?_
  generalize w.alloc (.cells #[.int .i64 do_, .int .i64 (k : Nat), .int .i64 n, .int .i64 e.epoch, .int .i64 e.rep, .int .i64 e.num, .int .i32 e.char, .int .i64 e.hides] 34) = X at *
  obtain ⟨A, c, hB, hrow, hM, hS, hbp, hnd⟩ := hPX
  have hPX : MPair X pb mb S l K base := ⟨A, c, hB, hrow, hM, hS, hbp, hnd⟩
  have HPX := hid hPX
  have Hnd := hid hnd
  have HSn := hid hS
  have hpS : ¬ (S pb ∧ pb < w.heap.size) := fun h => (hS pb h.1).2 rfl
  have hxS : ¬ (S w.heap.size ∧ w.heap.size < w.heap.size) := fun h => Nat.lt_irrefl _ h.2
  have hpl := hB.lt
  have hA1 := hB.cell 1
  simp at hA1
  have HA1 := hid hA1
  have Hsb := hid (fun b (h : S' b) => (by have := hsb b h; omega : b < pb ∧ b < X.heap.size))
  clear hnd hS hA1 hsb hPX
  have D0 := Below.refl X.heap.size X
  have kk := hB.step D0; have p0 := kk.cell 0; have p1 := kk.cell 1; have pf1 := kk.frozen 1; have pl := kk.lt; simp at p0 p1; clear kk; have kx := hX.step D0; obtain ⟨x0, x1, x2, x3, x4, x5, x6, x7, xl⟩ := kx.eight5; clear kx
  have hh0 := fairH_bounds (hM.allGood e0 (List.mem_of_getElem? he0)).hides
  have HR := hid (fun W (hb : Below X.heap.size X W) => refAdd_no A l.length c k l _ (fun _ => False) e0 n hn1 W (hrow.step hb) (by omega) he0 (by omega) hf)
  have HM := hid (fun W (hb : Below X.heap.size X W) => madd_arg (a := a) W S S' mb l K k e0 n hn1 (hM.step hb) (by omega) he0 hf (hsX.step hb))
  clear hM0 hM hrow he0 hf hh0
  have hTB := Blk.new X 69 #[.int .i64 0, .slice none 0 0, .slice none 0 0]
  have Hsz := hid (show X.heap.size < (X.alloc (.cells #[.int .i64 0, .slice none 0 0, .slice none 0 0] 69)).drew.heap.size by show _ < (X.heap.push _).size; rw [Array.size_push]; exact Nat.lt_succ_self _)
  have Hpl := hid hpl
  have HF := hid (fun W e v (he : IsErr W (fun _ => True) a [⟨({ data := #[109, 111, 100, 101, 108] } : ByteArray), ({ data := #[65, 100, 100] } : ByteArray), atOf ((k : Nat) : Int)⟩] 1 e) (hno : IsNo W (fun _ => True) [⟨({ data := #[109, 111, 100, 101, 108] } : ByteArray), ({ data := #[65, 100, 100] } : ByteArray), atOf ((k : Nat) : Int)⟩] 1 v) (hs : Sents W (fun _ => True) a) => refused_any (a := a) _ 1 e v _ _ W he hno hs (by simp))
  repeat' (first | (go_at_call 32; go_must ((with_reducible refine Calls.mono (HI.out _) ?_); rintro _ _ ⟨rfl, rfl⟩; dsimp only)) | (go_at_call 35; go_must ((with_reducible refine Calls.mono (HR.out _ (by (repeat' (first | (with_reducible exact Below.refl _ _) | (with_reducible assumption) | (with_reducible refine balloc ?_) | (with_reducible refine bdrew ?_) | (with_reducible refine bset ?_ (by (try dsimp only); omega)) | (with_reducible refine bvia ?_ (by assumption)))))) ?_); rintro _ w1 ⟨v1, rfl, ⟨g1, B, m, d, C, q, rfl, hr1, hr2⟩, hb1⟩; have D1 := bvia (show Below X.heap.size X _ by (repeat' (first | (with_reducible exact Below.refl _ _) | (with_reducible assumption) | (with_reducible refine balloc ?_) | (with_reducible refine bdrew ?_) | (with_reducible refine bset ?_ (by (try dsimp only); omega)) | (with_reducible refine bvia ?_ (by assumption))))) hb1; have hno0 : IsNo w1 _ [⟨({ data := #[109, 111, 100, 101, 108] } : ByteArray), ({ data := #[65, 100, 100] } : ByteArray), atOf ((k : Nat) : Int)⟩] 1 (.agg #[.int .i64 (1 : Nat), .slice B m d, .slice C 1 q]) := ⟨g1, B, m, d, C, q, rfl, hr1, hr2⟩; clear hr1 hr2; (try (have hT1 := hTB.drew.step hb1; have t0 := hT1.cell 0; have t1 := hT1.cell 1; have t2 := hT1.cell 2; have tf0 := hT1.frozen 0; have tf1 := hT1.frozen 1; have tf2 := hT1.frozen 2; have tl := hT1.lt; simp at t0 t1 t2)); dsimp only)) | (with_reducible refine Keep.allocD ?_) | ((with_reducible refine region_at 9 ?_); refine wp_region_ordT (fun _ => True) (.one 0 true false (.one 1 true false (.one 2 true false (.one 3 true false (.one 4 true false (.one 5 true false (.one 6 true false (.one 7 true false (.two 8 12 (.one 9 true false (.one 10 true false (.one 11 true false (.one 12 false false (.one 13 true false (.one 14 false true .nil)))))) (.one 8 false false (.one 9 true false (.one 10 true false (.one 11 true false (.one 13 true false (.one 14 false true .nil))))))))))))))) (by kernel_rfl) (by kernel_rfl) (by kernel_rfl) rfl rfl ?_) | (with_reducible refine stop_region 10 ?_) | (with_reducible refine Keep.last ?_) | (with_reducible refine Keep.below (by assumption) ?_) | (with_reducible refine Keep.kept (by assumption) ?_) | (with_reducible refine Keep.alloc ?_) | (with_reducible refine Keep.same ?_) | ((with_reducible refine WpH.here ?_); first | (refine WpH.nil ?_; refine NoP.normal ?_) | (refine WpH.load (by rfl) (by rfl) (by go_simp; rfl) ?_; simp only [Act.put, List.setIfInBounds_toArray, List.set_cons_zero, List.set_cons_succ]) | (refine WpH.loadT (by rfl) (by rfl) (by go_simp; rfl) (by rintro _ _ ⟨⟩; exact ⟨_, _, _, _, _, _, by rfl, by assumption, by assumption⟩) ?_; simp only [Act.put, List.setIfInBounds_toArray, List.set_cons_zero, List.set_cons_succ]) | (refine WpH.pure (by rfl) (fun w_ => by go_simp; (try go_bits); rfl) ?_; simp only [Act.put, List.setIfInBounds_toArray, List.set_cons_zero, List.set_cons_succ]) | (refine WpH.wild1 (by rfl) (fun _ _ => ?_)) | (refine WpH.skip (by rfl) ?_; simp only [Act.put, List.setIfInBounds_toArray, List.set_cons_zero, List.set_cons_succ])) | ((with_reducible refine WpO.here ?_); first | (refine WpO.done ?_; first | refine NoP.normal ?_ | refine NoO.normal ?_) | (refine WpO.load (by rfl) (by rfl) (by go_simp; rfl) ?_; simp only [Act.put, List.setIfInBounds_toArray, List.set_cons_zero, List.set_cons_succ]) | (refine WpO.loadT (by rfl) (by rfl) (by go_simp; rfl) (by rintro _ _ ⟨⟩; exact ⟨_, _, _, _, _, _, by rfl, by assumption, by assumption⟩) ?_; simp only [Act.put, List.setIfInBounds_toArray, List.set_cons_zero, List.set_cons_succ]) | (refine WpO.pure (by rfl) (fun w_ => by go_simp; (try go_bits); rfl) ?_; simp only [Act.put, List.setIfInBounds_toArray, List.set_cons_zero, List.set_cons_succ]) | (refine WpO.skip (by rfl) ?_; simp only [Act.put, List.setIfInBounds_toArray, List.set_cons_zero, List.set_cons_succ]) | refine WpO.wild ?_ | refine WpO.two ?_ ?_ | refine WpO.three ?_ ?_ ?_) | ((with_reducible refine wildO.here ?_); first | (refine wildO.go (by rfl) (fun _ _ => ?_)) | (refine wildO.skip (by rfl) ?_; simp only [Act.put, List.setIfInBounds_toArray, List.set_cons_zero, List.set_cons_succ])) | go_values | go_skip | go_guarded | go_step | go_upon | go_back)
  skip
  all_goals
    refine Stop.go ?_
    first
    | (have hb1A : Below X.drew.heap.size X.drew w1 := (by with_reducible exact hb1); have eW := balloc (o := (.cells #[(.int .i64 (1 : Nat)), (.slice B m d), (.slice C 1 q)] 69)) (Below.refl _ w1); have hT := Blk.new w1 69 #[(.int .i64 (1 : Nat)), (.slice B m d), (.slice C 1 q)]; have D := bvia D1 eW; have htx : X.heap.size ≤ w1.heap.size := D1.size; have hno1 : IsNo (w1.alloc (.cells #[(.int .i64 (1 : Nat)), (.slice B m d), (.slice C 1 q)] 69)) (fun b => b ≠ pb) _ _ _ := hno0.re eW.size (Same.of_below eW) (fun b hb => by rcases hb with hb | hb; exact hb.elim; have := Hpl.out; have : X.heap.size ≤ b := hb; omega); clear eW hb1A; generalize w1.alloc (.cells #[(.int .i64 (1 : Nat)), (.slice B m d), (.slice C 1 q)] 69) = W1 at *; generalize w1.heap.size = tb at *)
    | (have hT : Blk (((w1.setCell ⟨X.heap.size, 0, none⟩ (.int .i64 (1 : Nat))).setCell ⟨X.heap.size, 1, none⟩ (.slice B m d)).setCell ⟨X.heap.size, 2, none⟩ (.slice C 1 q)) X.heap.size 69 #[(.int .i64 (1 : Nat)), (.slice B m d), (.slice C 1 q)] := ((hT1.set_ 0 _).set_ 1 _).set_ 2 _; have D : Below X.heap.size X (((w1.setCell ⟨X.heap.size, 0, none⟩ (.int .i64 (1 : Nat))).setCell ⟨X.heap.size, 1, none⟩ (.slice B m d)).setCell ⟨X.heap.size, 2, none⟩ (.slice C 1 q)) := bset (bset (bset D1 (Nat.le_refl _)) (Nat.le_refl _)) (Nat.le_refl _); have htx : X.heap.size ≤ X.heap.size := Nat.le_refl _; have hno1 : IsNo (((w1.setCell ⟨X.heap.size, 0, none⟩ (.int .i64 (1 : Nat))).setCell ⟨X.heap.size, 1, none⟩ (.slice B m d)).setCell ⟨X.heap.size, 2, none⟩ (.slice C 1 q)) (fun b => b ≠ pb) _ _ _ := hno0.re (Nat.le_of_eq (by simp [World.setCell])) (fun b hb _ => (by rcases hb with hb | hb; exact hb.elim; have := Hsz.out; have hb : (X.alloc (.cells #[.int .i64 0, .slice none 0 0, .slice none 0 0] 69)).drew.heap.size ≤ b := hb; rw [heap_set_ne (show b ≠ X.heap.size by omega), heap_set_ne (show b ≠ X.heap.size by omega), heap_set_ne (show b ≠ X.heap.size by omega)])) (fun b hb => by rcases hb with hb | hb; exact hb.elim; have := Hpl.out; have := Hsz.out; have hb : (X.alloc (.cells #[.int .i64 0, .slice none 0 0, .slice none 0 0] 69)).drew.heap.size ≤ b := hb; omega); clear hT1 t0 t1 t2 tf0 tf1 tf2 tl; generalize ((w1.setCell ⟨X.heap.size, 0, none⟩ (.int .i64 (1 : Nat))).setCell ⟨X.heap.size, 1, none⟩ (.slice B m d)).setCell ⟨X.heap.size, 2, none⟩ (.slice C 1 q) = W1 at *)
    clear hb1 D1
    clear p0 p1 pf1 pl x0 x1 x2 x3 x4 x5 x6 x7 xl
    have hWX := D.size
    have htl := hT.lt
    have hDd := D.drew
    have kk := hB.step hDd; have p0 := kk.cell 0; have p1 := kk.cell 1; have pf1 := kk.frozen 1; have pl := kk.lt; simp at p0 p1; clear kk; have kx := hX.step hDd; obtain ⟨x0, x1, x2, x3, x4, x5, x6, x7, xl⟩ := kx.eight5; clear kx
    have Hno1 := hid hno1
    clear hno1 hno0
    repeat' (first | ((with_reducible refine region_at 10 ?_); refine wp_region_order [(0, true, false), (1, true, false), (2, true, false), (3, true, false), (4, true, false), (5, true, false), (6, true, false), (7, true, false), (8, false, false), (9, true, false)] (by kernel_rfl) (by kernel_rfl) (by kernel_rfl) rfl rfl ?_) | (go_at_call 36; go_must ((with_reducible refine Calls.mono (HM.out _ hDd) ?_); rintro _ w4 ⟨v4, rfl, he4, hb4⟩; have D4 := bvia hDd hb4; have kk := hB.step D4; have p0 := kk.cell 0; have p1 := kk.cell 1; have pf1 := kk.frozen 1; have pl := kk.lt; simp at p0 p1; clear kk; have kx := hX.step D4; obtain ⟨x0, x1, x2, x3, x4, x5, x6, x7, xl⟩ := kx.eight5; clear kx; dsimp only)) | (with_reducible refine stop_region 12 ?_) | (with_reducible refine Keep.last ?_) | (with_reducible refine Keep.below (by assumption) ?_) | (with_reducible refine Keep.kept (by assumption) ?_) | (with_reducible refine Keep.alloc ?_) | (with_reducible refine Keep.same ?_) | ((with_reducible refine WpH.here ?_); first | (refine WpH.nil ?_; refine NoP.normal ?_) | (refine WpH.load (by rfl) (by rfl) (by go_simp; rfl) ?_; simp only [Act.put, List.setIfInBounds_toArray, List.set_cons_zero, List.set_cons_succ]) | (refine WpH.loadT (by rfl) (by rfl) (by go_simp; rfl) (by rintro _ _ ⟨⟩; exact ⟨_, _, _, _, _, _, by rfl, by assumption, by assumption⟩) ?_; simp only [Act.put, List.setIfInBounds_toArray, List.set_cons_zero, List.set_cons_succ]) | (refine WpH.pure (by rfl) (fun w_ => by go_simp; (try go_bits); rfl) ?_; simp only [Act.put, List.setIfInBounds_toArray, List.set_cons_zero, List.set_cons_succ]) | (refine WpH.wild1 (by rfl) (fun _ _ => ?_)) | (refine WpH.skip (by rfl) ?_; simp only [Act.put, List.setIfInBounds_toArray, List.set_cons_zero, List.set_cons_succ])) | ((with_reducible refine WpO.here ?_); first | (refine WpO.done ?_; first | refine NoP.normal ?_ | refine NoO.normal ?_) | (refine WpO.load (by rfl) (by rfl) (by go_simp; rfl) ?_; simp only [Act.put, List.setIfInBounds_toArray, List.set_cons_zero, List.set_cons_succ]) | (refine WpO.loadT (by rfl) (by rfl) (by go_simp; rfl) (by rintro _ _ ⟨⟩; exact ⟨_, _, _, _, _, _, by rfl, by assumption, by assumption⟩) ?_; simp only [Act.put, List.setIfInBounds_toArray, List.set_cons_zero, List.set_cons_succ]) | (refine WpO.pure (by rfl) (fun w_ => by go_simp; (try go_bits); rfl) ?_; simp only [Act.put, List.setIfInBounds_toArray, List.set_cons_zero, List.set_cons_succ]) | (refine WpO.skip (by rfl) ?_; simp only [Act.put, List.setIfInBounds_toArray, List.set_cons_zero, List.set_cons_succ]) | refine WpO.wild ?_ | refine WpO.two ?_ ?_ | refine WpO.three ?_ ?_ ?_) | ((with_reducible refine wildO.here ?_); first | (refine wildO.go (by rfl) (fun _ _ => ?_)) | (refine wildO.skip (by rfl) ?_; simp only [Act.put, List.setIfInBounds_toArray, List.set_cons_zero, List.set_cons_succ])) | go_values | go_skip | go_guarded | go_step | go_upon | go_back)
    skip
    refine Stop.go ?_
    have hWd : W1.drew.heap.size = W1.heap.size := rfl
    have hT6 := (hT.drew.step hb4).far (p := ⟨pb, 1, none⟩) (by dsimp only; have := Hpl.out; omega) (.slice A l.length c)
    have hDid := did_same HPX.out HA1.out D4
    have hno6 := ((Hno1.out.re (w' := W1.drew) (Nat.le_refl _) (Same.drew _ _) (fun _ h => h)).re hb4.size (Same.of_below hb4) (fun _ h => h)).re (w' := w4.setCell ⟨pb, 1, none⟩ (.slice A l.length c)) (Nat.le_of_eq (by simp [World.setCell])) (fun b hb _ => heap_set_ne hb) (S' := fun _ => True) (fun _ _ => trivial)
    have he6 := (he4.keep (w' := w4.setCell ⟨pb, 1, none⟩ (.slice A l.length c)) (fun b hb _ => heap_set_ne (fun e => by
      have e : b = pb := e
      subst e
      rcases hb with hb | hb
      · have := (Hsb.out b hb).1; omega
      · have := Hpl.out; have hb : W1.heap.size ≤ b := hb; omega))).more (S' := fun _ => True) fun _ _ _ => trivial
    have hs6 := ((hsX.step D4).keep (w' := w4.setCell ⟨pb, 1, none⟩ (.slice A l.length c)) (fun b hb _ => heap_set_ne (fun e => by
      have e : b = pb := e
      subst e
      have := (Hsb.out b hb).1; omega))).wide
    have HF6 := hid (HF.out _ _ _ he6 hno6 hs6)
    clear p0 p1 pf1 pl he4 x0 x1 x2 x3 x4 x5 x6 x7 xl hno6 he6 hs6
    generalize w4.setCell ⟨pb, 1, none⟩ (.slice A l.length c) = W6 at *
    have t0 := hT6.cell 0; have t1 := hT6.cell 1; have t2 := hT6.cell 2; have tl := hT6.lt; simp at t0 t1 t2
    repeat' (first | (go_at_call 30; go_must ((with_reducible refine Calls.mono HF6.out ?_); rintro _ w9 ⟨rfl, hb9⟩; dsimp only)) | go_values | go_skip | go_guarded | go_step | go_upon | go_back)
    skip
    go_ret
    exact ⟨rfl, (hDid.step hb9).via B0⟩
end Go.Proofs.YtfihjajllfihjaaGreatDoor
