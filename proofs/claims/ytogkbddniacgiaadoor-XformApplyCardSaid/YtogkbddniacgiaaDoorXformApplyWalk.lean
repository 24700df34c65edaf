/- barrowlaw07.XformApply: the walk: it returns true, old memory stands. Conditions: rows lie in memory, the numbers fit their kinds. -/
import Derived.Test.YtogkbddniacgiaaDoorApplyAny
import Derived.Test.YtogkbddniacgiaaDoorLaw7a
import Derived.Test.YtogkbddniacgiaaDoorOpenIds
import Derived.Test.YtogkbddniacgiaaDoorTrio
namespace Go.Proofs.YtogkbddniacgiaaDoor
set_option linter.unusedSimpArgs false
set_option linter.unusedVariables false
open Go Go.RowKit
variable {a : Nat → Addr}
theorem Blk.set3 {w : World} {g : Nat} {t : TypeId} {x y z : Value} (h : Blk w g t #[x, y, z]) (x' y' z' : Value) : Blk (((w.setCell ⟨g, 0, none⟩ x').setCell ⟨g, 1, none⟩ y').setCell ⟨g, 2, none⟩ z') g t #[x', y', z'] := by simpa using ((h.set_ 0 x').set_ 1 y').set_ 2 z'
theorem KeepT.set3 {T : Nat → Prop} (w : World) (g : Nat) (hg : ¬ T g) (x0 x1 x2 : Value) : KeepT T w (((w.setCell ⟨g, 0, none⟩ x0).setCell ⟨g, 1, none⟩ x1).setCell ⟨g, 2, none⟩ x2) :=
  ⟨by simp [World.setCell], fun b _ hb => by
    have hne : b ≠ g := fun e => hg (e ▸ hb)
    exact (Below.heap_setCell _ _ _ _ hne).trans ((Below.heap_setCell _ _ _ _ hne).trans (Below.heap_setCell _ _ _ _ hne))⟩
/-- what stands when a round's answers are there -/
structure MidA (W : World) (base : Nat) (S : Nat → Prop) (mb gx gn : Nat) (L L' : List El) (K : Nat) (A : Option Addr) (c : Nat) (id : Nm) (ch : List Lk) (code : Nat) (v0 v1 v2 : Value) : Prop where
  low : ∀ b, S b → base ≤ b
  xn : ¬ S gx
  nn : ¬ S gn
  mdl : Mdl W S mb L K
  idb : Blk W gx 34 #[.int .i64 id.epoch, .int .i64 id.rep, .int .i64 id.num]
  nob : Blk W gn 50 #[v0, v1, v2]
  ans : NoAns W (fun b => ¬ S b) ch code (.agg #[v0, v1, v2])
  row : Row W (fun b => ¬ S b) A L'.length c L'
section
variable {Y w5 : World} {base : Nat} {S : Nat → Prop} {mb gx z0 : Nat} {L L' : List El} {K : Nat} {A : Option Addr} {c : Nat} {id : Nm} {ch : List Lk} {code : Nat} {v0 v1 v2 : Value}
theorem MidA.first (hb : Below Y.heap.size Y w5) (hl : ∀ b, S b → base ≤ b ∧ b < z0) (hz : z0 ≤ gx) (hM : Mdl Y S mb L K) (hI : Blk Y gx 34 #[.int .i64 id.epoch, .int .i64 id.rep, .int .i64 id.num])
    (ha : NoAns w5 (Fr Y (fun _ => False)) ch code (.agg #[v0, v1, v2])) (hr : Row w5 (Fr Y (fun b => ¬ S b)) A L'.length c L') :
    MidA (w5.alloc (.cells #[v0, v1, v2] 50)) base S mb gx w5.heap.size L L' K A c id ch code v0 v1 v2 := by
  have e := balloc (o := .cells #[v0, v1, v2] 50) (Below.refl _ w5)
  have hg := hI.lt
  have hz5 := hb.size
  refine ⟨fun b h => (hl b h).1, fun h => ?_, fun h => ?_, (hM.step hb).step e, (hI.step hb).step e, Blk.new _ _ _, (ha.keep e.size (Same.of_below e)).more fun b _ h => ?_, (hr.step e).more fun b _ h => ?_⟩
  · have := (hl _ h).2; omega
  · have := (hl _ h).2; omega
  · rcases h with h | h
    · exact False.elim h
    · intro h'; have := (hl _ h').2; omega
  · rcases h with h | h
    · exact h
    · intro h'; have := (hl _ h').2; omega
theorem MidA.second {x0 x1 x2 : Value} (hb : Below (Y.alloc (.cells #[x0, x1, x2] 50)).heap.size (Y.alloc (.cells #[x0, x1, x2] 50)) w5) (hl : ∀ b, S b → base ≤ b ∧ b < z0) (hz : z0 ≤ gx) (hM : Mdl Y S mb L K) (hI : Blk Y gx 34 #[.int .i64 id.epoch, .int .i64 id.rep, .int .i64 id.num])
    (ha : NoAns w5 (Fr (Y.alloc (.cells #[x0, x1, x2] 50)) (fun _ => False)) ch code (.agg #[v0, v1, v2])) (hr : Row w5 (fun b => (¬ S b ∧ b < Y.heap.size) ∨ (Y.alloc (.cells #[x0, x1, x2] 50)).heap.size ≤ b) A L'.length c L') :
    MidA (((w5.setCell ⟨Y.heap.size, 0, none⟩ v0).setCell ⟨Y.heap.size, 1, none⟩ v1).setCell ⟨Y.heap.size, 2, none⟩ v2) base S mb gx Y.heap.size L L' K A c id ch code v0 v1 v2 := by
  have e := balloc (o := .cells #[x0, x1, x2] 50) (Below.refl _ Y)
  have hg := hI.lt
  have s1 : (Y.alloc (.cells #[x0, x1, x2] 50)).heap.size = Y.heap.size + 1 := Array.size_push _
  have hnn : ¬ S Y.heap.size := fun h => by have := (hl _ h).2; omega
  have sm : Same (fun b => b ≠ Y.heap.size) w5 (((w5.setCell ⟨Y.heap.size, 0, none⟩ v0).setCell ⟨Y.heap.size, 1, none⟩ v1).setCell ⟨Y.heap.size, 2, none⟩ v2) :=
    ((Same.setCell w5 (fun h => h rfl) _).trans (by simp [World.setCell]) (Same.setCell _ (fun h => h rfl) _)).trans (by simp [World.setCell]) (Same.setCell _ (fun h => h rfl) _)
  refine ⟨fun b h => (hl b h).1, fun h => ?_, hnn, ((hM.step e).step hb).keep fun b hb' hs => sm b (fun e => hnn (e ▸ hs)) hb', ((hI.step e).step hb).keepS sm (by show gx ≠ Y.heap.size; omega), ((Blk.new Y 50 #[x0, x1, x2]).step hb).set3 _ _ _, ?_, ?_⟩
  · have := (hl _ h).2; omega
  · refine ((ha.more (S' := fun b => Y.heap.size + 1 ≤ b) fun b _ h => ?_).keep (by simp [World.setCell]) (sm.sub fun b h => ?_)).more fun b _ h => ?_
    · rcases h with h | h
      · exact False.elim h
      · rw [s1] at h; exact h
    · have h' : Y.heap.size + 1 ≤ b := h
      omega
    · intro h'; have := (hl _ h').2; have h'' : Y.heap.size + 1 ≤ b := h; omega
  · refine (hr.keep (sm.sub fun b h => ?_)).more fun b _ h => ?_
    · rcases h with h | h
      · have := h.2; omega
      · rw [s1] at h; omega
    · rcases h with h | h
      · exact h.1
      · intro h'; have := (hl _ h').2; omega
end
set_option maxRecDepth 100000 in
set_option maxHeartbeats 8000000 in
theorem xap_true (w : World) (A : Option Addr) (n c : Nat) (ls : List El) (SB : Nat → Prop) (B : Option Addr) (m d : Nat) (ops : List Opn) (C : Option Addr) (q e : Nat) (ids : List Nm) (hr : Row w SB A n c ls) (ho : GRow w (fun b => b < w.heap.size) B m d ops) (hi : GRow w (fun b => b < w.heap.size) C q e ids) (hin : ∀ i ∈ ids, i.In) (hs : Sents w (fun b => b < w.heap.size) a) :
    Calls Tryd.prog 18 #[.slice A n c, .slice B m d, .slice C q e] w fun e w' => e = .returned (.bool true) ∧ Below w.heap.size w w' := by
  have HK := hid wakes7_any
  have HRow := hid (row7_any w A n c ls SB hr)
  have hL := row7_length (ls.take 60)
  have hl60 : (ls.take 60).length ≤ 60 := List.length_take_le _ _
  have hgood := hid (row7_good hl60)
  have hnod := hid (row7_nodup (ls.take 60))
  have hcalm := hid (row7_calm (ls.take 60))
  have hL60 : (row7 (ls.take 60)).length ≤ 60 := by omega
  clear hL hl60 hr
  generalize row7 (ls.take 60) = L0 at *
  have Ho := hid ho
  have Hi := hid hi
  have Hin := hid hin
  have Hs := hid hs
  have hmx := ho.len_le
  have hqx := hi.len_le
  have hmd := ho.2.1
  have hqe := hi.2.1
  unfold maxLen at hmx hqx
  clear ho hi hin hs
  go_enter Tryd.func18, Tryd.ntmps18
  repeat' (first | (go_at_call 33; go_must ((with_reducible refine Calls.mono HRow.out ?_); rintro _ w1 ⟨A1, c1, rfl, hown1, hb1⟩; dsimp only)) | (go_at_call 65; go_must ((with_reducible refine Calls.mono (mof_ok w1 A1 L0.length c1 L0 (fun _ => True) (hown1.row fun _ _ _ => trivial) (by omega) hgood.out hnod.out) ?_); rintro _ w2 ⟨mb, rfl, hM2, hb2⟩; dsimp only)) | (with_reducible refine Keep.last ?_) | (with_reducible refine Keep.below (by assumption) ?_) | (with_reducible refine Keep.kept (by assumption) ?_) | (with_reducible refine Keep.alloc ?_) | (with_reducible refine Keep.same ?_) | ((with_reducible refine WpH.here ?_); first | (refine WpH.nil ?_; refine NoP.normal ?_) | (refine WpH.load (by rfl) (by rfl) (by go_simp; rfl) ?_; simp only [Act.put, List.setIfInBounds_toArray, List.set_cons_zero, List.set_cons_succ]) | (refine WpH.loadT (by rfl) (by rfl) (by go_simp; rfl) (by rintro _ _ ⟨⟩; exact ⟨_, _, _, _, _, _, by rfl, by assumption, by assumption⟩) ?_; simp only [Act.put, List.setIfInBounds_toArray, List.set_cons_zero, List.set_cons_succ]) | (refine WpH.pure (by rfl) (fun w_ => by go_simp; (try go_bits); rfl) ?_; simp only [Act.put, List.setIfInBounds_toArray, List.set_cons_zero, List.set_cons_succ]) | (refine WpH.wild1 (by rfl) (fun _ _ => ?_)) | (refine WpH.skip (by rfl) ?_; simp only [Act.put, List.setIfInBounds_toArray, List.set_cons_zero, List.set_cons_succ])) | ((with_reducible refine WpO.here ?_); first | (refine WpO.done ?_; first | refine NoP.normal ?_ | refine NoO.normal ?_) | (refine WpO.load (by rfl) (by rfl) (by go_simp; rfl) ?_; simp only [Act.put, List.setIfInBounds_toArray, List.set_cons_zero, List.set_cons_succ]) | (refine WpO.loadT (by rfl) (by rfl) (by go_simp; rfl) (by rintro _ _ ⟨⟩; exact ⟨_, _, _, _, _, _, by rfl, by assumption, by assumption⟩) ?_; simp only [Act.put, List.setIfInBounds_toArray, List.set_cons_zero, List.set_cons_succ]) | (refine WpO.pure (by rfl) (fun w_ => by go_simp; (try go_bits); rfl) ?_; simp only [Act.put, List.setIfInBounds_toArray, List.set_cons_zero, List.set_cons_succ]) | (refine WpO.skip (by rfl) ?_; simp only [Act.put, List.setIfInBounds_toArray, List.set_cons_zero, List.set_cons_succ]) | refine WpO.wild ?_ | refine WpO.two ?_ ?_ | refine WpO.three ?_ ?_ ?_) | ((with_reducible refine wildO.here ?_); first | (refine wildO.go (by rfl) (fun _ _ => ?_)) | (refine wildO.skip (by rfl) ?_; simp only [Act.put, List.setIfInBounds_toArray, List.set_cons_zero, List.set_cons_succ])) | go_values | go_skip | go_guarded | go_step | go_upon | go_back)
  have hbb2 := bvia hb1 hb2
  have hrow2 := (hown1.row (S := fun b => ¬ (w1.heap.size ≤ b)) fun b _ h => by omega).step hb2
  have hz1 := hb1.size
  clear hown1 hb1 hb2 HRow
  go_loopw [7, 10] (fun l i wr => ∃ (k : Nat) (S : Nat → Prop) (L : List El) (A1 : Option Addr) (c1 : Nat), i = .int .i64 k ∧ k ≤ m ∧ k ≤ 60 ∧ l = .slice A1 L.length c1 ∧ L.length ≤ 60 + k ∧ Calm (2 + k) L ∧ (∀ b, S b → w.heap.size ≤ b) ∧ Mdl wr S mb L (60 + k) ∧ Row wr (fun b => ¬ S b) A1 L.length c1 L ∧ Below w.heap.size w wr) (fun _ i _ => m - (intOf i).toNat)
  case atStart => exact ⟨0, _, L0, A1, c1, rfl, by omega, by omega, rfl, by omega, by simpa using hcalm.out, fun b h => by have h' : w1.heap.size ≤ b := h; omega, hM2.monoK (by omega), hrow2, hbb2⟩
  case round =>
    clear hM2 hrow2 hbb2 hL60 hgood hnod hcalm
    obtain ⟨k, S, L, A1, c1, rfl, hk, hk60, rfl, hLl, hcal, hlow0, hMr, hrow, hbr⟩ := hrel
    by_cases hlt : k < m ∧ k < 60
    · obtain ⟨hlt1, hlt2⟩ := hlt
      have hlt2' : (k : Int) < 60 := by omega
      obtain ⟨b1, off1, o, rfl, hSb, hbl, hok, hcell⟩ := Ho.out.at_ hlt1
      have Hop := hid (show w.cell? ⟨b1, off1 + k * 4, none⟩ = some (.int .i64 o.kind) ∧ w.cell? ⟨b1, off1 + k * 4 + 1, none⟩ = some (.int .i64 o.at_) ∧ w.cell? ⟨b1, off1 + k * 4 + 2, none⟩ = some (.int .i32 o.char) ∧ w.cell? ⟨b1, off1 + k * 4 + 3, none⟩ = some (.int .i64 o.rep) from ⟨hcell 0 _ rfl, hcell 1 _ rfl, hcell 2 _ rfl, hcell 3 _ rfl⟩)
      clear hok hcell hSb
      repeat' (first | (with_reducible refine stop_region 9 ?_) | (with_reducible refine Keep.last ?_) | (with_reducible refine Keep.below (by assumption) ?_) | (with_reducible refine Keep.kept (by assumption) ?_) | (with_reducible refine Keep.alloc ?_) | (with_reducible refine Keep.same ?_) | ((with_reducible refine WpH.here ?_); first | (refine WpH.nil ?_; refine NoP.normal ?_) | (refine WpH.load (by rfl) (by rfl) (by go_simp; rfl) ?_; simp only [Act.put, List.setIfInBounds_toArray, List.set_cons_zero, List.set_cons_succ]) | (refine WpH.loadT (by rfl) (by rfl) (by go_simp; rfl) (by rintro _ _ ⟨⟩; exact ⟨_, _, _, _, _, _, by rfl, by assumption, by assumption⟩) ?_; simp only [Act.put, List.setIfInBounds_toArray, List.set_cons_zero, List.set_cons_succ]) | (refine WpH.pure (by rfl) (fun w_ => by go_simp; (try go_bits); rfl) ?_; simp only [Act.put, List.setIfInBounds_toArray, List.set_cons_zero, List.set_cons_succ]) | (refine WpH.wild1 (by rfl) (fun _ _ => ?_)) | (refine WpH.skip (by rfl) ?_; simp only [Act.put, List.setIfInBounds_toArray, List.set_cons_zero, List.set_cons_succ])) | ((with_reducible refine WpO.here ?_); first | (refine WpO.done ?_; first | refine NoP.normal ?_ | refine NoO.normal ?_) | (refine WpO.load (by rfl) (by rfl) (by go_simp; rfl) ?_; simp only [Act.put, List.setIfInBounds_toArray, List.set_cons_zero, List.set_cons_succ]) | (refine WpO.loadT (by rfl) (by rfl) (by go_simp; rfl) (by rintro _ _ ⟨⟩; exact ⟨_, _, _, _, _, _, by rfl, by assumption, by assumption⟩) ?_; simp only [Act.put, List.setIfInBounds_toArray, List.set_cons_zero, List.set_cons_succ]) | (refine WpO.pure (by rfl) (fun w_ => by go_simp; (try go_bits); rfl) ?_; simp only [Act.put, List.setIfInBounds_toArray, List.set_cons_zero, List.set_cons_succ]) | (refine WpO.skip (by rfl) ?_; simp only [Act.put, List.setIfInBounds_toArray, List.set_cons_zero, List.set_cons_succ]) | refine WpO.wild ?_ | refine WpO.two ?_ ?_ | refine WpO.three ?_ ?_ ?_) | ((with_reducible refine wildO.here ?_); first | (refine wildO.go (by rfl) (fun _ _ => ?_)) | (refine wildO.skip (by rfl) ?_; simp only [Act.put, List.setIfInBounds_toArray, List.set_cons_zero, List.set_cons_succ])) | go_values | go_skip | go_guarded | go_step | go_upon | go_back)
      refine Stop.go ?_
      have eX : Below wr.heap.size wr (wr.alloc (.cells #[.int .i64 9, .int .i64 0, .int .i64 k] 34)) := balloc (Below.refl _ _)
      have hX := Blk.new wr 34 #[.int .i64 9, .int .i64 0, .int .i64 k]
      generalize wr.alloc (.cells #[.int .i64 9, .int .i64 0, .int .i64 k] 34) = X at *
      obtain ⟨K, hK⟩ : ∃ K, K = 60 + k := ⟨_, rfl⟩
      rw [← hK] at hMr
      have hMX := (hMr.more (S' := fun b => S b ∧ b < wr.heap.size) fun b hl h => ⟨h, hl⟩).step eX
      have hrowX := (hrow.more (S' := fun b => ¬ S b ∧ b < wr.heap.size) fun b hl h => ⟨h, hl⟩).step eX
      have hbX := bvia hbr eX
      obtain ⟨gx, hgx0⟩ : ∃ gx, gx = wr.heap.size := ⟨_, rfl⟩
      rw [← hgx0] at hX ⊢
      have hgx1 : wr.heap.size ≤ gx := by omega
      clear hMr hrow hgx0
      by_cases hq : k < q
      · obtain ⟨b2, off2, i2, rfl, hSb2, hbl2, hok2, hcell2⟩ := Hi.out.at_ hq
        have hq0 := kc hbX (show w.cell? ⟨b2, off2 + k * 3, none⟩ = some (.int .i64 i2.epoch) from hcell2 0 _ rfl)
        have hq1 := kc hbX (show w.cell? ⟨b2, off2 + k * 3 + 1, none⟩ = some (.int .i64 i2.rep) from hcell2 1 _ rfl)
        have hq2 := kc hbX (show w.cell? ⟨b2, off2 + k * 3 + 2, none⟩ = some (.int .i64 i2.num) from hcell2 2 _ rfl)
        have hq3 : b2 < X.heap.size := Nat.lt_of_lt_of_le hbl2 hbX.size
        have hidn := Hin.out i2 (List.mem_of_getElem? hok2)
        have f0 := hX.frozen 0
        have f1 := hX.frozen 1
        have f2 := hX.frozen 2
        have xl := hX.lt
        have z0 := hX.cell 0
        have z1 := hX.cell 1
        have z2 := hX.cell 2
        simp at z0 z1 z2
        clear hok2 hcell2 hSb2
        repeat' (first | (with_reducible refine stop_region 11 ?_) | (with_reducible refine Keep.last ?_) | (with_reducible refine Keep.below (by assumption) ?_) | (with_reducible refine Keep.kept (by assumption) ?_) | (with_reducible refine Keep.alloc ?_) | (with_reducible refine Keep.same ?_) | ((with_reducible refine WpH.here ?_); first | (refine WpH.nil ?_; refine NoP.normal ?_) | (refine WpH.load (by rfl) (by rfl) (by go_simp; rfl) ?_; simp only [Act.put, List.setIfInBounds_toArray, List.set_cons_zero, List.set_cons_succ]) | (refine WpH.loadT (by rfl) (by rfl) (by go_simp; rfl) (by rintro _ _ ⟨⟩; exact ⟨_, _, _, _, _, _, by rfl, by assumption, by assumption⟩) ?_; simp only [Act.put, List.setIfInBounds_toArray, List.set_cons_zero, List.set_cons_succ]) | (refine WpH.pure (by rfl) (fun w_ => by go_simp; (try go_bits); rfl) ?_; simp only [Act.put, List.setIfInBounds_toArray, List.set_cons_zero, List.set_cons_succ]) | (refine WpH.wild1 (by rfl) (fun _ _ => ?_)) | (refine WpH.skip (by rfl) ?_; simp only [Act.put, List.setIfInBounds_toArray, List.set_cons_zero, List.set_cons_succ])) | ((with_reducible refine WpO.here ?_); first | (refine WpO.done ?_; first | refine NoP.normal ?_ | refine NoO.normal ?_) | (refine WpO.load (by rfl) (by rfl) (by go_simp; rfl) ?_; simp only [Act.put, List.setIfInBounds_toArray, List.set_cons_zero, List.set_cons_succ]) | (refine WpO.loadT (by rfl) (by rfl) (by go_simp; rfl) (by rintro _ _ ⟨⟩; exact ⟨_, _, _, _, _, _, by rfl, by assumption, by assumption⟩) ?_; simp only [Act.put, List.setIfInBounds_toArray, List.set_cons_zero, List.set_cons_succ]) | (refine WpO.pure (by rfl) (fun w_ => by go_simp; (try go_bits); rfl) ?_; simp only [Act.put, List.setIfInBounds_toArray, List.set_cons_zero, List.set_cons_succ]) | (refine WpO.skip (by rfl) ?_; simp only [Act.put, List.setIfInBounds_toArray, List.set_cons_zero, List.set_cons_succ]) | refine WpO.wild ?_ | refine WpO.two ?_ ?_ | refine WpO.three ?_ ?_ ?_) | ((with_reducible refine wildO.here ?_); first | (refine wildO.go (by rfl) (fun _ _ => ?_)) | (refine wildO.skip (by rfl) ?_; simp only [Act.put, List.setIfInBounds_toArray, List.set_cons_zero, List.set_cons_succ])) | go_values | go_skip | go_guarded | go_step | go_upon | go_back)
        refine Stop.go ?_
        have hY := hX.set3 (.int .i64 i2.epoch) (.int .i64 i2.rep) (.int .i64 i2.num)
        have hbY : Below w.heap.size w (((X.setCell ⟨gx, 0, none⟩ (.int .i64 i2.epoch)).setCell ⟨gx, 1, none⟩ (.int .i64 i2.rep)).setCell ⟨gx, 2, none⟩ (.int .i64 i2.num)) := bset (bset (bset hbX (by show w.heap.size ≤ gx; have := hbr.size; omega)) (by show w.heap.size ≤ gx; have := hbr.size; omega)) (by show w.heap.size ≤ gx; have := hbr.size; omega)
        have sm : Same (fun b => b < wr.heap.size) X (((X.setCell ⟨gx, 0, none⟩ (.int .i64 i2.epoch)).setCell ⟨gx, 1, none⟩ (.int .i64 i2.rep)).setCell ⟨gx, 2, none⟩ (.int .i64 i2.num)) :=
          ((Same.setCell X (fun h => by have h' : gx < wr.heap.size := h; omega) _).trans (by simp [World.setCell]) (Same.setCell _ (fun h => by have h' : gx < wr.heap.size := h; omega) _)).trans (by simp [World.setCell]) (Same.setCell _ (fun h => by have h' : gx < wr.heap.size := h; omega) _)
        have hMY0 := hMX.keep fun b hl h => sm b h.2 hl
        have hrowY0 := (hrowX.keep (sm.sub fun b h => h.2)).more (S' := fun b => ¬ S b) fun b _ h => h.1
        clear hMX hrowX hX hbX eX hq0 hq1 hq2 hq3 f0 f1 f2 xl z0 z1 z2 sm
        generalize ((X.setCell ⟨gx, 0, none⟩ (.int .i64 i2.epoch)).setCell ⟨gx, 1, none⟩ (.int .i64 i2.rep)).setCell ⟨gx, 2, none⟩ (.int .i64 i2.num) = Y at *
        generalize i2 = idn at *
        obtain ⟨S1, hS1⟩ : ∃ S1 : Nat → Prop, S1 = fun b => S b ∧ b < wr.heap.size := ⟨_, rfl⟩
        have hl1 : ∀ b, S1 b → w.heap.size ≤ b ∧ b < wr.heap.size := fun b h => by rw [hS1] at h; exact ⟨hlow0 b h.1, h.2⟩
        have hMY : Mdl Y S1 mb L K := by rw [hS1]; exact hMY0
        have hrowY : Row Y (fun b => ¬ S1 b ∧ b < Y.heap.size) A1 L.length c1 L := hrowY0.more fun b hl h => ⟨fun h' => by rw [hS1] at h'; exact h h'.1, hl⟩
        clear hMY0 hrowY0 hS1 hlow0
        obtain ⟨why, hwhy⟩ : ∃ why, why = whyOf L o idn := ⟨_, rfl⟩
        obtain ⟨ch, hch⟩ : ∃ ch, ch = chOf o why := ⟨_, rfl⟩
        obtain ⟨L', hL'⟩ : ∃ L', L' = appOf L o idn := ⟨_, rfl⟩
        have hlen' : L'.length ≤ L.length + 1 := by rw [hL']; exact appOf_length L o idn
        have hcal' : Calm (2 + (k + 1 : Nat)) L' := by rw [hL']; exact (appOf_calm hcal (by omega) o idn).mono (by omega)
        have HR := hid (fun V (hb : Below Y.heap.size Y V) => refApply_step A1 L.length c1 L (fun b => ¬ S1 b ∧ b < Y.heap.size) (fun _ => False) o idn V (hrowY.step hb) (by omega) (hcal.mono (by omega)))
        rw [← hwhy, ← hch, ← hL'] at HR
        unfold Opn.agg Nm.val at HR
        have hbop : b1 < Y.heap.size := Nat.lt_of_lt_of_le hbl hbY.size
        have d0 := kc hbY Hop.out.1
        have d1 := kc hbY Hop.out.2.1
        have d2 := kc hbY Hop.out.2.2.1
        have d3 := kc hbY Hop.out.2.2.2
        have y0 := hY.cell 0
        have y1 := hY.cell 1
        have y2 := hY.cell 2
        have yl := hY.lt
        simp at y0 y1 y2
        have eN : Below Y.heap.size Y (Y.alloc (.cells #[.int .i64 0, .slice none 0 0, .slice none 0 0] 50)) := balloc (Below.refl _ _)
        have hN := Blk.new Y 50 #[.int .i64 0, .slice none 0 0, .slice none 0 0]
        have Ha := hid (And.intro hwhy (And.intro hch hL'))
        clear hwhy hch hL'
        repeat' (first | (with_reducible refine stop_region 12 ?_) | ((with_reducible refine region_at 11 ?_); refine wp_region_ordT (fun _ => True) (.one 0 true false (.one 1 true false (.one 2 true false (.one 3 true false (.one 4 true false (.one 5 true false (.two 6 10 (.one 7 true false (.one 8 true false (.one 9 true false (.one 10 false false (.one 11 true false (.one 12 false true .nil)))))) (.one 6 false false (.one 7 true false (.one 8 true false (.one 9 true false (.one 11 true false (.one 12 false true .nil))))))))))))) (by kernel_rfl) (by kernel_rfl) (by kernel_rfl) rfl rfl ?_) | (with_reducible refine Keep.last ?_) | (with_reducible refine Keep.allocD ?_) | (go_at_call 71; go_must ((with_reducible refine Calls.mono (HR.out _ (by (repeat' (first | (with_reducible exact Below.refl _ _) | (with_reducible assumption) | (with_reducible refine balloc ?_) | (with_reducible refine bdrew ?_) | (with_reducible refine bset ?_ (by (try dsimp only); omega)) | (with_reducible refine bvia ?_ (by assumption)))))) ?_); rintro _ w5 ⟨A5, c5, v5, rfl, hrow5, hno5, hb5⟩; have HN5 := hid (And.intro hno5 hrow5); obtain ⟨N0, m0, e0, N1, m1, e1, rfl⟩ := hno5.shape; (try (have hN5 := hN.drew.step hb5; have n0 := hN5.cell 0; have n1 := hN5.cell 1; have n2 := hN5.cell 2; have f0 := hN5.frozen 0; have f1 := hN5.frozen 1; have f2 := hN5.frozen 2; have nl := hN5.lt; simp at n0 n1 n2)); clear hno5 hrow5; dsimp only)) | (with_reducible refine Keep.last ?_) | (with_reducible refine Keep.below (by assumption) ?_) | (with_reducible refine Keep.kept (by assumption) ?_) | (with_reducible refine Keep.alloc ?_) | (with_reducible refine Keep.same ?_) | ((with_reducible refine WpH.here ?_); first | (refine WpH.nil ?_; refine NoP.normal ?_) | (refine WpH.load (by rfl) (by rfl) (by go_simp; rfl) ?_; simp only [Act.put, List.setIfInBounds_toArray, List.set_cons_zero, List.set_cons_succ]) | (refine WpH.loadT (by rfl) (by rfl) (by go_simp; rfl) (by rintro _ _ ⟨⟩; exact ⟨_, _, _, _, _, _, by rfl, by assumption, by assumption⟩) ?_; simp only [Act.put, List.setIfInBounds_toArray, List.set_cons_zero, List.set_cons_succ]) | (refine WpH.pure (by rfl) (fun w_ => by go_simp; (try go_bits); rfl) ?_; simp only [Act.put, List.setIfInBounds_toArray, List.set_cons_zero, List.set_cons_succ]) | (refine WpH.wild1 (by rfl) (fun _ _ => ?_)) | (refine WpH.skip (by rfl) ?_; simp only [Act.put, List.setIfInBounds_toArray, List.set_cons_zero, List.set_cons_succ])) | ((with_reducible refine WpO.here ?_); first | (refine WpO.done ?_; first | refine NoP.normal ?_ | refine NoO.normal ?_) | (refine WpO.load (by rfl) (by rfl) (by go_simp; rfl) ?_; simp only [Act.put, List.setIfInBounds_toArray, List.set_cons_zero, List.set_cons_succ]) | (refine WpO.loadT (by rfl) (by rfl) (by go_simp; rfl) (by rintro _ _ ⟨⟩; exact ⟨_, _, _, _, _, _, by rfl, by assumption, by assumption⟩) ?_; simp only [Act.put, List.setIfInBounds_toArray, List.set_cons_zero, List.set_cons_succ]) | (refine WpO.pure (by rfl) (fun w_ => by go_simp; (try go_bits); rfl) ?_; simp only [Act.put, List.setIfInBounds_toArray, List.set_cons_zero, List.set_cons_succ]) | (refine WpO.skip (by rfl) ?_; simp only [Act.put, List.setIfInBounds_toArray, List.set_cons_zero, List.set_cons_succ]) | refine WpO.wild ?_ | refine WpO.two ?_ ?_ | refine WpO.three ?_ ?_ ?_) | ((with_reducible refine wildO.here ?_); first | (refine wildO.go (by rfl) (fun _ _ => ?_)) | (refine wildO.skip (by rfl) ?_; simp only [Act.put, List.setIfInBounds_toArray, List.set_cons_zero, List.set_cons_succ])) | go_values | go_skip | go_guarded | go_step | go_upon | go_back)
        · refine Stop.go ?_
          have hb5' := undrew hb5
          have hMid := MidA.first (base := w.heap.size) (z0 := wr.heap.size) (ch := ch) (code := why) (L' := L') (A := A5) (c := c5) (id := idn) (v0 := .int .i64 why) (v1 := .slice N0 m0 e0) (v2 := .slice N1 m1 e1) hb5' hl1 hgx1 hMY hY HN5.out.1 (HN5.out.2.more fun b _ h => by
            rcases h with h | h
            · exact .inl h.1
            · exact .inr h)
          have hbM : Below w.heap.size w (w5.alloc (.cells #[.int .i64 why, .slice N0 m0 e0, .slice N1 m1 e1] 50)) := balloc (bvia hbY hb5')
          obtain ⟨hwhy, hch, hL'⟩ := Ha.out
          clear y0 y1 y2 d0 d1 d2 d3 HN5 hb5 hb5' hY hMY hrowY hN eN HR
          generalize w5.alloc (.cells #[.int .i64 why, .slice N0 m0 e0, .slice N1 m1 e1] 50) = W at *
          generalize w5.heap.size = gn at *
          have hxn := hMid.xn
          have hnn := hMid.nn
          have hlow := hMid.low
          have HA := hid (apply_step W.drew S1 (fun b => b < w.heap.size) mb L K o idn (hMid.mdl.keep fun _ _ _ => rfl) (by omega) (by omega) hidn (hcal.mono (by omega)) ((Hs.out.step hbM).drew))
          rw [← hwhy, ← hch, ← hL'] at HA
          unfold Opn.agg Nm.val at HA
          have hcl : ch.length ≤ 1073741824 := by rw [hch]; exact chOf_length _ _
          clear hwhy hch hL'
          have hbop : b1 < W.heap.size := Nat.lt_of_lt_of_le hbl hbM.size
          have d0 := kc hbM Hop.out.1
          have d1 := kc hbM Hop.out.2.1
          have d2 := kc hbM Hop.out.2.2.1
          have d3 := kc hbM Hop.out.2.2.2
          obtain ⟨cso, uo, zo, qop⟩ := cell_obj d0
          have qop' : W.drew.heap[b1]? = some (.cells cso uo zo) := qop
          have nop : ¬ S1 b1 := fun h => by have := hlow b1 h; omega
          have qid : W.drew.heap[gx]? = some (.cells #[.int .i64 idn.epoch, .int .i64 idn.rep, .int .i64 idn.num] 34 (0, 0)) := hMid.idb
          have y0 := hMid.idb.cell 0
          have y1 := hMid.idb.cell 1
          have y2 := hMid.idb.cell 2
          have hgx := hMid.idb.lt
          simp at y0 y1 y2
          repeat' (first | (with_reducible refine stop_region 13 ?_) | ((with_reducible refine region_at 12 ?_); refine wp_region_orderT (fun b => ¬ S1 b) [(0, true, false), (1, true, false), (2, true, false), (3, true, false), (4, true, false), (5, true, false), (6, false, false), (7, true, false)] (by kernel_rfl) (by kernel_rfl) (by kernel_rfl) rfl rfl ?_) | (go_at_call 67; go_must ((with_reducible refine Calls.mono HA.out ?_); rintro _ w7 ⟨v7, rfl, hev, hM7, hO7⟩; have hk7 : KeepT (fun b => ¬ S1 b) _ w7 := hO7.keepT _ (fun b hb => hb); dsimp only)) | (with_reducible refine Keep.last ?_) | (with_reducible refine Keep.below (by assumption) ?_) | (with_reducible refine Keep.kept (by assumption) ?_) | (with_reducible refine Keep.alloc ?_) | (with_reducible refine Keep.same ?_) | ((with_reducible refine WpH.here ?_); first | (refine WpH.nil ?_; refine NoP.normal ?_) | (refine WpH.load (by rfl) (by rfl) (by go_simp; rfl) ?_; simp only [Act.put, List.setIfInBounds_toArray, List.set_cons_zero, List.set_cons_succ]) | (refine WpH.loadT (by rfl) (by rfl) (by go_simp; rfl) (by rintro _ _ ⟨⟩; exact ⟨_, _, _, _, _, _, by rfl, by assumption, by assumption⟩) ?_; simp only [Act.put, List.setIfInBounds_toArray, List.set_cons_zero, List.set_cons_succ]) | (refine WpH.pure (by rfl) (fun w_ => by go_simp; (try go_bits); rfl) ?_; simp only [Act.put, List.setIfInBounds_toArray, List.set_cons_zero, List.set_cons_succ]) | (refine WpH.wild1 (by rfl) (fun _ _ => ?_)) | (refine WpH.skip (by rfl) ?_; simp only [Act.put, List.setIfInBounds_toArray, List.set_cons_zero, List.set_cons_succ])) | ((with_reducible refine WpO.here ?_); first | (refine WpO.done ?_; first | refine NoP.normal ?_ | refine NoO.normal ?_) | (refine WpO.load (by rfl) (by rfl) (by go_simp; rfl) ?_; simp only [Act.put, List.setIfInBounds_toArray, List.set_cons_zero, List.set_cons_succ]) | (refine WpO.loadT (by rfl) (by rfl) (by go_simp; rfl) (by rintro _ _ ⟨⟩; exact ⟨_, _, _, _, _, _, by rfl, by assumption, by assumption⟩) ?_; simp only [Act.put, List.setIfInBounds_toArray, List.set_cons_zero, List.set_cons_succ]) | (refine WpO.pure (by rfl) (fun w_ => by go_simp; (try go_bits); rfl) ?_; simp only [Act.put, List.setIfInBounds_toArray, List.set_cons_zero, List.set_cons_succ]) | (refine WpO.skip (by rfl) ?_; simp only [Act.put, List.setIfInBounds_toArray, List.set_cons_zero, List.set_cons_succ]) | refine WpO.wild ?_ | refine WpO.two ?_ ?_ | refine WpO.three ?_ ?_ ?_) | ((with_reducible refine wildO.here ?_); first | (refine wildO.go (by rfl) (fun _ _ => ?_)) | (refine wildO.skip (by rfl) ?_; simp only [Act.put, List.setIfInBounds_toArray, List.set_cons_zero, List.set_cons_succ])) | go_values | go_skip | go_guarded | go_step | go_upon | go_back)
          refine Stop.go ?_
          have hN7 := hO7.blk hMid.nob.drew hnn
          have hz7 : W.heap.size ≤ w7.heap.size := hO7.size
          have hs7 : Same (fun b => ¬ S1 b) W w7 := fun b hb hl => hO7.block b hl hb
          have hans7 := hMid.ans.keep hz7 hs7
          have hb7 : Below w.heap.size w w7 := hO7.below hbM.drew (Nat.le_refl _) hlow
          have hrow7 := (hMid.row.more (S' := fun b => ¬ S1 b ∧ b < W.heap.size) fun b hl h => ⟨h, hl⟩).keep (hs7.sub fun b h => h.1)
          have HF := hid (refused_step ch why v7 (.agg #[.int .i64 why, .slice N0 m0 e0, .slice N1 m1 e1]) _ _ _ w7 hev hans7 (Hs.out.step hb7) hcl)
          have n0 := hN7.cell 0
          have n1 := hN7.cell 1
          have n2 := hN7.cell 2
          have nl := hN7.lt
          simp at n0 n1 n2
          clear y0 y1 y2 d0 d1 d2 d3 qid qop qop' HA hk7 hev hans7
          repeat' (first | (with_reducible refine stop_region 16 ?_) | (go_at_call 28; go_must ((with_reducible refine Calls.mono HF.out ?_); rintro _ w8 ⟨rfl, hb8⟩; dsimp only)) | (with_reducible refine Keep.last ?_) | (with_reducible refine Keep.below (by assumption) ?_) | (with_reducible refine Keep.kept (by assumption) ?_) | (with_reducible refine Keep.alloc ?_) | (with_reducible refine Keep.same ?_) | ((with_reducible refine WpH.here ?_); first | (refine WpH.nil ?_; refine NoP.normal ?_) | (refine WpH.load (by rfl) (by rfl) (by go_simp; rfl) ?_; simp only [Act.put, List.setIfInBounds_toArray, List.set_cons_zero, List.set_cons_succ]) | (refine WpH.loadT (by rfl) (by rfl) (by go_simp; rfl) (by rintro _ _ ⟨⟩; exact ⟨_, _, _, _, _, _, by rfl, by assumption, by assumption⟩) ?_; simp only [Act.put, List.setIfInBounds_toArray, List.set_cons_zero, List.set_cons_succ]) | (refine WpH.pure (by rfl) (fun w_ => by go_simp; (try go_bits); rfl) ?_; simp only [Act.put, List.setIfInBounds_toArray, List.set_cons_zero, List.set_cons_succ]) | (refine WpH.wild1 (by rfl) (fun _ _ => ?_)) | (refine WpH.skip (by rfl) ?_; simp only [Act.put, List.setIfInBounds_toArray, List.set_cons_zero, List.set_cons_succ])) | ((with_reducible refine WpO.here ?_); first | (refine WpO.done ?_; first | refine NoP.normal ?_ | refine NoO.normal ?_) | (refine WpO.load (by rfl) (by rfl) (by go_simp; rfl) ?_; simp only [Act.put, List.setIfInBounds_toArray, List.set_cons_zero, List.set_cons_succ]) | (refine WpO.loadT (by rfl) (by rfl) (by go_simp; rfl) (by rintro _ _ ⟨⟩; exact ⟨_, _, _, _, _, _, by rfl, by assumption, by assumption⟩) ?_; simp only [Act.put, List.setIfInBounds_toArray, List.set_cons_zero, List.set_cons_succ]) | (refine WpO.pure (by rfl) (fun w_ => by go_simp; (try go_bits); rfl) ?_; simp only [Act.put, List.setIfInBounds_toArray, List.set_cons_zero, List.set_cons_succ]) | (refine WpO.skip (by rfl) ?_; simp only [Act.put, List.setIfInBounds_toArray, List.set_cons_zero, List.set_cons_succ]) | refine WpO.wild ?_ | refine WpO.two ?_ ?_ | refine WpO.three ?_ ?_ ?_) | ((with_reducible refine wildO.here ?_); first | (refine wildO.go (by rfl) (fun _ _ => ?_)) | (refine wildO.skip (by rfl) ?_; simp only [Act.put, List.setIfInBounds_toArray, List.set_cons_zero, List.set_cons_succ])) | go_values | go_skip | go_guarded | go_step | go_upon | go_back)
          refine Stop.go ?_
          have hM8 := hM7.step hb8
          have hrow8 := hrow7.step hb8
          have hb8' := bvia hb7 hb8
          have HE := hid (melements_any w8 _ mb L' _ hM8 (by omega))
          repeat' (first | (go_at_call 69; go_must ((with_reducible refine Calls.mono HE.out ?_); rintro _ w9 ⟨A9, c9, rfl, hown9, hb9⟩; dsimp only)) | (go_at_call 37; go_must ((with_reducible refine Calls.mono (els_eq _ _ _ _ _ L' (fun _ => True) _ w9 (hown9.row fun _ _ _ => trivial) (hrow8.step hb9)) ?_); rintro _ w10 ⟨rfl, hb10⟩; dsimp only)) | (with_reducible refine Keep.last ?_) | (with_reducible refine Keep.below (by assumption) ?_) | (with_reducible refine Keep.kept (by assumption) ?_) | (with_reducible refine Keep.alloc ?_) | (with_reducible refine Keep.same ?_) | ((with_reducible refine WpH.here ?_); first | (refine WpH.nil ?_; refine NoP.normal ?_) | (refine WpH.load (by rfl) (by rfl) (by go_simp; rfl) ?_; simp only [Act.put, List.setIfInBounds_toArray, List.set_cons_zero, List.set_cons_succ]) | (refine WpH.loadT (by rfl) (by rfl) (by go_simp; rfl) (by rintro _ _ ⟨⟩; exact ⟨_, _, _, _, _, _, by rfl, by assumption, by assumption⟩) ?_; simp only [Act.put, List.setIfInBounds_toArray, List.set_cons_zero, List.set_cons_succ]) | (refine WpH.pure (by rfl) (fun w_ => by go_simp; (try go_bits); rfl) ?_; simp only [Act.put, List.setIfInBounds_toArray, List.set_cons_zero, List.set_cons_succ]) | (refine WpH.wild1 (by rfl) (fun _ _ => ?_)) | (refine WpH.skip (by rfl) ?_; simp only [Act.put, List.setIfInBounds_toArray, List.set_cons_zero, List.set_cons_succ])) | ((with_reducible refine WpO.here ?_); first | (refine WpO.done ?_; first | refine NoP.normal ?_ | refine NoO.normal ?_) | (refine WpO.load (by rfl) (by rfl) (by go_simp; rfl) ?_; simp only [Act.put, List.setIfInBounds_toArray, List.set_cons_zero, List.set_cons_succ]) | (refine WpO.loadT (by rfl) (by rfl) (by go_simp; rfl) (by rintro _ _ ⟨⟩; exact ⟨_, _, _, _, _, _, by rfl, by assumption, by assumption⟩) ?_; simp only [Act.put, List.setIfInBounds_toArray, List.set_cons_zero, List.set_cons_succ]) | (refine WpO.pure (by rfl) (fun w_ => by go_simp; (try go_bits); rfl) ?_; simp only [Act.put, List.setIfInBounds_toArray, List.set_cons_zero, List.set_cons_succ]) | (refine WpO.skip (by rfl) ?_; simp only [Act.put, List.setIfInBounds_toArray, List.set_cons_zero, List.set_cons_succ]) | refine WpO.wild ?_ | refine WpO.two ?_ ?_ | refine WpO.three ?_ ?_ ?_) | ((with_reducible refine wildO.here ?_); first | (refine wildO.go (by rfl) (fun _ _ => ?_)) | (refine wildO.skip (by rfl) ?_; simp only [Act.put, List.setIfInBounds_toArray, List.set_cons_zero, List.set_cons_succ])) | go_values | go_skip | go_guarded | go_step | go_upon | go_back)
          go_roundw
          case rel =>
            refine ⟨k + 1, Fr W.drew S1, L', A5, c5, by go_num, by omega, by omega, rfl, by omega, hcal', ?_, ?_, ((hrow8.step hb9).step hb10).more fun b _ h h' => ?_, bvia (bvia hb8' hb9) hb10⟩
            · rintro b (h | h)
              · exact hlow b h
              · exact Nat.le_trans hbM.size h
            · exact ((hM8.step hb9).step hb10).monoK (by omega)
            · rcases h' with h' | h'
              · exact h.1 h'
              · have h'' : W.heap.size ≤ b := h'
                have := h.2
                omega
          case measure => simp [intOf]; omega
        · refine Stop.go ?_
          have hb5' := undrew hb5
          have hMid := MidA.second (base := w.heap.size) (z0 := wr.heap.size) (ch := ch) (code := why) (L' := L') (A := A5) (c := c5) (id := idn) (v0 := .int .i64 why) (v1 := .slice N0 m0 e0) (v2 := .slice N1 m1 e1) hb5' hl1 hgx1 hMY hY HN5.out.1 (HN5.out.2.more fun b _ h => by
            rcases h with h | h
            · exact .inl h
            · exact .inr h)
          have hzY : w.heap.size ≤ Y.heap.size := hbY.size
          have hbM : Below w.heap.size w (((w5.setCell ⟨Y.heap.size, 0, none⟩ (.int .i64 why)).setCell ⟨Y.heap.size, 1, none⟩ (.slice N0 m0 e0)).setCell ⟨Y.heap.size, 2, none⟩ (.slice N1 m1 e1)) := bset (bset (bset (bvia (bvia hbY eN) hb5') hzY) hzY) hzY
          obtain ⟨hwhy, hch, hL'⟩ := Ha.out
          clear y0 y1 y2 d0 d1 d2 d3 HN5 hb5 hb5' hY hMY hrowY hN eN HR hN5 n0 n1 n2 f0 f1 f2 nl
          generalize ((w5.setCell ⟨Y.heap.size, 0, none⟩ (.int .i64 why)).setCell ⟨Y.heap.size, 1, none⟩ (.slice N0 m0 e0)).setCell ⟨Y.heap.size, 2, none⟩ (.slice N1 m1 e1) = W at *
          generalize Y.heap.size = gn at *
          have hxn := hMid.xn
          have hnn := hMid.nn
          have hlow := hMid.low
          have HA := hid (apply_step W.drew S1 (fun b => b < w.heap.size) mb L K o idn (hMid.mdl.keep fun _ _ _ => rfl) (by omega) (by omega) hidn (hcal.mono (by omega)) ((Hs.out.step hbM).drew))
          rw [← hwhy, ← hch, ← hL'] at HA
          unfold Opn.agg Nm.val at HA
          have hcl : ch.length ≤ 1073741824 := by rw [hch]; exact chOf_length _ _
          clear hwhy hch hL'
          have hbop : b1 < W.heap.size := Nat.lt_of_lt_of_le hbl hbM.size
          have d0 := kc hbM Hop.out.1
          have d1 := kc hbM Hop.out.2.1
          have d2 := kc hbM Hop.out.2.2.1
          have d3 := kc hbM Hop.out.2.2.2
          obtain ⟨cso, uo, zo, qop⟩ := cell_obj d0
          have qop' : W.drew.heap[b1]? = some (.cells cso uo zo) := qop
          have nop : ¬ S1 b1 := fun h => by have := hlow b1 h; omega
          have qid : W.drew.heap[gx]? = some (.cells #[.int .i64 idn.epoch, .int .i64 idn.rep, .int .i64 idn.num] 34 (0, 0)) := hMid.idb
          have y0 := hMid.idb.cell 0
          have y1 := hMid.idb.cell 1
          have y2 := hMid.idb.cell 2
          have hgx := hMid.idb.lt
          simp at y0 y1 y2
          repeat' (first | (with_reducible refine stop_region 13 ?_) | ((with_reducible refine region_at 12 ?_); refine wp_region_orderT (fun b => ¬ S1 b) [(0, true, false), (1, true, false), (2, true, false), (3, true, false), (4, true, false), (5, true, false), (6, false, false), (7, true, false)] (by kernel_rfl) (by kernel_rfl) (by kernel_rfl) rfl rfl ?_) | (go_at_call 67; go_must ((with_reducible refine Calls.mono HA.out ?_); rintro _ w7 ⟨v7, rfl, hev, hM7, hO7⟩; have hk7 : KeepT (fun b => ¬ S1 b) _ w7 := hO7.keepT _ (fun b hb => hb); dsimp only)) | (with_reducible refine Keep.last ?_) | (with_reducible refine Keep.below (by assumption) ?_) | (with_reducible refine Keep.kept (by assumption) ?_) | (with_reducible refine Keep.alloc ?_) | (with_reducible refine Keep.same ?_) | ((with_reducible refine WpH.here ?_); first | (refine WpH.nil ?_; refine NoP.normal ?_) | (refine WpH.load (by rfl) (by rfl) (by go_simp; rfl) ?_; simp only [Act.put, List.setIfInBounds_toArray, List.set_cons_zero, List.set_cons_succ]) | (refine WpH.loadT (by rfl) (by rfl) (by go_simp; rfl) (by rintro _ _ ⟨⟩; exact ⟨_, _, _, _, _, _, by rfl, by assumption, by assumption⟩) ?_; simp only [Act.put, List.setIfInBounds_toArray, List.set_cons_zero, List.set_cons_succ]) | (refine WpH.pure (by rfl) (fun w_ => by go_simp; (try go_bits); rfl) ?_; simp only [Act.put, List.setIfInBounds_toArray, List.set_cons_zero, List.set_cons_succ]) | (refine WpH.wild1 (by rfl) (fun _ _ => ?_)) | (refine WpH.skip (by rfl) ?_; simp only [Act.put, List.setIfInBounds_toArray, List.set_cons_zero, List.set_cons_succ])) | ((with_reducible refine WpO.here ?_); first | (refine WpO.done ?_; first | refine NoP.normal ?_ | refine NoO.normal ?_) | (refine WpO.load (by rfl) (by rfl) (by go_simp; rfl) ?_; simp only [Act.put, List.setIfInBounds_toArray, List.set_cons_zero, List.set_cons_succ]) | (refine WpO.loadT (by rfl) (by rfl) (by go_simp; rfl) (by rintro _ _ ⟨⟩; exact ⟨_, _, _, _, _, _, by rfl, by assumption, by assumption⟩) ?_; simp only [Act.put, List.setIfInBounds_toArray, List.set_cons_zero, List.set_cons_succ]) | (refine WpO.pure (by rfl) (fun w_ => by go_simp; (try go_bits); rfl) ?_; simp only [Act.put, List.setIfInBounds_toArray, List.set_cons_zero, List.set_cons_succ]) | (refine WpO.skip (by rfl) ?_; simp only [Act.put, List.setIfInBounds_toArray, List.set_cons_zero, List.set_cons_succ]) | refine WpO.wild ?_ | refine WpO.two ?_ ?_ | refine WpO.three ?_ ?_ ?_) | ((with_reducible refine wildO.here ?_); first | (refine wildO.go (by rfl) (fun _ _ => ?_)) | (refine wildO.skip (by rfl) ?_; simp only [Act.put, List.setIfInBounds_toArray, List.set_cons_zero, List.set_cons_succ])) | go_values | go_skip | go_guarded | go_step | go_upon | go_back)
          refine Stop.go ?_
          have hN7 := hO7.blk hMid.nob.drew hnn
          have hz7 : W.heap.size ≤ w7.heap.size := hO7.size
          have hs7 : Same (fun b => ¬ S1 b) W w7 := fun b hb hl => hO7.block b hl hb
          have hans7 := hMid.ans.keep hz7 hs7
          have hb7 : Below w.heap.size w w7 := hO7.below hbM.drew (Nat.le_refl _) hlow
          have hrow7 := (hMid.row.more (S' := fun b => ¬ S1 b ∧ b < W.heap.size) fun b hl h => ⟨h, hl⟩).keep (hs7.sub fun b h => h.1)
          have HF := hid (refused_step ch why v7 (.agg #[.int .i64 why, .slice N0 m0 e0, .slice N1 m1 e1]) _ _ _ w7 hev hans7 (Hs.out.step hb7) hcl)
          have n0 := hN7.cell 0
          have n1 := hN7.cell 1
          have n2 := hN7.cell 2
          have nl := hN7.lt
          simp at n0 n1 n2
          clear y0 y1 y2 d0 d1 d2 d3 qid qop qop' HA hk7 hev hans7
          repeat' (first | (with_reducible refine stop_region 16 ?_) | (go_at_call 28; go_must ((with_reducible refine Calls.mono HF.out ?_); rintro _ w8 ⟨rfl, hb8⟩; dsimp only)) | (with_reducible refine Keep.last ?_) | (with_reducible refine Keep.below (by assumption) ?_) | (with_reducible refine Keep.kept (by assumption) ?_) | (with_reducible refine Keep.alloc ?_) | (with_reducible refine Keep.same ?_) | ((with_reducible refine WpH.here ?_); first | (refine WpH.nil ?_; refine NoP.normal ?_) | (refine WpH.load (by rfl) (by rfl) (by go_simp; rfl) ?_; simp only [Act.put, List.setIfInBounds_toArray, List.set_cons_zero, List.set_cons_succ]) | (refine WpH.loadT (by rfl) (by rfl) (by go_simp; rfl) (by rintro _ _ ⟨⟩; exact ⟨_, _, _, _, _, _, by rfl, by assumption, by assumption⟩) ?_; simp only [Act.put, List.setIfInBounds_toArray, List.set_cons_zero, List.set_cons_succ]) | (refine WpH.pure (by rfl) (fun w_ => by go_simp; (try go_bits); rfl) ?_; simp only [Act.put, List.setIfInBounds_toArray, List.set_cons_zero, List.set_cons_succ]) | (refine WpH.wild1 (by rfl) (fun _ _ => ?_)) | (refine WpH.skip (by rfl) ?_; simp only [Act.put, List.setIfInBounds_toArray, List.set_cons_zero, List.set_cons_succ])) | ((with_reducible refine WpO.here ?_); first | (refine WpO.done ?_; first | refine NoP.normal ?_ | refine NoO.normal ?_) | (refine WpO.load (by rfl) (by rfl) (by go_simp; rfl) ?_; simp only [Act.put, List.setIfInBounds_toArray, List.set_cons_zero, List.set_cons_succ]) | (refine WpO.loadT (by rfl) (by rfl) (by go_simp; rfl) (by rintro _ _ ⟨⟩; exact ⟨_, _, _, _, _, _, by rfl, by assumption, by assumption⟩) ?_; simp only [Act.put, List.setIfInBounds_toArray, List.set_cons_zero, List.set_cons_succ]) | (refine WpO.pure (by rfl) (fun w_ => by go_simp; (try go_bits); rfl) ?_; simp only [Act.put, List.setIfInBounds_toArray, List.set_cons_zero, List.set_cons_succ]) | (refine WpO.skip (by rfl) ?_; simp only [Act.put, List.setIfInBounds_toArray, List.set_cons_zero, List.set_cons_succ]) | refine WpO.wild ?_ | refine WpO.two ?_ ?_ | refine WpO.three ?_ ?_ ?_) | ((with_reducible refine wildO.here ?_); first | (refine wildO.go (by rfl) (fun _ _ => ?_)) | (refine wildO.skip (by rfl) ?_; simp only [Act.put, List.setIfInBounds_toArray, List.set_cons_zero, List.set_cons_succ])) | go_values | go_skip | go_guarded | go_step | go_upon | go_back)
          refine Stop.go ?_
          have hM8 := hM7.step hb8
          have hrow8 := hrow7.step hb8
          have hb8' := bvia hb7 hb8
          have HE := hid (melements_any w8 _ mb L' _ hM8 (by omega))
          repeat' (first | (go_at_call 69; go_must ((with_reducible refine Calls.mono HE.out ?_); rintro _ w9 ⟨A9, c9, rfl, hown9, hb9⟩; dsimp only)) | (go_at_call 37; go_must ((with_reducible refine Calls.mono (els_eq _ _ _ _ _ L' (fun _ => True) _ w9 (hown9.row fun _ _ _ => trivial) (hrow8.step hb9)) ?_); rintro _ w10 ⟨rfl, hb10⟩; dsimp only)) | (with_reducible refine Keep.last ?_) | (with_reducible refine Keep.below (by assumption) ?_) | (with_reducible refine Keep.kept (by assumption) ?_) | (with_reducible refine Keep.alloc ?_) | (with_reducible refine Keep.same ?_) | ((with_reducible refine WpH.here ?_); first | (refine WpH.nil ?_; refine NoP.normal ?_) | (refine WpH.load (by rfl) (by rfl) (by go_simp; rfl) ?_; simp only [Act.put, List.setIfInBounds_toArray, List.set_cons_zero, List.set_cons_succ]) | (refine WpH.loadT (by rfl) (by rfl) (by go_simp; rfl) (by rintro _ _ ⟨⟩; exact ⟨_, _, _, _, _, _, by rfl, by assumption, by assumption⟩) ?_; simp only [Act.put, List.setIfInBounds_toArray, List.set_cons_zero, List.set_cons_succ]) | (refine WpH.pure (by rfl) (fun w_ => by go_simp; (try go_bits); rfl) ?_; simp only [Act.put, List.setIfInBounds_toArray, List.set_cons_zero, List.set_cons_succ]) | (refine WpH.wild1 (by rfl) (fun _ _ => ?_)) | (refine WpH.skip (by rfl) ?_; simp only [Act.put, List.setIfInBounds_toArray, List.set_cons_zero, List.set_cons_succ])) | ((with_reducible refine WpO.here ?_); first | (refine WpO.done ?_; first | refine NoP.normal ?_ | refine NoO.normal ?_) | (refine WpO.load (by rfl) (by rfl) (by go_simp; rfl) ?_; simp only [Act.put, List.setIfInBounds_toArray, List.set_cons_zero, List.set_cons_succ]) | (refine WpO.loadT (by rfl) (by rfl) (by go_simp; rfl) (by rintro _ _ ⟨⟩; exact ⟨_, _, _, _, _, _, by rfl, by assumption, by assumption⟩) ?_; simp only [Act.put, List.setIfInBounds_toArray, List.set_cons_zero, List.set_cons_succ]) | (refine WpO.pure (by rfl) (fun w_ => by go_simp; (try go_bits); rfl) ?_; simp only [Act.put, List.setIfInBounds_toArray, List.set_cons_zero, List.set_cons_succ]) | (refine WpO.skip (by rfl) ?_; simp only [Act.put, List.setIfInBounds_toArray, List.set_cons_zero, List.set_cons_succ]) | refine WpO.wild ?_ | refine WpO.two ?_ ?_ | refine WpO.three ?_ ?_ ?_) | ((with_reducible refine wildO.here ?_); first | (refine wildO.go (by rfl) (fun _ _ => ?_)) | (refine wildO.skip (by rfl) ?_; simp only [Act.put, List.setIfInBounds_toArray, List.set_cons_zero, List.set_cons_succ])) | go_values | go_skip | go_guarded | go_step | go_upon | go_back)
          go_roundw
          case rel =>
            refine ⟨k + 1, Fr W.drew S1, L', A5, c5, by go_num, by omega, by omega, rfl, by omega, hcal', ?_, ?_, ((hrow8.step hb9).step hb10).more fun b _ h h' => ?_, bvia (bvia hb8' hb9) hb10⟩
            · rintro b (h | h)
              · exact hlow b h
              · exact Nat.le_trans hbM.size h
            · exact ((hM8.step hb9).step hb10).monoK (by omega)
            · rcases h' with h' | h'
              · exact h.1 h'
              · have h'' : W.heap.size ≤ b := h'
                have := h.2
                omega
          case measure => simp [intOf]; omega
      · obtain ⟨idn, hi0⟩ : ∃ idn : Nm, idn = ⟨9, 0, k⟩ := ⟨_, rfl⟩
        have hidn : idn.In := by rw [hi0]; exact ⟨by show I64 9; exact ⟨by decide, by decide⟩, by show I64 0; exact ⟨by decide, by decide⟩, by show I64 (k : Int); unfold I64; omega⟩
        have hY : Blk X gx 34 #[.int .i64 idn.epoch, .int .i64 idn.rep, .int .i64 idn.num] := by rw [hi0]; exact hX
        have hbY := hbX
        have hMY0 := hMX
        have hrowY0 := hrowX.more (S' := fun b => ¬ S b) fun b _ h => h.1
        clear hi0 hX hMX hrowX hbX eX
        generalize X = Y at *
        obtain ⟨S1, hS1⟩ : ∃ S1 : Nat → Prop, S1 = fun b => S b ∧ b < wr.heap.size := ⟨_, rfl⟩
        have hl1 : ∀ b, S1 b → w.heap.size ≤ b ∧ b < wr.heap.size := fun b h => by rw [hS1] at h; exact ⟨hlow0 b h.1, h.2⟩
        have hMY : Mdl Y S1 mb L K := by rw [hS1]; exact hMY0
        have hrowY : Row Y (fun b => ¬ S1 b ∧ b < Y.heap.size) A1 L.length c1 L := hrowY0.more fun b hl h => ⟨fun h' => by rw [hS1] at h'; exact h h'.1, hl⟩
        clear hMY0 hrowY0 hS1 hlow0
        obtain ⟨why, hwhy⟩ : ∃ why, why = whyOf L o idn := ⟨_, rfl⟩
        obtain ⟨ch, hch⟩ : ∃ ch, ch = chOf o why := ⟨_, rfl⟩
        obtain ⟨L', hL'⟩ : ∃ L', L' = appOf L o idn := ⟨_, rfl⟩
        have hlen' : L'.length ≤ L.length + 1 := by rw [hL']; exact appOf_length L o idn
        have hcal' : Calm (2 + (k + 1 : Nat)) L' := by rw [hL']; exact (appOf_calm hcal (by omega) o idn).mono (by omega)
        have HR := hid (fun V (hb : Below Y.heap.size Y V) => refApply_step A1 L.length c1 L (fun b => ¬ S1 b ∧ b < Y.heap.size) (fun _ => False) o idn V (hrowY.step hb) (by omega) (hcal.mono (by omega)))
        rw [← hwhy, ← hch, ← hL'] at HR
        unfold Opn.agg Nm.val at HR
        have hbop : b1 < Y.heap.size := Nat.lt_of_lt_of_le hbl hbY.size
        have d0 := kc hbY Hop.out.1
        have d1 := kc hbY Hop.out.2.1
        have d2 := kc hbY Hop.out.2.2.1
        have d3 := kc hbY Hop.out.2.2.2
        have y0 := hY.cell 0
        have y1 := hY.cell 1
        have y2 := hY.cell 2
        have yl := hY.lt
        simp at y0 y1 y2
        have eN : Below Y.heap.size Y (Y.alloc (.cells #[.int .i64 0, .slice none 0 0, .slice none 0 0] 50)) := balloc (Below.refl _ _)
        have hN := Blk.new Y 50 #[.int .i64 0, .slice none 0 0, .slice none 0 0]
        have Ha := hid (And.intro hwhy (And.intro hch hL'))
        clear hwhy hch hL'
        repeat' (first | (with_reducible refine stop_region 12 ?_) | ((with_reducible refine region_at 11 ?_); refine wp_region_ordT (fun _ => True) (.one 0 true false (.one 1 true false (.one 2 true false (.one 3 true false (.one 4 true false (.one 5 true false (.two 6 10 (.one 7 true false (.one 8 true false (.one 9 true false (.one 10 false false (.one 11 true false (.one 12 false true .nil)))))) (.one 6 false false (.one 7 true false (.one 8 true false (.one 9 true false (.one 11 true false (.one 12 false true .nil))))))))))))) (by kernel_rfl) (by kernel_rfl) (by kernel_rfl) rfl rfl ?_) | (with_reducible refine Keep.last ?_) | (with_reducible refine Keep.allocD ?_) | (go_at_call 71; go_must ((with_reducible refine Calls.mono (HR.out _ (by (repeat' (first | (with_reducible exact Below.refl _ _) | (with_reducible assumption) | (with_reducible refine balloc ?_) | (with_reducible refine bdrew ?_) | (with_reducible refine bset ?_ (by (try dsimp only); omega)) | (with_reducible refine bvia ?_ (by assumption)))))) ?_); rintro _ w5 ⟨A5, c5, v5, rfl, hrow5, hno5, hb5⟩; have HN5 := hid (And.intro hno5 hrow5); obtain ⟨N0, m0, e0, N1, m1, e1, rfl⟩ := hno5.shape; (try (have hN5 := hN.drew.step hb5; have n0 := hN5.cell 0; have n1 := hN5.cell 1; have n2 := hN5.cell 2; have f0 := hN5.frozen 0; have f1 := hN5.frozen 1; have f2 := hN5.frozen 2; have nl := hN5.lt; simp at n0 n1 n2)); clear hno5 hrow5; dsimp only)) | (with_reducible refine Keep.last ?_) | (with_reducible refine Keep.below (by assumption) ?_) | (with_reducible refine Keep.kept (by assumption) ?_) | (with_reducible refine Keep.alloc ?_) | (with_reducible refine Keep.same ?_) | ((with_reducible refine WpH.here ?_); first | (refine WpH.nil ?_; refine NoP.normal ?_) | (refine WpH.load (by rfl) (by rfl) (by go_simp; rfl) ?_; simp only [Act.put, List.setIfInBounds_toArray, List.set_cons_zero, List.set_cons_succ]) | (refine WpH.loadT (by rfl) (by rfl) (by go_simp; rfl) (by rintro _ _ ⟨⟩; exact ⟨_, _, _, _, _, _, by rfl, by assumption, by assumption⟩) ?_; simp only [Act.put, List.setIfInBounds_toArray, List.set_cons_zero, List.set_cons_succ]) | (refine WpH.pure (by rfl) (fun w_ => by go_simp; (try go_bits); rfl) ?_; simp only [Act.put, List.setIfInBounds_toArray, List.set_cons_zero, List.set_cons_succ]) | (refine WpH.wild1 (by rfl) (fun _ _ => ?_)) | (refine WpH.skip (by rfl) ?_; simp only [Act.put, List.setIfInBounds_toArray, List.set_cons_zero, List.set_cons_succ])) | ((with_reducible refine WpO.here ?_); first | (refine WpO.done ?_; first | refine NoP.normal ?_ | refine NoO.normal ?_) | (refine WpO.load (by rfl) (by rfl) (by go_simp; rfl) ?_; simp only [Act.put, List.setIfInBounds_toArray, List.set_cons_zero, List.set_cons_succ]) | (refine WpO.loadT (by rfl) (by rfl) (by go_simp; rfl) (by rintro _ _ ⟨⟩; exact ⟨_, _, _, _, _, _, by rfl, by assumption, by assumption⟩) ?_; simp only [Act.put, List.setIfInBounds_toArray, List.set_cons_zero, List.set_cons_succ]) | (refine WpO.pure (by rfl) (fun w_ => by go_simp; (try go_bits); rfl) ?_; simp only [Act.put, List.setIfInBounds_toArray, List.set_cons_zero, List.set_cons_succ]) | (refine WpO.skip (by rfl) ?_; simp only [Act.put, List.setIfInBounds_toArray, List.set_cons_zero, List.set_cons_succ]) | refine WpO.wild ?_ | refine WpO.two ?_ ?_ | refine WpO.three ?_ ?_ ?_) | ((with_reducible refine wildO.here ?_); first | (refine wildO.go (by rfl) (fun _ _ => ?_)) | (refine wildO.skip (by rfl) ?_; simp only [Act.put, List.setIfInBounds_toArray, List.set_cons_zero, List.set_cons_succ])) | go_values | go_skip | go_guarded | go_step | go_upon | go_back)
        · refine Stop.go ?_
          have hb5' := undrew hb5
          have hMid := MidA.first (base := w.heap.size) (z0 := wr.heap.size) (ch := ch) (code := why) (L' := L') (A := A5) (c := c5) (id := idn) (v0 := .int .i64 why) (v1 := .slice N0 m0 e0) (v2 := .slice N1 m1 e1) hb5' hl1 hgx1 hMY hY HN5.out.1 (HN5.out.2.more fun b _ h => by
            rcases h with h | h
            · exact .inl h.1
            · exact .inr h)
          have hbM : Below w.heap.size w (w5.alloc (.cells #[.int .i64 why, .slice N0 m0 e0, .slice N1 m1 e1] 50)) := balloc (bvia hbY hb5')
          obtain ⟨hwhy, hch, hL'⟩ := Ha.out
          clear y0 y1 y2 d0 d1 d2 d3 HN5 hb5 hb5' hY hMY hrowY hN eN HR
          generalize w5.alloc (.cells #[.int .i64 why, .slice N0 m0 e0, .slice N1 m1 e1] 50) = W at *
          generalize w5.heap.size = gn at *
          have hxn := hMid.xn
          have hnn := hMid.nn
          have hlow := hMid.low
          have HA := hid (apply_step W.drew S1 (fun b => b < w.heap.size) mb L K o idn (hMid.mdl.keep fun _ _ _ => rfl) (by omega) (by omega) hidn (hcal.mono (by omega)) ((Hs.out.step hbM).drew))
          rw [← hwhy, ← hch, ← hL'] at HA
          unfold Opn.agg Nm.val at HA
          have hcl : ch.length ≤ 1073741824 := by rw [hch]; exact chOf_length _ _
          clear hwhy hch hL'
          have hbop : b1 < W.heap.size := Nat.lt_of_lt_of_le hbl hbM.size
          have d0 := kc hbM Hop.out.1
          have d1 := kc hbM Hop.out.2.1
          have d2 := kc hbM Hop.out.2.2.1
          have d3 := kc hbM Hop.out.2.2.2
          obtain ⟨cso, uo, zo, qop⟩ := cell_obj d0
          have qop' : W.drew.heap[b1]? = some (.cells cso uo zo) := qop
          have nop : ¬ S1 b1 := fun h => by have := hlow b1 h; omega
          have qid : W.drew.heap[gx]? = some (.cells #[.int .i64 idn.epoch, .int .i64 idn.rep, .int .i64 idn.num] 34 (0, 0)) := hMid.idb
          have y0 := hMid.idb.cell 0
          have y1 := hMid.idb.cell 1
          have y2 := hMid.idb.cell 2
          have hgx := hMid.idb.lt
          simp at y0 y1 y2
          repeat' (first | (with_reducible refine stop_region 13 ?_) | ((with_reducible refine region_at 12 ?_); refine wp_region_orderT (fun b => ¬ S1 b) [(0, true, false), (1, true, false), (2, true, false), (3, true, false), (4, true, false), (5, true, false), (6, false, false), (7, true, false)] (by kernel_rfl) (by kernel_rfl) (by kernel_rfl) rfl rfl ?_) | (go_at_call 67; go_must ((with_reducible refine Calls.mono HA.out ?_); rintro _ w7 ⟨v7, rfl, hev, hM7, hO7⟩; have hk7 : KeepT (fun b => ¬ S1 b) _ w7 := hO7.keepT _ (fun b hb => hb); dsimp only)) | (with_reducible refine Keep.last ?_) | (with_reducible refine Keep.below (by assumption) ?_) | (with_reducible refine Keep.kept (by assumption) ?_) | (with_reducible refine Keep.alloc ?_) | (with_reducible refine Keep.same ?_) | ((with_reducible refine WpH.here ?_); first | (refine WpH.nil ?_; refine NoP.normal ?_) | (refine WpH.load (by rfl) (by rfl) (by go_simp; rfl) ?_; simp only [Act.put, List.setIfInBounds_toArray, List.set_cons_zero, List.set_cons_succ]) | (refine WpH.loadT (by rfl) (by rfl) (by go_simp; rfl) (by rintro _ _ ⟨⟩; exact ⟨_, _, _, _, _, _, by rfl, by assumption, by assumption⟩) ?_; simp only [Act.put, List.setIfInBounds_toArray, List.set_cons_zero, List.set_cons_succ]) | (refine WpH.pure (by rfl) (fun w_ => by go_simp; (try go_bits); rfl) ?_; simp only [Act.put, List.setIfInBounds_toArray, List.set_cons_zero, List.set_cons_succ]) | (refine WpH.wild1 (by rfl) (fun _ _ => ?_)) | (refine WpH.skip (by rfl) ?_; simp only [Act.put, List.setIfInBounds_toArray, List.set_cons_zero, List.set_cons_succ])) | ((with_reducible refine WpO.here ?_); first | (refine WpO.done ?_; first | refine NoP.normal ?_ | refine NoO.normal ?_) | (refine WpO.load (by rfl) (by rfl) (by go_simp; rfl) ?_; simp only [Act.put, List.setIfInBounds_toArray, List.set_cons_zero, List.set_cons_succ]) | (refine WpO.loadT (by rfl) (by rfl) (by go_simp; rfl) (by rintro _ _ ⟨⟩; exact ⟨_, _, _, _, _, _, by rfl, by assumption, by assumption⟩) ?_; simp only [Act.put, List.setIfInBounds_toArray, List.set_cons_zero, List.set_cons_succ]) | (refine WpO.pure (by rfl) (fun w_ => by go_simp; (try go_bits); rfl) ?_; simp only [Act.put, List.setIfInBounds_toArray, List.set_cons_zero, List.set_cons_succ]) | (refine WpO.skip (by rfl) ?_; simp only [Act.put, List.setIfInBounds_toArray, List.set_cons_zero, List.set_cons_succ]) | refine WpO.wild ?_ | refine WpO.two ?_ ?_ | refine WpO.three ?_ ?_ ?_) | ((with_reducible refine wildO.here ?_); first | (refine wildO.go (by rfl) (fun _ _ => ?_)) | (refine wildO.skip (by rfl) ?_; simp only [Act.put, List.setIfInBounds_toArray, List.set_cons_zero, List.set_cons_succ])) | go_values | go_skip | go_guarded | go_step | go_upon | go_back)
          refine Stop.go ?_
          have hN7 := hO7.blk hMid.nob.drew hnn
          have hz7 : W.heap.size ≤ w7.heap.size := hO7.size
          have hs7 : Same (fun b => ¬ S1 b) W w7 := fun b hb hl => hO7.block b hl hb
          have hans7 := hMid.ans.keep hz7 hs7
          have hb7 : Below w.heap.size w w7 := hO7.below hbM.drew (Nat.le_refl _) hlow
          have hrow7 := (hMid.row.more (S' := fun b => ¬ S1 b ∧ b < W.heap.size) fun b hl h => ⟨h, hl⟩).keep (hs7.sub fun b h => h.1)
          have HF := hid (refused_step ch why v7 (.agg #[.int .i64 why, .slice N0 m0 e0, .slice N1 m1 e1]) _ _ _ w7 hev hans7 (Hs.out.step hb7) hcl)
          have n0 := hN7.cell 0
          have n1 := hN7.cell 1
          have n2 := hN7.cell 2
          have nl := hN7.lt
          simp at n0 n1 n2
          clear y0 y1 y2 d0 d1 d2 d3 qid qop qop' HA hk7 hev hans7
          repeat' (first | (with_reducible refine stop_region 16 ?_) | (go_at_call 28; go_must ((with_reducible refine Calls.mono HF.out ?_); rintro _ w8 ⟨rfl, hb8⟩; dsimp only)) | (with_reducible refine Keep.last ?_) | (with_reducible refine Keep.below (by assumption) ?_) | (with_reducible refine Keep.kept (by assumption) ?_) | (with_reducible refine Keep.alloc ?_) | (with_reducible refine Keep.same ?_) | ((with_reducible refine WpH.here ?_); first | (refine WpH.nil ?_; refine NoP.normal ?_) | (refine WpH.load (by rfl) (by rfl) (by go_simp; rfl) ?_; simp only [Act.put, List.setIfInBounds_toArray, List.set_cons_zero, List.set_cons_succ]) | (refine WpH.loadT (by rfl) (by rfl) (by go_simp; rfl) (by rintro _ _ ⟨⟩; exact ⟨_, _, _, _, _, _, by rfl, by assumption, by assumption⟩) ?_; simp only [Act.put, List.setIfInBounds_toArray, List.set_cons_zero, List.set_cons_succ]) | (refine WpH.pure (by rfl) (fun w_ => by go_simp; (try go_bits); rfl) ?_; simp only [Act.put, List.setIfInBounds_toArray, List.set_cons_zero, List.set_cons_succ]) | (refine WpH.wild1 (by rfl) (fun _ _ => ?_)) | (refine WpH.skip (by rfl) ?_; simp only [Act.put, List.setIfInBounds_toArray, List.set_cons_zero, List.set_cons_succ])) | ((with_reducible refine WpO.here ?_); first | (refine WpO.done ?_; first | refine NoP.normal ?_ | refine NoO.normal ?_) | (refine WpO.load (by rfl) (by rfl) (by go_simp; rfl) ?_; simp only [Act.put, List.setIfInBounds_toArray, List.set_cons_zero, List.set_cons_succ]) | (refine WpO.loadT (by rfl) (by rfl) (by go_simp; rfl) (by rintro _ _ ⟨⟩; exact ⟨_, _, _, _, _, _, by rfl, by assumption, by assumption⟩) ?_; simp only [Act.put, List.setIfInBounds_toArray, List.set_cons_zero, List.set_cons_succ]) | (refine WpO.pure (by rfl) (fun w_ => by go_simp; (try go_bits); rfl) ?_; simp only [Act.put, List.setIfInBounds_toArray, List.set_cons_zero, List.set_cons_succ]) | (refine WpO.skip (by rfl) ?_; simp only [Act.put, List.setIfInBounds_toArray, List.set_cons_zero, List.set_cons_succ]) | refine WpO.wild ?_ | refine WpO.two ?_ ?_ | refine WpO.three ?_ ?_ ?_) | ((with_reducible refine wildO.here ?_); first | (refine wildO.go (by rfl) (fun _ _ => ?_)) | (refine wildO.skip (by rfl) ?_; simp only [Act.put, List.setIfInBounds_toArray, List.set_cons_zero, List.set_cons_succ])) | go_values | go_skip | go_guarded | go_step | go_upon | go_back)
          refine Stop.go ?_
          have hM8 := hM7.step hb8
          have hrow8 := hrow7.step hb8
          have hb8' := bvia hb7 hb8
          have HE := hid (melements_any w8 _ mb L' _ hM8 (by omega))
          repeat' (first | (go_at_call 69; go_must ((with_reducible refine Calls.mono HE.out ?_); rintro _ w9 ⟨A9, c9, rfl, hown9, hb9⟩; dsimp only)) | (go_at_call 37; go_must ((with_reducible refine Calls.mono (els_eq _ _ _ _ _ L' (fun _ => True) _ w9 (hown9.row fun _ _ _ => trivial) (hrow8.step hb9)) ?_); rintro _ w10 ⟨rfl, hb10⟩; dsimp only)) | (with_reducible refine Keep.last ?_) | (with_reducible refine Keep.below (by assumption) ?_) | (with_reducible refine Keep.kept (by assumption) ?_) | (with_reducible refine Keep.alloc ?_) | (with_reducible refine Keep.same ?_) | ((with_reducible refine WpH.here ?_); first | (refine WpH.nil ?_; refine NoP.normal ?_) | (refine WpH.load (by rfl) (by rfl) (by go_simp; rfl) ?_; simp only [Act.put, List.setIfInBounds_toArray, List.set_cons_zero, List.set_cons_succ]) | (refine WpH.loadT (by rfl) (by rfl) (by go_simp; rfl) (by rintro _ _ ⟨⟩; exact ⟨_, _, _, _, _, _, by rfl, by assumption, by assumption⟩) ?_; simp only [Act.put, List.setIfInBounds_toArray, List.set_cons_zero, List.set_cons_succ]) | (refine WpH.pure (by rfl) (fun w_ => by go_simp; (try go_bits); rfl) ?_; simp only [Act.put, List.setIfInBounds_toArray, List.set_cons_zero, List.set_cons_succ]) | (refine WpH.wild1 (by rfl) (fun _ _ => ?_)) | (refine WpH.skip (by rfl) ?_; simp only [Act.put, List.setIfInBounds_toArray, List.set_cons_zero, List.set_cons_succ])) | ((with_reducible refine WpO.here ?_); first | (refine WpO.done ?_; first | refine NoP.normal ?_ | refine NoO.normal ?_) | (refine WpO.load (by rfl) (by rfl) (by go_simp; rfl) ?_; simp only [Act.put, List.setIfInBounds_toArray, List.set_cons_zero, List.set_cons_succ]) | (refine WpO.loadT (by rfl) (by rfl) (by go_simp; rfl) (by rintro _ _ ⟨⟩; exact ⟨_, _, _, _, _, _, by rfl, by assumption, by assumption⟩) ?_; simp only [Act.put, List.setIfInBounds_toArray, List.set_cons_zero, List.set_cons_succ]) | (refine WpO.pure (by rfl) (fun w_ => by go_simp; (try go_bits); rfl) ?_; simp only [Act.put, List.setIfInBounds_toArray, List.set_cons_zero, List.set_cons_succ]) | (refine WpO.skip (by rfl) ?_; simp only [Act.put, List.setIfInBounds_toArray, List.set_cons_zero, List.set_cons_succ]) | refine WpO.wild ?_ | refine WpO.two ?_ ?_ | refine WpO.three ?_ ?_ ?_) | ((with_reducible refine wildO.here ?_); first | (refine wildO.go (by rfl) (fun _ _ => ?_)) | (refine wildO.skip (by rfl) ?_; simp only [Act.put, List.setIfInBounds_toArray, List.set_cons_zero, List.set_cons_succ])) | go_values | go_skip | go_guarded | go_step | go_upon | go_back)
          go_roundw
          case rel =>
            refine ⟨k + 1, Fr W.drew S1, L', A5, c5, by go_num, by omega, by omega, rfl, by omega, hcal', ?_, ?_, ((hrow8.step hb9).step hb10).more fun b _ h h' => ?_, bvia (bvia hb8' hb9) hb10⟩
            · rintro b (h | h)
              · exact hlow b h
              · exact Nat.le_trans hbM.size h
            · exact ((hM8.step hb9).step hb10).monoK (by omega)
            · rcases h' with h' | h'
              · exact h.1 h'
              · have h'' : W.heap.size ≤ b := h'
                have := h.2
                omega
          case measure => simp [intOf]; omega
        · refine Stop.go ?_
          have hb5' := undrew hb5
          have hMid := MidA.second (base := w.heap.size) (z0 := wr.heap.size) (ch := ch) (code := why) (L' := L') (A := A5) (c := c5) (id := idn) (v0 := .int .i64 why) (v1 := .slice N0 m0 e0) (v2 := .slice N1 m1 e1) hb5' hl1 hgx1 hMY hY HN5.out.1 (HN5.out.2.more fun b _ h => by
            rcases h with h | h
            · exact .inl h
            · exact .inr h)
          have hzY : w.heap.size ≤ Y.heap.size := hbY.size
          have hbM : Below w.heap.size w (((w5.setCell ⟨Y.heap.size, 0, none⟩ (.int .i64 why)).setCell ⟨Y.heap.size, 1, none⟩ (.slice N0 m0 e0)).setCell ⟨Y.heap.size, 2, none⟩ (.slice N1 m1 e1)) := bset (bset (bset (bvia (bvia hbY eN) hb5') hzY) hzY) hzY
          obtain ⟨hwhy, hch, hL'⟩ := Ha.out
          clear y0 y1 y2 d0 d1 d2 d3 HN5 hb5 hb5' hY hMY hrowY hN eN HR hN5 n0 n1 n2 f0 f1 f2 nl
          generalize ((w5.setCell ⟨Y.heap.size, 0, none⟩ (.int .i64 why)).setCell ⟨Y.heap.size, 1, none⟩ (.slice N0 m0 e0)).setCell ⟨Y.heap.size, 2, none⟩ (.slice N1 m1 e1) = W at *
          generalize Y.heap.size = gn at *
          have hxn := hMid.xn
          have hnn := hMid.nn
          have hlow := hMid.low
          have HA := hid (apply_step W.drew S1 (fun b => b < w.heap.size) mb L K o idn (hMid.mdl.keep fun _ _ _ => rfl) (by omega) (by omega) hidn (hcal.mono (by omega)) ((Hs.out.step hbM).drew))
          rw [← hwhy, ← hch, ← hL'] at HA
          unfold Opn.agg Nm.val at HA
          have hcl : ch.length ≤ 1073741824 := by rw [hch]; exact chOf_length _ _
          clear hwhy hch hL'
          have hbop : b1 < W.heap.size := Nat.lt_of_lt_of_le hbl hbM.size
          have d0 := kc hbM Hop.out.1
          have d1 := kc hbM Hop.out.2.1
          have d2 := kc hbM Hop.out.2.2.1
          have d3 := kc hbM Hop.out.2.2.2
          obtain ⟨cso, uo, zo, qop⟩ := cell_obj d0
          have qop' : W.drew.heap[b1]? = some (.cells cso uo zo) := qop
          have nop : ¬ S1 b1 := fun h => by have := hlow b1 h; omega
          have qid : W.drew.heap[gx]? = some (.cells #[.int .i64 idn.epoch, .int .i64 idn.rep, .int .i64 idn.num] 34 (0, 0)) := hMid.idb
          have y0 := hMid.idb.cell 0
          have y1 := hMid.idb.cell 1
          have y2 := hMid.idb.cell 2
          have hgx := hMid.idb.lt
          simp at y0 y1 y2
          repeat' (first | (with_reducible refine stop_region 13 ?_) | ((with_reducible refine region_at 12 ?_); refine wp_region_orderT (fun b => ¬ S1 b) [(0, true, false), (1, true, false), (2, true, false), (3, true, false), (4, true, false), (5, true, false), (6, false, false), (7, true, false)] (by kernel_rfl) (by kernel_rfl) (by kernel_rfl) rfl rfl ?_) | (go_at_call 67; go_must ((with_reducible refine Calls.mono HA.out ?_); rintro _ w7 ⟨v7, rfl, hev, hM7, hO7⟩; have hk7 : KeepT (fun b => ¬ S1 b) _ w7 := hO7.keepT _ (fun b hb => hb); dsimp only)) | (with_reducible refine Keep.last ?_) | (with_reducible refine Keep.below (by assumption) ?_) | (with_reducible refine Keep.kept (by assumption) ?_) | (with_reducible refine Keep.alloc ?_) | (with_reducible refine Keep.same ?_) | ((with_reducible refine WpH.here ?_); first | (refine WpH.nil ?_; refine NoP.normal ?_) | (refine WpH.load (by rfl) (by rfl) (by go_simp; rfl) ?_; simp only [Act.put, List.setIfInBounds_toArray, List.set_cons_zero, List.set_cons_succ]) | (refine WpH.loadT (by rfl) (by rfl) (by go_simp; rfl) (by rintro _ _ ⟨⟩; exact ⟨_, _, _, _, _, _, by rfl, by assumption, by assumption⟩) ?_; simp only [Act.put, List.setIfInBounds_toArray, List.set_cons_zero, List.set_cons_succ]) | (refine WpH.pure (by rfl) (fun w_ => by go_simp; (try go_bits); rfl) ?_; simp only [Act.put, List.setIfInBounds_toArray, List.set_cons_zero, List.set_cons_succ]) | (refine WpH.wild1 (by rfl) (fun _ _ => ?_)) | (refine WpH.skip (by rfl) ?_; simp only [Act.put, List.setIfInBounds_toArray, List.set_cons_zero, List.set_cons_succ])) | ((with_reducible refine WpO.here ?_); first | (refine WpO.done ?_; first | refine NoP.normal ?_ | refine NoO.normal ?_) | (refine WpO.load (by rfl) (by rfl) (by go_simp; rfl) ?_; simp only [Act.put, List.setIfInBounds_toArray, List.set_cons_zero, List.set_cons_succ]) | (refine WpO.loadT (by rfl) (by rfl) (by go_simp; rfl) (by rintro _ _ ⟨⟩; exact ⟨_, _, _, _, _, _, by rfl, by assumption, by assumption⟩) ?_; simp only [Act.put, List.setIfInBounds_toArray, List.set_cons_zero, List.set_cons_succ]) | (refine WpO.pure (by rfl) (fun w_ => by go_simp; (try go_bits); rfl) ?_; simp only [Act.put, List.setIfInBounds_toArray, List.set_cons_zero, List.set_cons_succ]) | (refine WpO.skip (by rfl) ?_; simp only [Act.put, List.setIfInBounds_toArray, List.set_cons_zero, List.set_cons_succ]) | refine WpO.wild ?_ | refine WpO.two ?_ ?_ | refine WpO.three ?_ ?_ ?_) | ((with_reducible refine wildO.here ?_); first | (refine wildO.go (by rfl) (fun _ _ => ?_)) | (refine wildO.skip (by rfl) ?_; simp only [Act.put, List.setIfInBounds_toArray, List.set_cons_zero, List.set_cons_succ])) | go_values | go_skip | go_guarded | go_step | go_upon | go_back)
          refine Stop.go ?_
          have hN7 := hO7.blk hMid.nob.drew hnn
          have hz7 : W.heap.size ≤ w7.heap.size := hO7.size
          have hs7 : Same (fun b => ¬ S1 b) W w7 := fun b hb hl => hO7.block b hl hb
          have hans7 := hMid.ans.keep hz7 hs7
          have hb7 : Below w.heap.size w w7 := hO7.below hbM.drew (Nat.le_refl _) hlow
          have hrow7 := (hMid.row.more (S' := fun b => ¬ S1 b ∧ b < W.heap.size) fun b hl h => ⟨h, hl⟩).keep (hs7.sub fun b h => h.1)
          have HF := hid (refused_step ch why v7 (.agg #[.int .i64 why, .slice N0 m0 e0, .slice N1 m1 e1]) _ _ _ w7 hev hans7 (Hs.out.step hb7) hcl)
          have n0 := hN7.cell 0
          have n1 := hN7.cell 1
          have n2 := hN7.cell 2
          have nl := hN7.lt
          simp at n0 n1 n2
          clear y0 y1 y2 d0 d1 d2 d3 qid qop qop' HA hk7 hev hans7
          repeat' (first | (with_reducible refine stop_region 16 ?_) | (go_at_call 28; go_must ((with_reducible refine Calls.mono HF.out ?_); rintro _ w8 ⟨rfl, hb8⟩; dsimp only)) | (with_reducible refine Keep.last ?_) | (with_reducible refine Keep.below (by assumption) ?_) | (with_reducible refine Keep.kept (by assumption) ?_) | (with_reducible refine Keep.alloc ?_) | (with_reducible refine Keep.same ?_) | ((with_reducible refine WpH.here ?_); first | (refine WpH.nil ?_; refine NoP.normal ?_) | (refine WpH.load (by rfl) (by rfl) (by go_simp; rfl) ?_; simp only [Act.put, List.setIfInBounds_toArray, List.set_cons_zero, List.set_cons_succ]) | (refine WpH.loadT (by rfl) (by rfl) (by go_simp; rfl) (by rintro _ _ ⟨⟩; exact ⟨_, _, _, _, _, _, by rfl, by assumption, by assumption⟩) ?_; simp only [Act.put, List.setIfInBounds_toArray, List.set_cons_zero, List.set_cons_succ]) | (refine WpH.pure (by rfl) (fun w_ => by go_simp; (try go_bits); rfl) ?_; simp only [Act.put, List.setIfInBounds_toArray, List.set_cons_zero, List.set_cons_succ]) | (refine WpH.wild1 (by rfl) (fun _ _ => ?_)) | (refine WpH.skip (by rfl) ?_; simp only [Act.put, List.setIfInBounds_toArray, List.set_cons_zero, List.set_cons_succ])) | ((with_reducible refine WpO.here ?_); first | (refine WpO.done ?_; first | refine NoP.normal ?_ | refine NoO.normal ?_) | (refine WpO.load (by rfl) (by rfl) (by go_simp; rfl) ?_; simp only [Act.put, List.setIfInBounds_toArray, List.set_cons_zero, List.set_cons_succ]) | (refine WpO.loadT (by rfl) (by rfl) (by go_simp; rfl) (by rintro _ _ ⟨⟩; exact ⟨_, _, _, _, _, _, by rfl, by assumption, by assumption⟩) ?_; simp only [Act.put, List.setIfInBounds_toArray, List.set_cons_zero, List.set_cons_succ]) | (refine WpO.pure (by rfl) (fun w_ => by go_simp; (try go_bits); rfl) ?_; simp only [Act.put, List.setIfInBounds_toArray, List.set_cons_zero, List.set_cons_succ]) | (refine WpO.skip (by rfl) ?_; simp only [Act.put, List.setIfInBounds_toArray, List.set_cons_zero, List.set_cons_succ]) | refine WpO.wild ?_ | refine WpO.two ?_ ?_ | refine WpO.three ?_ ?_ ?_) | ((with_reducible refine wildO.here ?_); first | (refine wildO.go (by rfl) (fun _ _ => ?_)) | (refine wildO.skip (by rfl) ?_; simp only [Act.put, List.setIfInBounds_toArray, List.set_cons_zero, List.set_cons_succ])) | go_values | go_skip | go_guarded | go_step | go_upon | go_back)
          refine Stop.go ?_
          have hM8 := hM7.step hb8
          have hrow8 := hrow7.step hb8
          have hb8' := bvia hb7 hb8
          have HE := hid (melements_any w8 _ mb L' _ hM8 (by omega))
          repeat' (first | (go_at_call 69; go_must ((with_reducible refine Calls.mono HE.out ?_); rintro _ w9 ⟨A9, c9, rfl, hown9, hb9⟩; dsimp only)) | (go_at_call 37; go_must ((with_reducible refine Calls.mono (els_eq _ _ _ _ _ L' (fun _ => True) _ w9 (hown9.row fun _ _ _ => trivial) (hrow8.step hb9)) ?_); rintro _ w10 ⟨rfl, hb10⟩; dsimp only)) | (with_reducible refine Keep.last ?_) | (with_reducible refine Keep.below (by assumption) ?_) | (with_reducible refine Keep.kept (by assumption) ?_) | (with_reducible refine Keep.alloc ?_) | (with_reducible refine Keep.same ?_) | ((with_reducible refine WpH.here ?_); first | (refine WpH.nil ?_; refine NoP.normal ?_) | (refine WpH.load (by rfl) (by rfl) (by go_simp; rfl) ?_; simp only [Act.put, List.setIfInBounds_toArray, List.set_cons_zero, List.set_cons_succ]) | (refine WpH.loadT (by rfl) (by rfl) (by go_simp; rfl) (by rintro _ _ ⟨⟩; exact ⟨_, _, _, _, _, _, by rfl, by assumption, by assumption⟩) ?_; simp only [Act.put, List.setIfInBounds_toArray, List.set_cons_zero, List.set_cons_succ]) | (refine WpH.pure (by rfl) (fun w_ => by go_simp; (try go_bits); rfl) ?_; simp only [Act.put, List.setIfInBounds_toArray, List.set_cons_zero, List.set_cons_succ]) | (refine WpH.wild1 (by rfl) (fun _ _ => ?_)) | (refine WpH.skip (by rfl) ?_; simp only [Act.put, List.setIfInBounds_toArray, List.set_cons_zero, List.set_cons_succ])) | ((with_reducible refine WpO.here ?_); first | (refine WpO.done ?_; first | refine NoP.normal ?_ | refine NoO.normal ?_) | (refine WpO.load (by rfl) (by rfl) (by go_simp; rfl) ?_; simp only [Act.put, List.setIfInBounds_toArray, List.set_cons_zero, List.set_cons_succ]) | (refine WpO.loadT (by rfl) (by rfl) (by go_simp; rfl) (by rintro _ _ ⟨⟩; exact ⟨_, _, _, _, _, _, by rfl, by assumption, by assumption⟩) ?_; simp only [Act.put, List.setIfInBounds_toArray, List.set_cons_zero, List.set_cons_succ]) | (refine WpO.pure (by rfl) (fun w_ => by go_simp; (try go_bits); rfl) ?_; simp only [Act.put, List.setIfInBounds_toArray, List.set_cons_zero, List.set_cons_succ]) | (refine WpO.skip (by rfl) ?_; simp only [Act.put, List.setIfInBounds_toArray, List.set_cons_zero, List.set_cons_succ]) | refine WpO.wild ?_ | refine WpO.two ?_ ?_ | refine WpO.three ?_ ?_ ?_) | ((with_reducible refine wildO.here ?_); first | (refine wildO.go (by rfl) (fun _ _ => ?_)) | (refine wildO.skip (by rfl) ?_; simp only [Act.put, List.setIfInBounds_toArray, List.set_cons_zero, List.set_cons_succ])) | go_values | go_skip | go_guarded | go_step | go_upon | go_back)
          go_roundw
          case rel =>
            refine ⟨k + 1, Fr W.drew S1, L', A5, c5, by go_num, by omega, by omega, rfl, by omega, hcal', ?_, ?_, ((hrow8.step hb9).step hb10).more fun b _ h h' => ?_, bvia (bvia hb8' hb9) hb10⟩
            · rintro b (h | h)
              · exact hlow b h
              · exact Nat.le_trans hbM.size h
            · exact ((hM8.step hb9).step hb10).monoK (by omega)
            · rcases h' with h' | h'
              · exact h.1 h'
              · have h'' : W.heap.size ≤ b := h'
                have := h.2
                omega
          case measure => simp [intOf]; omega
    · have HNil := hid (apply_nil wr ⟨1, 2, 120, 0⟩ ⟨0, 0, 0⟩ (Hs.out.step hbr))
      unfold Opn.agg Nm.val at HNil
      dsimp only at HNil
      have HSay := hid (fun W => say_any ({ data := #[120, 102, 111, 114, 109] } : ByteArray) ({ data := #[65, 112, 112, 108, 121] } : ByteArray) 2 1 (by omega) (by omega) (fun _ => False) W)
      repeat' (first | (go_at_call 67; go_must ((with_reducible refine Calls.mono HNil.out ?_); rintro _ w3 ⟨v3, rfl, hv3, hb3⟩; have HV3 := hid hv3; obtain ⟨tv, xv, rfl⟩ := hv3.notNil; dsimp only)) | (go_at_call 27; go_must ((with_reducible refine Calls.mono (HSay.out _) ?_); rintro _ w4 ⟨v4, rfl, hno4, hb4⟩; dsimp only)) | (go_at_call 28; go_must ((with_reducible refine Calls.mono (refused_any (S := fun _ => True) _ 1 _ v4 _ _ ((HV3.out.step hb4).more fun _ _ _ => trivial) hno4 (Hs.out.step (bvia (bvia hbr hb3) hb4)).all (by simp)) ?_); rintro _ w5 ⟨rfl, hb5⟩; dsimp only)) | (go_at_call 32; go_must ((with_reducible refine Calls.mono (HK.out _) ?_); rintro _ w6 ⟨rfl, hb6⟩; dsimp only)) | (with_reducible refine Keep.last ?_) | (with_reducible refine Keep.below (by assumption) ?_) | (with_reducible refine Keep.kept (by assumption) ?_) | (with_reducible refine Keep.alloc ?_) | (with_reducible refine Keep.same ?_) | ((with_reducible refine WpH.here ?_); first | (refine WpH.nil ?_; refine NoP.normal ?_) | (refine WpH.load (by rfl) (by rfl) (by go_simp; rfl) ?_; simp only [Act.put, List.setIfInBounds_toArray, List.set_cons_zero, List.set_cons_succ]) | (refine WpH.loadT (by rfl) (by rfl) (by go_simp; rfl) (by rintro _ _ ⟨⟩; exact ⟨_, _, _, _, _, _, by rfl, by assumption, by assumption⟩) ?_; simp only [Act.put, List.setIfInBounds_toArray, List.set_cons_zero, List.set_cons_succ]) | (refine WpH.pure (by rfl) (fun w_ => by go_simp; (try go_bits); rfl) ?_; simp only [Act.put, List.setIfInBounds_toArray, List.set_cons_zero, List.set_cons_succ]) | (refine WpH.wild1 (by rfl) (fun _ _ => ?_)) | (refine WpH.skip (by rfl) ?_; simp only [Act.put, List.setIfInBounds_toArray, List.set_cons_zero, List.set_cons_succ])) | ((with_reducible refine WpO.here ?_); first | (refine WpO.done ?_; first | refine NoP.normal ?_ | refine NoO.normal ?_) | (refine WpO.load (by rfl) (by rfl) (by go_simp; rfl) ?_; simp only [Act.put, List.setIfInBounds_toArray, List.set_cons_zero, List.set_cons_succ]) | (refine WpO.loadT (by rfl) (by rfl) (by go_simp; rfl) (by rintro _ _ ⟨⟩; exact ⟨_, _, _, _, _, _, by rfl, by assumption, by assumption⟩) ?_; simp only [Act.put, List.setIfInBounds_toArray, List.set_cons_zero, List.set_cons_succ]) | (refine WpO.pure (by rfl) (fun w_ => by go_simp; (try go_bits); rfl) ?_; simp only [Act.put, List.setIfInBounds_toArray, List.set_cons_zero, List.set_cons_succ]) | (refine WpO.skip (by rfl) ?_; simp only [Act.put, List.setIfInBounds_toArray, List.set_cons_zero, List.set_cons_succ]) | refine WpO.wild ?_ | refine WpO.two ?_ ?_ | refine WpO.three ?_ ?_ ?_) | ((with_reducible refine wildO.here ?_); first | (refine wildO.go (by rfl) (fun _ _ => ?_)) | (refine wildO.skip (by rfl) ?_; simp only [Act.put, List.setIfInBounds_toArray, List.set_cons_zero, List.set_cons_succ])) | go_values | go_skip | go_guarded | go_step | go_upon | go_back)
      skip
      all_goals
        go_ret
        exact ⟨rfl, bvia (bvia (bvia (bvia hbr hb3) hb4) hb5) hb6⟩
end Go.Proofs.YtogkbddniacgiaaDoor
