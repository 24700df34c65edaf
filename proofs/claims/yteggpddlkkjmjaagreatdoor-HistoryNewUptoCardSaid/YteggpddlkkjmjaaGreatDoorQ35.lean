/- Part of a proof: what functions of the program compute. Conditions: as each theorem says. -/
import Derived.Test.YteggpddlkkjmjaaGreatDoorQ17
import Derived.Test.YteggpddlkkjmjaaGreatDoorQ18
import Derived.Test.YteggpddlkkjmjaaGreatDoorQ24
set_option linter.unusedSimpArgs false
set_option linter.unusedVariables false
set_option maxHeartbeats 4000000
set_option maxRecDepth 100000
namespace Go.Proofs.YteggpddlkkjmjaaGreatDoor
open Go Go.RowKit
variable {a : Nat → Addr}
theorem hnew_ep_no (w : World) (A : Option Addr) (n c : Nat) (S' : Nat → Prop) (ep : Int) (hep : ep < 0 ∨ 1099511627776 < ep) (hs : Sents w S' a) :
 Calls Tryz.prog 25 #[.int .i64 ep, .slice A n c] w fun e w' => ∃ v, e = .returned (.tuple #[.pointer none, v]) ∧ IsErr w' (Fr w S') a [⟨({ data := #[104, 105, 115, 116, 111, 114, 121] } : ByteArray), ({ data := #[78, 101, 119] } : ByteArray), atOf ep⟩] 1 v ∧ Below w.heap.size w w' := by
 have c1 := hs.cell 1 (by omega) (by omega)
 simp only [gOf, reason] at c1
 have HE := hid (new_err (S := S') (a := a) ({ data := #[104, 105, 115, 116, 111, 114, 121] } : ByteArray) ({ data := #[78, 101, 119] } : ByteArray) ep [] 1 (reason (a 1)) w ⟨by omega, by omega, rfl⟩)
 clear hs
 rcases hep with h | h
 · go_enter Tryz.func25, Tryz.ntmps25
   repeat' (first | (go_at_call 51; go_must ((with_reducible refine Calls.mono HE.out ?_); rintro _ w4 ⟨v, rfl, hv, hb4⟩; dsimp only)) | go_skip | go_step)
   go_ret2
   exact ⟨v, rfl, hv, hb4⟩
 · have h0 : ¬ ep < 0 := by omega
   go_enter Tryz.func25, Tryz.ntmps25
   repeat' (first | (go_at_call 51; go_must ((with_reducible refine Calls.mono HE.out ?_); rintro _ w4 ⟨v, rfl, hv, hb4⟩; dsimp only)) | go_guarded | go_step)
   go_ret2
   exact ⟨v, rfl, hv, hb4⟩
theorem hnew_base_no (w : World) (A : Option Addr) (n c j code : Nat) (ls : List El) (ej : El) (SB S' : Nat → Prop) (ep : Int) (h0 : 0 ≤ ep) (h1 : ep ≤ 1099511627776) (hr : Row w SB A n c ls) (hn : n ≤ 1048576) (hg : ∀ e ∈ ls.take j, e.Good) (hd : ((ls.take j).map El.nm).Nodup) (hj : ls[j]? = some ej) (hin : ej.nm.In) (hw : wrongS ((ls.take j).map El.nm) ej = code) (hc0 : code ≠ 0) (h13 : code ≤ 13) (hs : Sents w S' a) :
 Calls Tryz.prog 25 #[.int .i64 ep, .slice A n c] w fun e w' => ∃ v, e = .returned (.tuple #[.pointer none, v]) ∧ IsErr w' (Fr w S') a [⟨({ data := #[104, 105, 115, 116, 111, 114, 121] } : ByteArray), ({ data := #[78, 101, 119] } : ByteArray), atOf ep⟩, ⟨({ data := #[109, 111, 100, 101, 108] } : ByteArray), ({ data := #[79, 102] } : ByteArray), atOf j⟩] code v ∧ Below w.heap.size w w' := by
 have HO := hid (mof_no (a := a) w A n c j code ls ej SB S' hr hn hg hd hj hin hw hc0 h13 hs)
 have he0 : ¬ ep < 0 := by omega
 have he1 : ¬ ep > 1099511627776 := by omega
 clear hr hg hd hj hin hw hs
 go_enter Tryz.func25, Tryz.ntmps25
 repeat' (first | (go_at_call 55; go_must ((with_reducible refine Calls.mono HO.out ?_); rintro _ w1 ⟨v1, rfl, hE1, hb1⟩; obtain ⟨tv, xv, rfl⟩ := hE1.notNil; have HE := hid (new_err (S := Fr w S') (a := a) ({ data := #[104, 105, 115, 116, 111, 114, 121] } : ByteArray) ({ data := #[78, 101, 119] } : ByteArray) ep _ code _ w1 hE1); clear hE1; dsimp only)) | (go_at_call 51; go_must ((with_reducible refine Calls.mono HE.out ?_); rintro _ w4 ⟨v, rfl, hv, hb4⟩; dsimp only)) | go_guarded | go_step)
 go_ret2
 refine ⟨v, rfl, hv.more fun b _ hb => ?_, bvia hb1 hb4⟩
 rcases hb with hb | hb
 · exact hb
 · have h2 : w1.heap.size ≤ b := hb
   exact .inr (by have := hb1.size; show w.heap.size ≤ b; omega)
theorem rnew_ep_no (w : World) (A : Option Addr) (n c : Nat) (ep : Int) (hep : ep < 0 ∨ 1099511627776 < ep) :
 Calls Tryz.prog 26 #[.int .i64 ep, .slice A n c] w fun e w' => ∃ v, e = .returned (.tuple #[.pointer none, v]) ∧ IsNo w' (fun b => w.heap.size + 1 ≤ b) [⟨({ data := #[104, 105, 115, 116, 111, 114, 121] } : ByteArray), ({ data := #[78, 101, 119] } : ByteArray), atOf ep⟩] 1 v ∧ Below w.heap.size w w' := by
 have hNo := Blk.new w 62 #[.int .i64 0, .slice none 0 0, .slice none 0 0]
 have e0 : Below w.heap.size w (w.alloc (.cells #[.int .i64 0, .slice none 0 0, .slice none 0 0] 62)) := balloc (Below.refl _ _)
 have hs00 : (w.alloc (.cells #[.int .i64 0, .slice none 0 0, .slice none 0 0] 62)).heap.size = w.heap.size + 1 := Array.size_push _
 have HY := hid (fun W => say_any ({ data := #[104, 105, 115, 116, 111, 114, 121] } : ByteArray) ({ data := #[78, 101, 119] } : ByteArray) ep 1 (by omega) (by omega) (fun _ => False) W)
 rcases hep with h | h
 · go_enter Tryz.func26, Tryz.ntmps26
   repeat' (first | (with_reducible refine stop_region 1 ?_) | go_step)
   refine Stop.go ?_
   generalize w.alloc (.cells #[.int .i64 0, .slice none 0 0, .slice none 0 0] 62) = X at *
   have HNo := hid hNo
   clear hNo
   repeat' (first | (go_at_call 57; go_must ((with_reducible refine Calls.mono (HY.out _) ?_); rintro _ w4 ⟨v, rfl, ⟨hc2, A2, m2, d2, B2, k2, rfl, hr1, hr2⟩, hb4⟩; have hq := HNo.out.step hb4; obtain ⟨ql, q0, q1, q2, f0, f1, f2⟩ := bl3 hq; dsimp only)) | go_skip | go_step)
   have hnn : IsNo w4 (fun b => w.heap.size + 1 ≤ b) [⟨({ data := #[104, 105, 115, 116, 111, 114, 121] } : ByteArray), ({ data := #[78, 101, 119] } : ByteArray), atOf ep⟩] 1 (.agg #[.int .i64 1, .slice A2 m2 d2, .slice B2 1 k2]) := IsNo.moreS (S := Fr X fun _ => False) ⟨hc2, A2, m2, d2, B2, k2, rfl, hr1, hr2⟩ fun b hb => by
    rcases hb with hb | hb
    · exact hb.elim
    · have h9 : X.heap.size ≤ b := hb
      omega
   have hq3 := ((hq.set_ 0 (.int .i64 1)).set_ 1 (.slice A2 m2 d2)).set_ 2 (.slice B2 1 k2)
   have hz3 : Below w.heap.size w (((w4.setCell ⟨w.heap.size, 0, none⟩ (.int .i64 1)).setCell ⟨w.heap.size, 1, none⟩ (.slice A2 m2 d2)).setCell ⟨w.heap.size, 2, none⟩ (.slice B2 1 k2)) := bset (bset (bset (bvia e0 hb4) (Nat.le_refl _)) (Nat.le_refl _)) (Nat.le_refl _)
   have hs3 : Same (fun b => b ≠ w.heap.size) w4 (((w4.setCell ⟨w.heap.size, 0, none⟩ (.int .i64 1)).setCell ⟨w.heap.size, 1, none⟩ (.slice A2 m2 d2)).setCell ⟨w.heap.size, 2, none⟩ (.slice B2 1 k2)) := fun b hb _ => (Below.heap_setCell _ _ _ _ hb).trans ((Below.heap_setCell _ _ _ _ hb).trans (Below.heap_setCell _ _ _ _ hb))
   have hsz3 : (((w4.setCell ⟨w.heap.size, 0, none⟩ (.int .i64 1)).setCell ⟨w.heap.size, 1, none⟩ (.slice A2 m2 d2)).setCell ⟨w.heap.size, 2, none⟩ (.slice B2 1 k2)).heap.size = w4.heap.size := by simp [World.setCell]
   generalize ((w4.setCell ⟨w.heap.size, 0, none⟩ (.int .i64 1)).setCell ⟨w.heap.size, 1, none⟩ (.slice A2 m2 d2)).setCell ⟨w.heap.size, 2, none⟩ (.slice B2 1 k2) = Z at *
   have v0 := hq3.cell 0
   have v1 := hq3.cell 1
   have v2 := hq3.cell 2
   simp at v0 v1 v2
   refine bodyPost_ret (v := .tuple #[.pointer none, .agg #[.int .i64 1, .slice A2 m2 d2, .slice B2 1 k2]]) (by simp [results, Tryz.results26, go_sem, v0, v1, v2]) rfl ⟨_, rfl, ?_, hz3⟩
   exact (hnn).keepS (by omega) fun b hb hl => hs3 b (by rintro rfl; have h9 : w.heap.size + 1 ≤ w.heap.size := hb; omega) hl
 · have h0 : ¬ ep < 0 := by omega
   go_enter Tryz.func26, Tryz.ntmps26
   repeat' (first | (with_reducible refine stop_region 1 ?_) | go_step)
   refine Stop.go ?_
   generalize w.alloc (.cells #[.int .i64 0, .slice none 0 0, .slice none 0 0] 62) = X at *
   have HNo := hid hNo
   clear hNo
   repeat' (first | (go_at_call 57; go_must ((with_reducible refine Calls.mono (HY.out _) ?_); rintro _ w4 ⟨v, rfl, ⟨hc2, A2, m2, d2, B2, k2, rfl, hr1, hr2⟩, hb4⟩; have hq := HNo.out.step hb4; obtain ⟨ql, q0, q1, q2, f0, f1, f2⟩ := bl3 hq; dsimp only)) | go_guarded | go_step)
   have hnn : IsNo w4 (fun b => w.heap.size + 1 ≤ b) [⟨({ data := #[104, 105, 115, 116, 111, 114, 121] } : ByteArray), ({ data := #[78, 101, 119] } : ByteArray), atOf ep⟩] 1 (.agg #[.int .i64 1, .slice A2 m2 d2, .slice B2 1 k2]) := IsNo.moreS (S := Fr X fun _ => False) ⟨hc2, A2, m2, d2, B2, k2, rfl, hr1, hr2⟩ fun b hb => by
    rcases hb with hb | hb
    · exact hb.elim
    · have h9 : X.heap.size ≤ b := hb
      omega
   have hq3 := ((hq.set_ 0 (.int .i64 1)).set_ 1 (.slice A2 m2 d2)).set_ 2 (.slice B2 1 k2)
   have hz3 : Below w.heap.size w (((w4.setCell ⟨w.heap.size, 0, none⟩ (.int .i64 1)).setCell ⟨w.heap.size, 1, none⟩ (.slice A2 m2 d2)).setCell ⟨w.heap.size, 2, none⟩ (.slice B2 1 k2)) := bset (bset (bset (bvia e0 hb4) (Nat.le_refl _)) (Nat.le_refl _)) (Nat.le_refl _)
   have hs3 : Same (fun b => b ≠ w.heap.size) w4 (((w4.setCell ⟨w.heap.size, 0, none⟩ (.int .i64 1)).setCell ⟨w.heap.size, 1, none⟩ (.slice A2 m2 d2)).setCell ⟨w.heap.size, 2, none⟩ (.slice B2 1 k2)) := fun b hb _ => (Below.heap_setCell _ _ _ _ hb).trans ((Below.heap_setCell _ _ _ _ hb).trans (Below.heap_setCell _ _ _ _ hb))
   have hsz3 : (((w4.setCell ⟨w.heap.size, 0, none⟩ (.int .i64 1)).setCell ⟨w.heap.size, 1, none⟩ (.slice A2 m2 d2)).setCell ⟨w.heap.size, 2, none⟩ (.slice B2 1 k2)).heap.size = w4.heap.size := by simp [World.setCell]
   generalize ((w4.setCell ⟨w.heap.size, 0, none⟩ (.int .i64 1)).setCell ⟨w.heap.size, 1, none⟩ (.slice A2 m2 d2)).setCell ⟨w.heap.size, 2, none⟩ (.slice B2 1 k2) = Z at *
   have v0 := hq3.cell 0
   have v1 := hq3.cell 1
   have v2 := hq3.cell 2
   simp at v0 v1 v2
   refine bodyPost_ret (v := .tuple #[.pointer none, .agg #[.int .i64 1, .slice A2 m2 d2, .slice B2 1 k2]]) (by simp [results, Tryz.results26, go_sem, v0, v1, v2]) rfl ⟨_, rfl, ?_, hz3⟩
   exact (hnn).keepS (by omega) fun b hb hl => hs3 b (by rintro rfl; have h9 : w.heap.size + 1 ≤ w.heap.size := hb; omega) hl
theorem rnew_base_no (w : World) (A : Option Addr) (n c j code : Nat) (ls : List El) (ej : El) (SB : Nat → Prop) (ep : Int) (h0 : 0 ≤ ep) (h1 : ep ≤ 1099511627776) (hr : Row w SB A n c ls) (hn : n ≤ 1048576) (ha : AllRight (ls.take j)) (hj : ls[j]? = some ej) (hw : wrongS ((ls.take j).map El.nm) ej = code) (hc0 : code ≠ 0) (h13 : code ≤ 13) :
 Calls Tryz.prog 26 #[.int .i64 ep, .slice A n c] w fun e w' => ∃ v, e = .returned (.tuple #[.pointer none, v]) ∧ IsNo w' (fun b => w.heap.size + 1 ≤ b) [⟨({ data := #[104, 105, 115, 116, 111, 114, 121] } : ByteArray), ({ data := #[78, 101, 119] } : ByteArray), atOf ep⟩, ⟨({ data := #[109, 111, 100, 101, 108] } : ByteArray), ({ data := #[79, 102] } : ByteArray), atOf j⟩] code v ∧ Below w.heap.size w w' := by
 have hNo := Blk.new w 62 #[.int .i64 0, .slice none 0 0, .slice none 0 0]
 have e0 : Below w.heap.size w (w.alloc (.cells #[.int .i64 0, .slice none 0 0, .slice none 0 0] 62)) := balloc (Below.refl _ _)
 have hs00 : (w.alloc (.cells #[.int .i64 0, .slice none 0 0, .slice none 0 0] 62)).heap.size = w.heap.size + 1 := Array.size_push _
 have HO := hid (refOf_no A n c j code ls ej SB (fun _ => False) _ (hr.step e0) hn ha hj hw hc0 h13)
 have he0 : ¬ ep < 0 := by omega
 have he1 : ¬ ep > 1099511627776 := by omega
 have hci : ¬ (code : Int) = 0 := by omega
 clear hr ha hj hw
 go_enter Tryz.func26, Tryz.ntmps26
 repeat' (first | (with_reducible refine stop_region 1 ?_) | go_step)
 refine Stop.go ?_
 generalize w.alloc (.cells #[.int .i64 0, .slice none 0 0, .slice none 0 0] 62) = X at *
 have HNo := hid hNo
 clear hNo
 repeat' (first | (go_at_call 58; go_must ((with_reducible refine Calls.mono HO.out ?_); rintro _ w1 ⟨v, rfl, ⟨hc2, A3, m3, d3, B3, k3, rfl, hr1, hr2⟩, hb1⟩; dsimp only)) | (with_reducible refine stop_region 4 ?_) | go_guarded | go_step)
 refine Stop.go ?_
 have eN : Below w1.heap.size w1 (w1.alloc (.cells #[.int .i64 code, .slice A3 m3 d3, .slice B3 1 k3] 62)) := balloc (Below.refl _ _)
 have hnb := Blk.new w1 62 #[.int .i64 code, .slice A3 m3 d3, .slice B3 1 k3]
 have hNo2 := (HNo.out.step hb1).step eN
 have hq1 := hr1.step eN
 have hq2 := hr2.step eN
 have hbw := bvia (bvia e0 hb1) eN
 have hX1 := Nat.le_trans hb1.size eN.size
 generalize w1.alloc (.cells #[.int .i64 code, .slice A3 m3 d3, .slice B3 1 k3] 62) = Y at *
 have n0 : Y.cell? ⟨w1.heap.size, 0, none⟩ = some (.int .i64 code) := hnb.cell 0
 have n1 : Y.cell? ⟨w1.heap.size, 1, none⟩ = some (.slice A3 m3 d3) := hnb.cell 1
 have n2 : Y.cell? ⟨w1.heap.size, 2, none⟩ = some (.slice B3 1 k3) := hnb.cell 2
 have nl := hnb.lt
 have hm1 : m3 = 1 := by have := hr1.1; simpa using this.symm
 have HWp := hid (wrap_any (S := Fr X fun _ => False) ({ data := #[104, 105, 115, 116, 111, 114, 121] } : ByteArray) ({ data := #[78, 101, 119] } : ByteArray) ep code (by omega) h13 A3 m3 d3 B3 k3 _ Y hq1 hq2 (by omega))
 have HNo2 := hid hNo2
 clear hr1 hr2 hq1 hq2 hnb hNo2 hm1
 repeat' (first | (go_at_call 59; go_must ((with_reducible refine Calls.mono HWp.out ?_); rintro _ w4 ⟨v, rfl, ⟨hc4, A2, m2, d2, B2, k2, rfl, hr3, hr4⟩, hb4⟩; have hq := HNo2.out.step hb4; obtain ⟨ql, q0, q1, q2, f0, f1, f2⟩ := bl3 hq; dsimp only)) | go_step)
 have hnn : IsNo w4 (fun b => w.heap.size + 1 ≤ b) [⟨({ data := #[104, 105, 115, 116, 111, 114, 121] } : ByteArray), ({ data := #[78, 101, 119] } : ByteArray), atOf ep⟩, ⟨({ data := #[109, 111, 100, 101, 108] } : ByteArray), ({ data := #[79, 102] } : ByteArray), atOf j⟩] code (.agg #[.int .i64 code, .slice A2 m2 d2, .slice B2 1 k2]) := IsNo.moreS (S := Fr Y (Fr X fun _ => False)) ⟨hc4, A2, m2, d2, B2, k2, rfl, hr3, hr4⟩ fun b hb => by
  rcases hb with (hb | hb) | hb
  · exact hb.elim
  · have h9 : X.heap.size ≤ b := hb
    omega
  · have h9 : Y.heap.size ≤ b := hb
    omega
 have hq3 := ((hq.set_ 0 (.int .i64 code)).set_ 1 (.slice A2 m2 d2)).set_ 2 (.slice B2 1 k2)
 have hz3 : Below w.heap.size w (((w4.setCell ⟨w.heap.size, 0, none⟩ (.int .i64 code)).setCell ⟨w.heap.size, 1, none⟩ (.slice A2 m2 d2)).setCell ⟨w.heap.size, 2, none⟩ (.slice B2 1 k2)) := bset (bset (bset (bvia hbw hb4) (Nat.le_refl _)) (Nat.le_refl _)) (Nat.le_refl _)
 have hs3 : Same (fun b => b ≠ w.heap.size) w4 (((w4.setCell ⟨w.heap.size, 0, none⟩ (.int .i64 code)).setCell ⟨w.heap.size, 1, none⟩ (.slice A2 m2 d2)).setCell ⟨w.heap.size, 2, none⟩ (.slice B2 1 k2)) := fun b hb _ => (Below.heap_setCell _ _ _ _ hb).trans ((Below.heap_setCell _ _ _ _ hb).trans (Below.heap_setCell _ _ _ _ hb))
 have hsz3 : (((w4.setCell ⟨w.heap.size, 0, none⟩ (.int .i64 code)).setCell ⟨w.heap.size, 1, none⟩ (.slice A2 m2 d2)).setCell ⟨w.heap.size, 2, none⟩ (.slice B2 1 k2)).heap.size = w4.heap.size := by simp [World.setCell]
 generalize ((w4.setCell ⟨w.heap.size, 0, none⟩ (.int .i64 code)).setCell ⟨w.heap.size, 1, none⟩ (.slice A2 m2 d2)).setCell ⟨w.heap.size, 2, none⟩ (.slice B2 1 k2) = Z at *
 have v0 := hq3.cell 0
 have v1 := hq3.cell 1
 have v2 := hq3.cell 2
 simp at v0 v1 v2
 refine bodyPost_ret (v := .tuple #[.pointer none, .agg #[.int .i64 code, .slice A2 m2 d2, .slice B2 1 k2]]) (by simp [results, Tryz.results26, go_sem, v0, v1, v2]) rfl ⟨_, rfl, ?_, hz3⟩
 exact (hnn).keepS (by omega) fun b hb hl => hs3 b (by rintro rfl; have h9 : w.heap.size + 1 ≤ w.heap.size := hb; omega) hl
end Go.Proofs.YteggpddlkkjmjaaGreatDoor
