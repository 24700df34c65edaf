/- The walk of barrowlaw07.XformCross: it returns true, old memory stands. Conditions: the rows lie in memory, the numbers fit their kinds. -/
import Derived.Test.YtogkbddniacgiaaDoorPlay7
namespace Go.Proofs.YtogkbddniacgiaaDoor
set_option linter.unusedSimpArgs false
set_option linter.unusedVariables false
open Go Go.RowKit
/-- the rows that the law holds -/
structure XR (W : World) (w0 : Nat) (A1 A2 A3 A4 A5 A6 : Option Addr) (c1 c2 c3 c4 c5 c6 : Nat) (ps qs xs ys : List Opn) : Prop where
  a : GOwn 58 W w0 A1 ps.length c1 ps
  b : GOwn 58 W w0 A2 qs.length c2 qs
  wa : GOwn 58 W w0 A3 ps.length c3 ps
  wb : GOwn 58 W w0 A4 qs.length c4 qs
  x : GOwn 58 W w0 A5 ps.length c5 xs
  y : GOwn 58 W w0 A6 qs.length c6 ys
theorem XR.step {W W' : World} {w0 : Nat} {A1 A2 A3 A4 A5 A6 : Option Addr} {c1 c2 c3 c4 c5 c6 : Nat} {ps qs xs ys : List Opn} (h : XR W w0 A1 A2 A3 A4 A5 A6 c1 c2 c3 c4 c5 c6 ps qs xs ys) (hb : Below W.heap.size W W') : XR W' w0 A1 A2 A3 A4 A5 A6 c1 c2 c3 c4 c5 c6 ps qs xs ys :=
  ⟨h.a.step hb, h.b.step hb, h.wa.step hb, h.wb.step hb, h.x.step hb, h.y.step hb⟩
theorem GOwn.any {t : TypeId} {W : World} {w0 : Nat} {A : Option Addr} {n c : Nat} {l : List Opn} (h : GOwn t W w0 A n c l) : GRow W (fun b => b < W.heap.size) A n c l := h.row fun _ _ h => h
theorem fitAll_in : ∀ {l : List Opn} {n : Nat}, FitAll n l → n + l.length ≤ 1000 → ∀ o ∈ l, o.In
  | [], _, _, _, o, h => by cases h
  | a :: l, n, h, hn, o, ho => by
    simp only [List.length_cons] at hn
    rcases List.mem_cons.1 ho with rfl | ho
    · exact h.1.in_ (by omega)
    · exact fitAll_in h.2 (by have : a.ins ≤ 1 := by unfold Opn.ins; split <;> omega
                              omega) o ho
theorem GOwn.out {S : Nat → Prop} {t : TypeId} {W W' : World} {base n c : Nat} {A : Option Addr} {l : List Opn} (h : GOwn t W base A n c l) (ho : Out S W W') (hA : ∀ a, A = some a → ¬ S a.block) : GOwn t W' base A n c l := h.keep ho.same hA
set_option maxRecDepth 100000 in
set_option maxHeartbeats 4000000 in
theorem xcr_true (w : World) (Bs : Option Addr) (nb cb : Nat) (ls : List El) (SB : Nat → Prop) (A B : Option Addr) (n c m d : Nat) (xs ys : List Opn) (who : Int) (hr : Row w SB Bs nb cb ls) (hx : GRow w (fun b => b < w.heap.size) A n c xs) (hy : GRow w (fun b => b < w.heap.size) B m d ys) (hw : I64 who) :
    Calls Tryd.prog 12 #[.agg #[.slice Bs nb cb, .slice A n c, .slice B m d, .int .i64 who]] w fun e w' => e = .returned (.bool true) ∧ Below w.heap.size w w' := by
  have HK := hid wakes7_any
  have HRow := hid (fun W (hb : Below w.heap.size w W) => row7_any W Bs nb cb ls SB (hr.step hb))
  have HThree := hid (fun W => three_any who W hw)
  obtain ⟨⟨q0, q1, q2⟩, d1, d2, d3⟩ := three_apart who
  have hL := row7_length (ls.take 60)
  have hl60 : (ls.take 60).length ≤ 60 := List.length_take_le _ _
  have hgood := hid (row7_good hl60)
  have hnod := hid (row7_nodup (ls.take 60))
  have hcalm := hid (row7_calm (ls.take 60))
  have hnew := hid (row7_new (ls.take 60))
  have hL60 : (row7 (ls.take 60)).length ≤ 60 := by omega
  clear hL hl60 hr d2 d3 q2
  generalize row7 (ls.take 60) = L at *
  generalize (threeOf who).1 = r0 at *
  generalize (threeOf who).2.1 = r1 at *
  generalize (threeOf who).2.2 = r2 at *
  have HA := hid (fun W (hb : Below w.heap.size w W) => behind_any W A n c L.length r0 xs ((hx.step hb).more fun b hl _ => hl) (by omega) q0)
  have HB := hid (fun W (hb : Below w.heap.size w W) => behind_any W B m d L.length r1 ys ((hy.step hb).more fun b hl _ => hl) (by omega) q1)
  have ha := behOk L.length q0 xs
  have hb := behOk L.length q1 ys
  have Hfa := hid ha.fit
  have Hfb := hid hb.fit
  have hla := ha.len
  have hlb := hb.len
  have Hab := hid (show ∀ o ∈ (behAt r0 L.length xs).1, ∀ p ∈ (behAt r1 L.length ys).1, o.rep ≠ p.rep from fun o ho p hp => by rw [ha.rep o ho, hb.rep p hp]; exact d1)
  clear ha hb hx hy d1 q0 q1
  generalize (behAt r0 L.length xs).1 = ps at *
  generalize (behAt r1 L.length ys).1 = qs at *
  have b1 : Below w.heap.size w (w.alloc (.cells #[.slice Bs nb cb, .slice A n c, .slice B m d, .int .i64 who] 85)) := balloc (Below.refl _ _)
  have hT := Blk.new w 85 #[.slice Bs nb cb, .slice A n c, .slice B m d, .int .i64 who]
  obtain ⟨t0, t1, t2, t3, -, -, -, -, tl⟩ := hT.four
  go_enter Tryd.func12, Tryd.ntmps12
  repeat' (first | (with_reducible refine stop_region 5 ?_) | (go_at_call 33; go_must ((with_reducible refine Calls.mono (HRow.out _ b1) ?_); rintro _ w1 ⟨A1, c1, rfl, hown1, hb1⟩; have hT1 := hT.step hb1; obtain ⟨t0, t1, t2, t3, -, -, -, -, tl⟩ := hT1.four; dsimp only)) | (go_at_call 34; go_must ((with_reducible refine Calls.mono (HThree.out _) ?_); rintro _ w2 ⟨rfl, hb2⟩; have hT2 := hT1.step hb2; obtain ⟨t0, t1, t2, t3, -, -, -, -, tl⟩ := hT2.four; dsimp only)) | (go_at_call 48; go_must (first | ((with_reducible refine Calls.mono (HA.out _ (by (repeat' (first | (with_reducible exact Below.refl _ _) | (with_reducible assumption) | (with_reducible refine balloc ?_) | (with_reducible refine bdrew ?_) | (with_reducible refine bset ?_ (by (try dsimp only); omega)) | (with_reducible refine bvia ?_ (by assumption)))))) ?_); rintro _ w3 ⟨A3, c3, rfl, hoa, hb3⟩; have eR := balloc (o := .cells #[.int .i64 r0, .int .i64 r1, .int .i64 r2] 64) (Below.refl _ w2); have hT3 := (hT2.step eR).step hb3; have hR3 := (Blk.new w2 64 #[.int .i64 r0, .int .i64 r1, .int .i64 r2]).step hb3; obtain ⟨t0, t1, t2, t3, -, -, -, -, tl⟩ := hT3.four; obtain ⟨u0, u1, u2, ul⟩ := Blk.three hR3; dsimp only) | ((with_reducible refine Calls.mono (HB.out _ (by (repeat' (first | (with_reducible exact Below.refl _ _) | (with_reducible assumption) | (with_reducible refine balloc ?_) | (with_reducible refine bdrew ?_) | (with_reducible refine bset ?_ (by (try dsimp only); omega)) | (with_reducible refine bvia ?_ (by assumption)))))) ?_); rintro _ w4 ⟨A4, c4, rfl, hob, hb4⟩; dsimp only))) | (with_reducible refine Keep.last ?_) | (with_reducible refine Keep.below (by assumption) ?_) | (with_reducible refine Keep.kept (by assumption) ?_) | (with_reducible refine Keep.alloc ?_) | (with_reducible refine Keep.same ?_) | ((with_reducible refine WpH.here ?_); first | (refine WpH.nil ?_; refine NoP.normal ?_) | (refine WpH.load (by rfl) (by rfl) (by go_simp; rfl) ?_; simp only [Act.put, List.setIfInBounds_toArray, List.set_cons_zero, List.set_cons_succ]) | (refine WpH.loadT (by rfl) (by rfl) (by go_simp; rfl) (by rintro _ _ ⟨⟩; exact ⟨_, _, _, _, _, _, by rfl, by assumption, by assumption⟩) ?_; simp only [Act.put, List.setIfInBounds_toArray, List.set_cons_zero, List.set_cons_succ]) | (refine WpH.pure (by rfl) (fun w_ => by go_simp; (try go_bits); rfl) ?_; simp only [Act.put, List.setIfInBounds_toArray, List.set_cons_zero, List.set_cons_succ]) | (refine WpH.wild1 (by rfl) (fun _ _ => ?_)) | (refine WpH.skip (by rfl) ?_; simp only [Act.put, List.setIfInBounds_toArray, List.set_cons_zero, List.set_cons_succ])) | go_values | go_skip | go_guarded | go_step | go_upon | go_back)
  refine Stop.go ?_
  have hbw4 : Below w.heap.size w w4 := by (repeat' (first | (with_reducible exact Below.refl _ _) | (with_reducible assumption) | (with_reducible refine balloc ?_) | (with_reducible refine bdrew ?_) | (with_reducible refine bset ?_ (by (try dsimp only); omega)) | (with_reducible refine bvia ?_ (by assumption))))
  have hL4 := ((((hown1.mono b1.size).step hb2).step eR).step hb3).step hb4
  have hA4 := (hoa.mono (show w.heap.size ≤ (w2.alloc (.cells #[.int .i64 r0, .int .i64 r1, .int .i64 r2] 64)).heap.size from Nat.le_trans (Nat.le_trans b1.size (Nat.le_trans hb1.size hb2.size)) eR.size)).step hb4
  have hB4 := hob.mono (show w.heap.size ≤ w3.heap.size from Nat.le_trans (Nat.le_trans b1.size (Nat.le_trans hb1.size hb2.size)) (Nat.le_trans eR.size hb3.size))
  clear t0 t1 t2 t3 u0 u1 u2 hown1 hb1 hb2 hb3 hb4 eR hT hT1 hT2 hT3 hR3 hoa hob HRow HThree HA HB b1 tl ul
  generalize w1.heap.size = z1 at *
  generalize w2.heap.size = z2 at *
  have hE_ := GOwn.lit (t := 58) w4 #[] ([] : List Opn) (w4).heap.size (Nat.le_refl _) (Nat.zero_le _) rfl
  have eE_ : Below (w4).heap.size w4 ((w4).alloc (.cells #[] 58)) := balloc (Below.refl _ _)
  have hrE_ := ((hA4).step eE_).any
  repeat' (first | (with_reducible refine stop_region 6 ?_) | ((with_reducible refine app_ops_here ?_); refine wp_append_ops (w4).heap.size _ A3 0 0 ps.length c3 [] ps _ (by rfl) (by rfl) hE_ hrE_ eE_.size (by omega) ?_; intro A5 c5 w5 ho5 hb_ hsm_ hat_ hz_) | (with_reducible refine Keep.last ?_) | (with_reducible refine Keep.below (by assumption) ?_) | (with_reducible refine Keep.kept (by assumption) ?_) | (with_reducible refine Keep.alloc ?_) | (with_reducible refine Keep.same ?_) | ((with_reducible refine WpH.here ?_); first | (refine WpH.nil ?_; refine NoP.normal ?_) | (refine WpH.load (by rfl) (by rfl) (by go_simp; rfl) ?_; simp only [Act.put, List.setIfInBounds_toArray, List.set_cons_zero, List.set_cons_succ]) | (refine WpH.loadT (by rfl) (by rfl) (by go_simp; rfl) (by rintro _ _ ⟨⟩; exact ⟨_, _, _, _, _, _, by rfl, by assumption, by assumption⟩) ?_; simp only [Act.put, List.setIfInBounds_toArray, List.set_cons_zero, List.set_cons_succ]) | (refine WpH.pure (by rfl) (fun w_ => by go_simp; (try go_bits); rfl) ?_; simp only [Act.put, List.setIfInBounds_toArray, List.set_cons_zero, List.set_cons_succ]) | (refine WpH.wild1 (by rfl) (fun _ _ => ?_)) | (refine WpH.skip (by rfl) ?_; simp only [Act.put, List.setIfInBounds_toArray, List.set_cons_zero, List.set_cons_succ])) | go_values | go_skip | go_guarded | go_step | go_upon | go_back)
  refine Stop.go ?_
  rw [Nat.zero_add, List.nil_append] at ho5
  (try rw [Nat.zero_add])
  have hb5 := eE_.trans hb_
  clear hE_ eE_ hrE_ hb_ hsm_ hat_ hz_
  have hB5 := hB4.step hb5
  have hE_ := GOwn.lit (t := 58) w5 #[] ([] : List Opn) (w5).heap.size (Nat.le_refl _) (Nat.zero_le _) rfl
  have eE_ : Below (w5).heap.size w5 ((w5).alloc (.cells #[] 58)) := balloc (Below.refl _ _)
  have hrE_ := ((hB5).step eE_).any
  repeat' (first | (with_reducible refine stop_region 7 ?_) | ((with_reducible refine app_ops_here ?_); refine wp_append_ops (w5).heap.size _ A4 0 0 qs.length c4 [] qs _ (by rfl) (by rfl) hE_ hrE_ eE_.size (by omega) ?_; intro A6 c6 w6 ho6 hb_ hsm_ hat_ hz_) | (with_reducible refine Keep.last ?_) | (with_reducible refine Keep.below (by assumption) ?_) | (with_reducible refine Keep.kept (by assumption) ?_) | (with_reducible refine Keep.alloc ?_) | (with_reducible refine Keep.same ?_) | ((with_reducible refine WpH.here ?_); first | (refine WpH.nil ?_; refine NoP.normal ?_) | (refine WpH.load (by rfl) (by rfl) (by go_simp; rfl) ?_; simp only [Act.put, List.setIfInBounds_toArray, List.set_cons_zero, List.set_cons_succ]) | (refine WpH.loadT (by rfl) (by rfl) (by go_simp; rfl) (by rintro _ _ ⟨⟩; exact ⟨_, _, _, _, _, _, by rfl, by assumption, by assumption⟩) ?_; simp only [Act.put, List.setIfInBounds_toArray, List.set_cons_zero, List.set_cons_succ]) | (refine WpH.pure (by rfl) (fun w_ => by go_simp; (try go_bits); rfl) ?_; simp only [Act.put, List.setIfInBounds_toArray, List.set_cons_zero, List.set_cons_succ]) | (refine WpH.wild1 (by rfl) (fun _ _ => ?_)) | (refine WpH.skip (by rfl) ?_; simp only [Act.put, List.setIfInBounds_toArray, List.set_cons_zero, List.set_cons_succ])) | go_values | go_skip | go_guarded | go_step | go_upon | go_back)
  refine Stop.go ?_
  rw [Nat.zero_add, List.nil_append] at ho6
  (try rw [Nat.zero_add])
  have hb6 := eE_.trans hb_
  clear hE_ eE_ hrE_ hb_ hsm_ hat_ hz_
  have hbw6 := bvia (bvia hbw4 hb5) hb6
  have hz4 := hbw4.size
  have hL6 := (hL4.step hb5).step hb6
  have hA6 := (hA4.step hb5).step hb6
  have hB6 := hB5.step hb6
  have hW6 := (ho5.mono hz4).step hb6
  have hV6 := ho6.mono (Nat.le_trans hz4 hb5.size)
  clear hL4 hA4 hB4 hB5 ho5 ho6 hb5 hb6 hbw4 hz4
  have hin1 := fitAll_in Hfa.out (by omega)
  have hin2 := fitAll_in Hfb.out (by omega)
  have HX := hid (cross_apart w6 A3 A4 ps.length c3 qs.length c4 ps qs hA6.any hB6.any (by omega) (by omega) hin1 hin2)
  have HY := hid (fun W (h : Below w6.heap.size w6 W) => refCross_any W A3 A4 ps.length c3 qs.length c4 ps qs (hA6.step h).any (hB6.step h).any (by omega) (by omega) hin1 hin2)
  have hplay := hid (cross_play Hfa.out Hfb.out Hab.out (by omega))
  have hk := crossOf_kinds qs ps
  have hff := crossOf_fit qs ps L.length Hfa.out Hfb.out (by omega)
  have hlx := (crossOf_length qs ps).1
  have hly := (crossOf_length qs ps).2
  have Hf1 := hid (fitAll_append.2 ⟨Hfa.out, hff.2⟩)
  have Hf2 := hid (fitAll_append.2 ⟨Hfb.out, hff.1⟩)
  clear hk hff Hab Hfa Hfb
  generalize (crossOf ps qs).1 = us at *
  generalize (crossOf ps qs).2 = vs at *
  repeat' (first | (with_reducible refine stop_region 9 ?_) | (go_at_call 49; go_must ((with_reducible refine Calls.mono HX.out ?_); rintro _ w7 ⟨A7, c7, A8, c8, rfl, ho7, ho8, hap, hb7⟩; dsimp only)) | (go_at_call 50; go_must ((with_reducible refine Calls.mono (HY.out _ hb7) ?_); rintro _ w8 ⟨A9, c9, A10, c10, rfl, ho9, ho10, hb8⟩; dsimp only)) | (with_reducible refine Keep.last ?_) | (with_reducible refine Keep.below (by assumption) ?_) | (with_reducible refine Keep.kept (by assumption) ?_) | (with_reducible refine Keep.alloc ?_) | (with_reducible refine Keep.same ?_) | ((with_reducible refine WpH.here ?_); first | (refine WpH.nil ?_; refine NoP.normal ?_) | (refine WpH.load (by rfl) (by rfl) (by go_simp; rfl) ?_; simp only [Act.put, List.setIfInBounds_toArray, List.set_cons_zero, List.set_cons_succ]) | (refine WpH.loadT (by rfl) (by rfl) (by go_simp; rfl) (by rintro _ _ ⟨⟩; exact ⟨_, _, _, _, _, _, by rfl, by assumption, by assumption⟩) ?_; simp only [Act.put, List.setIfInBounds_toArray, List.set_cons_zero, List.set_cons_succ]) | (refine WpH.pure (by rfl) (fun w_ => by go_simp; (try go_bits); rfl) ?_; simp only [Act.put, List.setIfInBounds_toArray, List.set_cons_zero, List.set_cons_succ]) | (refine WpH.wild1 (by rfl) (fun _ _ => ?_)) | (refine WpH.skip (by rfl) ?_; simp only [Act.put, List.setIfInBounds_toArray, List.set_cons_zero, List.set_cons_succ])) | go_values | go_skip | go_guarded | go_step | go_upon | go_back)
  refine Stop.go ?_
  have hR8 : XR w8 w.heap.size A3 A4 A5 A6 A7 A8 c3 c4 c5 c6 c7 c8 ps qs us vs := XR.step ⟨hA6.step hb7, hB6.step hb7, hW6.step hb7, hV6.step hb7, ho7.mono hbw6.size, ho8.mono hbw6.size⟩ hb8
  have hL8 := (hL6.step hb7).step hb8
  have hbw8 := bvia (bvia hbw6 hb7) hb8
  have Hlo := hid (show (∀ a, A3 = some a → a.block < w6.heap.size) ∧ (∀ a, A4 = some a → a.block < w6.heap.size) ∧ (∀ a, A5 = some a → a.block < w6.heap.size) ∧ (∀ a, A6 = some a → a.block < w6.heap.size) ∧ (∀ a, A7 = some a → w6.heap.size ≤ a.block) ∧ (∀ a, A8 = some a → w6.heap.size ≤ a.block) ∧ (∀ a b, A7 = some a → A8 = some b → a.block ≠ b.block) from
    ⟨fun a h => (hA6.block a h).2, fun a h => (hB6.block a h).2, fun a h => (hW6.block a h).2, fun a h => (hV6.block a h).2, fun a h => (ho7.block a h).1, fun a h => (ho8.block a h).1, hap⟩)
  have hz68 : w6.heap.size ≤ w8.heap.size := Nat.le_trans hb7.size hb8.size
  clear hA6 hB6 hW6 hV6 ho7 ho8 hap hb7 hb8 hL6 hbw6 HX HY
  have HE1 := hid (fun W (h : Below w8.heap.size w8 W) => ops_eq A7 ps.length c7 A9 c9 us _ _ W ((hR8.step h).x.any) ((ho9.step h).any))
  have HE2 := hid (fun W (h : Below w8.heap.size w8 W) => ops_eq A8 qs.length c8 A10 c10 vs _ _ W ((hR8.step h).y.any) ((ho10.step h).any))
  have HE3 := hid (fun W (h : Below w8.heap.size w8 W) => ops_eq A3 ps.length c3 A5 c5 ps _ _ W ((hR8.step h).a.any) ((hR8.step h).wa.any))
  have HE4 := hid (fun W (h : Below w8.heap.size w8 W) => ops_eq A4 qs.length c4 A6 c6 qs _ _ W ((hR8.step h).b.any) ((hR8.step h).wb.any))
  repeat' (first | (with_reducible refine stop_region 11 ?_) | (go_at_call 51; go_must (first | ((with_reducible refine Calls.mono (HE1.out _ (by (repeat' (first | (with_reducible exact Below.refl _ _) | (with_reducible assumption) | (with_reducible refine balloc ?_) | (with_reducible refine bdrew ?_) | (with_reducible refine bset ?_ (by (try dsimp only); omega)) | (with_reducible refine bvia ?_ (by assumption)))))) ?_); rintro _ wa ⟨rfl, hba⟩; dsimp only) | ((with_reducible refine Calls.mono (HE2.out _ (by (repeat' (first | (with_reducible exact Below.refl _ _) | (with_reducible assumption) | (with_reducible refine balloc ?_) | (with_reducible refine bdrew ?_) | (with_reducible refine bset ?_ (by (try dsimp only); omega)) | (with_reducible refine bvia ?_ (by assumption)))))) ?_); rintro _ wb ⟨rfl, hbb⟩; dsimp only) | ((with_reducible refine Calls.mono (HE3.out _ (by (repeat' (first | (with_reducible exact Below.refl _ _) | (with_reducible assumption) | (with_reducible refine balloc ?_) | (with_reducible refine bdrew ?_) | (with_reducible refine bset ?_ (by (try dsimp only); omega)) | (with_reducible refine bvia ?_ (by assumption)))))) ?_); rintro _ wc ⟨rfl, hbc⟩; dsimp only) | ((with_reducible refine Calls.mono (HE4.out _ (by (repeat' (first | (with_reducible exact Below.refl _ _) | (with_reducible assumption) | (with_reducible refine balloc ?_) | (with_reducible refine bdrew ?_) | (with_reducible refine bset ?_ (by (try dsimp only); omega)) | (with_reducible refine bvia ?_ (by assumption)))))) ?_); rintro _ wd ⟨rfl, hbd⟩; dsimp only))) | (with_reducible refine Keep.last ?_) | (with_reducible refine Keep.below (by assumption) ?_) | (with_reducible refine Keep.kept (by assumption) ?_) | (with_reducible refine Keep.alloc ?_) | (with_reducible refine Keep.same ?_) | ((with_reducible refine WpH.here ?_); first | (refine WpH.nil ?_; refine NoP.normal ?_) | (refine WpH.load (by rfl) (by rfl) (by go_simp; rfl) ?_; simp only [Act.put, List.setIfInBounds_toArray, List.set_cons_zero, List.set_cons_succ]) | (refine WpH.loadT (by rfl) (by rfl) (by go_simp; rfl) (by rintro _ _ ⟨⟩; exact ⟨_, _, _, _, _, _, by rfl, by assumption, by assumption⟩) ?_; simp only [Act.put, List.setIfInBounds_toArray, List.set_cons_zero, List.set_cons_succ]) | (refine WpH.pure (by rfl) (fun w_ => by go_simp; (try go_bits); rfl) ?_; simp only [Act.put, List.setIfInBounds_toArray, List.set_cons_zero, List.set_cons_succ]) | (refine WpH.wild1 (by rfl) (fun _ _ => ?_)) | (refine WpH.skip (by rfl) ?_; simp only [Act.put, List.setIfInBounds_toArray, List.set_cons_zero, List.set_cons_succ])) | go_values | go_skip | go_guarded | go_step | go_upon | go_back)
  refine Stop.go ?_
  have e8 : Below w8.heap.size w8 wd := by (repeat' (first | (with_reducible exact Below.refl _ _) | (with_reducible assumption) | (with_reducible refine balloc ?_) | (with_reducible refine bdrew ?_) | (with_reducible refine bset ?_ (by (try dsimp only); omega)) | (with_reducible refine bvia ?_ (by assumption))))
  have hRd := hR8.step e8
  have hLd := hL8.step e8
  have hbd' := bvia hbw8 e8
  have hz6d : w6.heap.size ≤ wd.heap.size := Nat.le_trans hz68 e8.size
  clear hR8 hL8 hbw8 hba hbb hbc hbd e8 ho9 ho10 HE1 HE2 HE3 HE4
  have hE1 := GOwn.lit (t := 58) wd #[] ([] : List Opn) (wd).heap.size (Nat.le_refl _) (Nat.zero_le _) rfl
  have eE1 : Below (wd).heap.size wd ((wd).alloc (.cells #[] 58)) := balloc (Below.refl _ _)
  have hr11 := (hRd).a.any.step eE1
  have hr21 := (hRd).y.any.step eE1
  have hzE1 := eE1.size
  have HP1 := hid (fun W d (hl : Own W w.heap.size A1 L.length c1 L) X (ho : GRow W (fun _ => True) X (ps.length + qs.length) d (ps ++ vs)) => play_any W A1 X L.length c1 (ps.length + qs.length) d L (ps ++ vs) (fun _ => True) (fun _ => True) (hl.row fun _ _ _ => trivial) ho (by omega) (by omega) hgood.out hnod.out hcalm.out (Hf1).out (fun r n => hnew.out r n))
  repeat' (first | (with_reducible refine stop_region 12 ?_) | ((with_reducible refine app_ops_here ?_); first | (refine wp_append_ops (wd).heap.size p11 A8 ps.length d11 qs.length c8 ps vs _ (by rfl) (by rfl) ho11 hr31 hz31 (by omega) ?_; intro p21 d21 v21 ho21 hb21 hsm21 hat21 hz21; have e21 := eE1.trans (hb11.trans hb21); have hl21 := (hLd).step e21) | (refine wp_append_ops (wd).heap.size _ A3 0 0 ps.length c3 [] ps _ (by rfl) (by rfl) hE1 hr11 hzE1 (by omega) ?_; intro p11 d11 v11 ho11 hb11 hsm11 hat11 hz11; rw [Nat.zero_add, List.nil_append] at ho11; have hz31 := Nat.le_trans hzE1 hz11; have hr31 := hr21.keep hz11 (fun b hb _ => hb11.block b hb))) | (go_at_call 52; go_must ((with_reducible refine Calls.mono (HP1.out _ _ hl21 _ (ho21.row fun _ _ _ => trivial)) ?_); rintro _ we_1 ⟨q1, k1, rfl, ho_1, hb_1⟩; dsimp only)) | (with_reducible refine Keep.last ?_) | (with_reducible refine Keep.below (by assumption) ?_) | (with_reducible refine Keep.kept (by assumption) ?_) | (with_reducible refine Keep.alloc ?_) | (with_reducible refine Keep.same ?_) | ((with_reducible refine WpH.here ?_); first | (refine WpH.nil ?_; refine NoP.normal ?_) | (refine WpH.load (by rfl) (by rfl) (by go_simp; rfl) ?_; simp only [Act.put, List.setIfInBounds_toArray, List.set_cons_zero, List.set_cons_succ]) | (refine WpH.loadT (by rfl) (by rfl) (by go_simp; rfl) (by rintro _ _ ⟨⟩; exact ⟨_, _, _, _, _, _, by rfl, by assumption, by assumption⟩) ?_; simp only [Act.put, List.setIfInBounds_toArray, List.set_cons_zero, List.set_cons_succ]) | (refine WpH.pure (by rfl) (fun w_ => by go_simp; (try go_bits); rfl) ?_; simp only [Act.put, List.setIfInBounds_toArray, List.set_cons_zero, List.set_cons_succ]) | (refine WpH.wild1 (by rfl) (fun _ _ => ?_)) | (refine WpH.skip (by rfl) ?_; simp only [Act.put, List.setIfInBounds_toArray, List.set_cons_zero, List.set_cons_succ])) | go_values | go_skip | go_guarded | go_step | go_upon | go_back)
  refine Stop.go ?_
  have e_1 := e21.trans (hb_1.mono e21.size)
  clear hE1 eE1 hr11 hr21 hzE1 HP1 ho11 hb11 hsm11 hat11 hz11 hz31 hr31 ho21 hb21 hsm21 hat21 hz21 hl21
  have hRe := hRd.step e_1
  have hLe := hLd.step e_1
  have hbe' := bvia hbd' e_1
  have hE2 := GOwn.lit (t := 58) we_1 #[] ([] : List Opn) (we_1).heap.size (Nat.le_refl _) (Nat.zero_le _) rfl
  have eE2 : Below (we_1).heap.size we_1 ((we_1).alloc (.cells #[] 58)) := balloc (Below.refl _ _)
  have hr12 := (hRe).b.any.step eE2
  have hr22 := (hRe).x.any.step eE2
  have hzE2 := eE2.size
  have HP2 := hid (fun W d (hl : Own W w.heap.size A1 L.length c1 L) X (ho : GRow W (fun _ => True) X (qs.length + ps.length) d (qs ++ us)) => play_any W A1 X L.length c1 (qs.length + ps.length) d L (qs ++ us) (fun _ => True) (fun _ => True) (hl.row fun _ _ _ => trivial) ho (by omega) (by omega) hgood.out hnod.out hcalm.out (Hf2).out (fun r n => hnew.out r n))
  repeat' (first | (with_reducible refine stop_region 13 ?_) | ((with_reducible refine app_ops_here ?_); first | (refine wp_append_ops (we_1).heap.size p12 A7 qs.length d12 ps.length c7 qs us _ (by rfl) (by rfl) ho12 hr32 hz32 (by omega) ?_; intro p22 d22 v22 ho22 hb22 hsm22 hat22 hz22; have e22 := eE2.trans (hb12.trans hb22); have hl22 := (hLe).step e22) | (refine wp_append_ops (we_1).heap.size _ A4 0 0 qs.length c4 [] qs _ (by rfl) (by rfl) hE2 hr12 hzE2 (by omega) ?_; intro p12 d12 v12 ho12 hb12 hsm12 hat12 hz12; rw [Nat.zero_add, List.nil_append] at ho12; have hz32 := Nat.le_trans hzE2 hz12; have hr32 := hr22.keep hz12 (fun b hb _ => hb12.block b hb))) | (go_at_call 52; go_must ((with_reducible refine Calls.mono (HP2.out _ _ hl22 _ (ho22.row fun _ _ _ => trivial)) ?_); rintro _ we_2 ⟨q2, k2, rfl, ho_2, hb_2⟩; dsimp only)) | (with_reducible refine Keep.last ?_) | (with_reducible refine Keep.below (by assumption) ?_) | (with_reducible refine Keep.kept (by assumption) ?_) | (with_reducible refine Keep.alloc ?_) | (with_reducible refine Keep.same ?_) | ((with_reducible refine WpH.here ?_); first | (refine WpH.nil ?_; refine NoP.normal ?_) | (refine WpH.load (by rfl) (by rfl) (by go_simp; rfl) ?_; simp only [Act.put, List.setIfInBounds_toArray, List.set_cons_zero, List.set_cons_succ]) | (refine WpH.loadT (by rfl) (by rfl) (by go_simp; rfl) (by rintro _ _ ⟨⟩; exact ⟨_, _, _, _, _, _, by rfl, by assumption, by assumption⟩) ?_; simp only [Act.put, List.setIfInBounds_toArray, List.set_cons_zero, List.set_cons_succ]) | (refine WpH.pure (by rfl) (fun w_ => by go_simp; (try go_bits); rfl) ?_; simp only [Act.put, List.setIfInBounds_toArray, List.set_cons_zero, List.set_cons_succ]) | (refine WpH.wild1 (by rfl) (fun _ _ => ?_)) | (refine WpH.skip (by rfl) ?_; simp only [Act.put, List.setIfInBounds_toArray, List.set_cons_zero, List.set_cons_succ])) | go_values | go_skip | go_guarded | go_step | go_upon | go_back)
  refine Stop.go ?_
  have e_2 := e22.trans (hb_2.mono e22.size)
  clear hE2 eE2 hr12 hr22 hzE2 HP2 ho12 hb12 hsm12 hat12 hz12 hz32 hr32 ho22 hb22 hsm22 hat22 hz22 hl22
  have hRf := hRe.step e_2
  have hbf' := bvia hbe' e_2
  have hF1 := ho_1.step e_2
  rw [hplay.out] at hF1 ⊢
  have Hin1 := hid hin1
  clear hin1 hin2 hplay hRe hLe hLd hRd hbe' hbd' Hf1 Hf2
  generalize doneIds L (withIds (qs ++ us)) = F at *
  have HE := hid (els_eq q1 F.length k1 q2 k2 F (fun _ => True) (fun _ => True) we_2 (hF1.row fun _ _ _ => trivial) (ho_2.row fun _ _ _ => trivial))
  repeat' (first | (with_reducible refine stop_region 15 ?_) | (go_at_call 37; go_must ((with_reducible refine Calls.mono HE.out ?_); rintro _ w13 ⟨rfl, hb13⟩; dsimp only)) | (with_reducible refine Keep.last ?_) | (with_reducible refine Keep.below (by assumption) ?_) | (with_reducible refine Keep.kept (by assumption) ?_) | (with_reducible refine Keep.alloc ?_) | (with_reducible refine Keep.same ?_) | ((with_reducible refine WpH.here ?_); first | (refine WpH.nil ?_; refine NoP.normal ?_) | (refine WpH.load (by rfl) (by rfl) (by go_simp; rfl) ?_; simp only [Act.put, List.setIfInBounds_toArray, List.set_cons_zero, List.set_cons_succ]) | (refine WpH.loadT (by rfl) (by rfl) (by go_simp; rfl) (by rintro _ _ ⟨⟩; exact ⟨_, _, _, _, _, _, by rfl, by assumption, by assumption⟩) ?_; simp only [Act.put, List.setIfInBounds_toArray, List.set_cons_zero, List.set_cons_succ]) | (refine WpH.pure (by rfl) (fun w_ => by go_simp; (try go_bits); rfl) ?_; simp only [Act.put, List.setIfInBounds_toArray, List.set_cons_zero, List.set_cons_succ]) | (refine WpH.wild1 (by rfl) (fun _ _ => ?_)) | (refine WpH.skip (by rfl) ?_; simp only [Act.put, List.setIfInBounds_toArray, List.set_cons_zero, List.set_cons_succ])) | go_values | go_skip | go_guarded | go_step | go_upon | go_back)
  refine Stop.go ?_
  have hR13 := hRf.step hb13
  have hbw13 := bvia hbf' hb13
  have hz13 : w6.heap.size ≤ w13.heap.size := Nat.le_trans hz6d (Nat.le_trans e_1.size (Nat.le_trans e_2.size hb13.size))
  clear hRf hbf' hb13 hF1 ho_2 HE ho_1 e_1 e_2
  rcases Nat.eq_zero_or_pos ps.length with h0 | h0
  · have hps : ps = [] := List.length_eq_zero_iff.1 h0
    clear Hin1
    have hRq := hR13
    cases hps : ps with
    | cons p l => rw [hps] at h0; cases h0
    | nil =>
    subst hps
    simp only [List.length_nil] at *
    have eG : Below w13.heap.size w13 w13.drew := (Below.refl _ _).drew
    repeat' (first | (with_reducible refine stop_region 17 ?_) | ((with_reducible refine region_at 15 ?_); refine wp_region_order [(0, true, false), (1, true, false), (2, true, false), (3, true, false), (4, true, false), (5, true, false), (6, true, false), (7, true, false), (9, true, false), (10, true, false), (11, true, false), (12, true, false), (8, false, false), (13, false, false), (14, true, false), (15, true, false)] (by kernel_rfl) (by kernel_rfl) (by kernel_rfl) rfl rfl ?_) | (with_reducible refine Keep.last ?_) | (with_reducible refine Keep.below (by assumption) ?_) | (with_reducible refine Keep.kept (by assumption) ?_) | (with_reducible refine Keep.alloc ?_) | (with_reducible refine Keep.same ?_) | ((with_reducible refine WpH.here ?_); first | (refine WpH.nil ?_; refine NoP.normal ?_) | (refine WpH.load (by rfl) (by rfl) (by go_simp; rfl) ?_; simp only [Act.put, List.setIfInBounds_toArray, List.set_cons_zero, List.set_cons_succ]) | (refine WpH.loadT (by rfl) (by rfl) (by go_simp; rfl) (by rintro _ _ ⟨⟩; exact ⟨_, _, _, _, _, _, by rfl, by assumption, by assumption⟩) ?_; simp only [Act.put, List.setIfInBounds_toArray, List.set_cons_zero, List.set_cons_succ]) | (refine WpH.pure (by rfl) (fun w_ => by go_simp; (try go_bits); rfl) ?_; simp only [Act.put, List.setIfInBounds_toArray, List.set_cons_zero, List.set_cons_succ]) | (refine WpH.wild1 (by rfl) (fun _ _ => ?_)) | (refine WpH.skip (by rfl) ?_; simp only [Act.put, List.setIfInBounds_toArray, List.set_cons_zero, List.set_cons_succ])) | go_values | go_skip | go_guarded | go_step | go_upon | go_back)
    refine Stop.go ?_
    have hRg := hR13.step eG
    have hbg := bvia hbw13 eG
    clear hR13 hbw13 eG
    have hwz := hbg.size
    have HS1 := hid (spoilOps_any A7 0 c7 w.heap.size us w13.drew hRg.x (by omega) hwz)
    repeat' (first | (with_reducible refine stop_region 18 ?_) | (go_at_call 55; go_must ((with_reducible refine Calls.mono HS1.out ?_); rintro _ w17 ⟨rfl, hO17⟩; dsimp only)) | (with_reducible refine Keep.last ?_) | (with_reducible refine Keep.below (by assumption) ?_) | (with_reducible refine Keep.kept (by assumption) ?_) | (with_reducible refine Keep.alloc ?_) | (with_reducible refine Keep.same ?_) | ((with_reducible refine WpH.here ?_); first | (refine WpH.nil ?_; refine NoP.normal ?_) | (refine WpH.load (by rfl) (by rfl) (by go_simp; rfl) ?_; simp only [Act.put, List.setIfInBounds_toArray, List.set_cons_zero, List.set_cons_succ]) | (refine WpH.loadT (by rfl) (by rfl) (by go_simp; rfl) (by rintro _ _ ⟨⟩; exact ⟨_, _, _, _, _, _, by rfl, by assumption, by assumption⟩) ?_; simp only [Act.put, List.setIfInBounds_toArray, List.set_cons_zero, List.set_cons_succ]) | (refine WpH.pure (by rfl) (fun w_ => by go_simp; (try go_bits); rfl) ?_; simp only [Act.put, List.setIfInBounds_toArray, List.set_cons_zero, List.set_cons_succ]) | (refine WpH.wild1 (by rfl) (fun _ _ => ?_)) | (refine WpH.skip (by rfl) ?_; simp only [Act.put, List.setIfInBounds_toArray, List.set_cons_zero, List.set_cons_succ])) | go_values | go_skip | go_guarded | go_step | go_upon | go_back)
    refine Stop.go ?_
    have hlo := Hlo.out
    have hy17 := hRg.y.out hO17 (fun a ha ⟨x, hx, e⟩ => hlo.2.2.2.2.2.2 x a hx ha e)
    have ha17 := hRg.a.out hO17 (fun a ha ⟨x, hx, e⟩ => by have h1 := hlo.1 a ha; have h2 := hlo.2.2.2.2.1 x hx; omega)
    have hb17 := hRg.b.out hO17 (fun a ha ⟨x, hx, e⟩ => by have h1 := hlo.2.1 a ha; have h2 := hlo.2.2.2.2.1 x hx; omega)
    have hc17 := hRg.wa.out hO17 (fun a ha ⟨x, hx, e⟩ => by have h1 := hlo.2.2.1 a ha; have h2 := hlo.2.2.2.2.1 x hx; omega)
    have hd17 := hRg.wb.out hO17 (fun a ha ⟨x, hx, e⟩ => by have h1 := hlo.2.2.2.1 a ha; have h2 := hlo.2.2.2.2.1 x hx; omega)
    have hxa := hRg.x
    have hbw17 : Below w.heap.size w w17 := hO17.below hbg (Nat.le_refl _) (fun b ⟨x, hx, e⟩ => by rw [← e]; exact (hxa.block x hx).1)
    clear HS1 hRg hbg hxa hwz
    have hwz := hbw17.size
    have HS2 := hid (spoilOps_any A8 qs.length c8 w.heap.size vs w17 hy17 (by omega) hwz)
    repeat' (first | (with_reducible refine stop_region 19 ?_) | (go_at_call 55; go_must ((with_reducible refine Calls.mono HS2.out ?_); rintro _ w18 ⟨rfl, hO18⟩; dsimp only)) | (with_reducible refine Keep.last ?_) | (with_reducible refine Keep.below (by assumption) ?_) | (with_reducible refine Keep.kept (by assumption) ?_) | (with_reducible refine Keep.alloc ?_) | (with_reducible refine Keep.same ?_) | ((with_reducible refine WpH.here ?_); first | (refine WpH.nil ?_; refine NoP.normal ?_) | (refine WpH.load (by rfl) (by rfl) (by go_simp; rfl) ?_; simp only [Act.put, List.setIfInBounds_toArray, List.set_cons_zero, List.set_cons_succ]) | (refine WpH.loadT (by rfl) (by rfl) (by go_simp; rfl) (by rintro _ _ ⟨⟩; exact ⟨_, _, _, _, _, _, by rfl, by assumption, by assumption⟩) ?_; simp only [Act.put, List.setIfInBounds_toArray, List.set_cons_zero, List.set_cons_succ]) | (refine WpH.pure (by rfl) (fun w_ => by go_simp; (try go_bits); rfl) ?_; simp only [Act.put, List.setIfInBounds_toArray, List.set_cons_zero, List.set_cons_succ]) | (refine WpH.wild1 (by rfl) (fun _ _ => ?_)) | (refine WpH.skip (by rfl) ?_; simp only [Act.put, List.setIfInBounds_toArray, List.set_cons_zero, List.set_cons_succ])) | go_values | go_skip | go_guarded | go_step | go_upon | go_back)
    refine Stop.go ?_
    have ha18 := ha17.out hO18 (fun a ha ⟨x, hx, e⟩ => by have h1 := hlo.1 a ha; have h2 := hlo.2.2.2.2.2.1 x hx; omega)
    have hb18 := hb17.out hO18 (fun a ha ⟨x, hx, e⟩ => by have h1 := hlo.2.1 a ha; have h2 := hlo.2.2.2.2.2.1 x hx; omega)
    have hc18 := hc17.out hO18 (fun a ha ⟨x, hx, e⟩ => by have h1 := hlo.2.2.1 a ha; have h2 := hlo.2.2.2.2.2.1 x hx; omega)
    have hd18 := hd17.out hO18 (fun a ha ⟨x, hx, e⟩ => by have h1 := hlo.2.2.2.1 a ha; have h2 := hlo.2.2.2.2.2.1 x hx; omega)
    have hbw18 : Below w.heap.size w w18 := hO18.below hbw17 (Nat.le_refl _) (fun b ⟨x, hx, e⟩ => by rw [← e]; exact (hy17.block x hx).1)
    clear HS2 ha17 hb17 hc17 hd17 hy17 hbw17 hwz hO17 hO18 hlo
    have HE3 := hid (fun W (h : Below w18.heap.size w18 W) => ops_eq _ 0 c3 A5 c5 [] _ _ W ((ha18.step h).any) ((hc18.step h).any))
    have HE4 := hid (fun W (h : Below w18.heap.size w18 W) => ops_eq A4 qs.length c4 A6 c6 qs _ _ W ((hb18.step h).any) ((hd18.step h).any))
    repeat' (first | (go_at_call 51; go_must (first | ((with_reducible refine Calls.mono (HE3.out _ (by (repeat' (first | (with_reducible exact Below.refl _ _) | (with_reducible assumption) | (with_reducible refine balloc ?_) | (with_reducible refine bdrew ?_) | (with_reducible refine bset ?_ (by (try dsimp only); omega)) | (with_reducible refine bvia ?_ (by assumption)))))) ?_); rintro _ wc ⟨rfl, hbc⟩; dsimp only) | ((with_reducible refine Calls.mono (HE4.out _ (by (repeat' (first | (with_reducible exact Below.refl _ _) | (with_reducible assumption) | (with_reducible refine balloc ?_) | (with_reducible refine bdrew ?_) | (with_reducible refine bset ?_ (by (try dsimp only); omega)) | (with_reducible refine bvia ?_ (by assumption)))))) ?_); rintro _ wd ⟨rfl, hbd⟩; dsimp only))) | (go_at_call 32; go_must ((with_reducible refine Calls.mono (HK.out _) ?_); rintro _ wk ⟨rfl, hbk⟩; dsimp only)) | (with_reducible refine Keep.last ?_) | (with_reducible refine Keep.below (by assumption) ?_) | (with_reducible refine Keep.kept (by assumption) ?_) | (with_reducible refine Keep.alloc ?_) | (with_reducible refine Keep.same ?_) | ((with_reducible refine WpH.here ?_); first | (refine WpH.nil ?_; refine NoP.normal ?_) | (refine WpH.load (by rfl) (by rfl) (by go_simp; rfl) ?_; simp only [Act.put, List.setIfInBounds_toArray, List.set_cons_zero, List.set_cons_succ]) | (refine WpH.loadT (by rfl) (by rfl) (by go_simp; rfl) (by rintro _ _ ⟨⟩; exact ⟨_, _, _, _, _, _, by rfl, by assumption, by assumption⟩) ?_; simp only [Act.put, List.setIfInBounds_toArray, List.set_cons_zero, List.set_cons_succ]) | (refine WpH.pure (by rfl) (fun w_ => by go_simp; (try go_bits); rfl) ?_; simp only [Act.put, List.setIfInBounds_toArray, List.set_cons_zero, List.set_cons_succ]) | (refine WpH.wild1 (by rfl) (fun _ _ => ?_)) | (refine WpH.skip (by rfl) ?_; simp only [Act.put, List.setIfInBounds_toArray, List.set_cons_zero, List.set_cons_succ])) | go_values | go_skip | go_guarded | go_step | go_upon | go_back)
    skip
    go_ret
    exact ⟨rfl, bvia (bvia (bvia hbw18 hbc) hbd) hbk⟩
  · obtain ⟨g, o, hAe, hok, hg1, hg2, c0, c1', c2', c3', -, -, -, -⟩ := own_op hR13.a h0
    subst hAe
    have n1 : (ps.length : Int) > 0 := by omega
    have io := Hin1.out o (List.mem_of_getElem? hok)
    simp only [Nat.zero_mul, Nat.zero_add] at c0 c1' c2' c3'
    have HA1 := hid (fun W (h : Below w13.heap.size w13 W) => along_any o W A4 qs.length c4 qs io (hR13.step h).b.any)
    have HA2 := hid (fun W (h : Below w13.heap.size w13 W) => refAlong_any o W A4 qs.length c4 qs io (hR13.step h).b.any)
    simp only [Opn.agg] at HA1 HA2
    repeat' (first | (with_reducible refine stop_region 17 ?_) | ((with_reducible refine region_at 15 ?_); refine wp_region_order [(0, true, false), (1, true, false), (2, true, false), (3, true, false), (4, true, false), (5, true, false), (6, true, false), (7, true, false), (9, true, false), (10, true, false), (11, true, false), (12, true, false), (8, false, false), (13, false, false), (14, true, false), (15, true, false)] (by kernel_rfl) (by kernel_rfl) (by kernel_rfl) rfl rfl ?_) | ((with_reducible refine WpH.here ?_); refine WpH.wild2 (by rfl) (fun _ _ => ?_)) | (go_at_call 53; go_must ((with_reducible refine Calls.mono (HA1.out _ (by (repeat' (first | (with_reducible exact Below.refl _ _) | (with_reducible assumption) | (with_reducible refine balloc ?_) | (with_reducible refine bdrew ?_) | (with_reducible refine bset ?_ (by (try dsimp only); omega)) | (with_reducible refine bvia ?_ (by assumption)))))) ?_); rintro _ w14 ⟨rfl, hb14⟩; dsimp only)) | (go_at_call 54; go_must ((with_reducible refine Calls.mono (HA2.out _ (by (repeat' (first | (with_reducible exact Below.refl _ _) | (with_reducible assumption) | (with_reducible refine balloc ?_) | (with_reducible refine bdrew ?_) | (with_reducible refine bset ?_ (by (try dsimp only); omega)) | (with_reducible refine bvia ?_ (by assumption)))))) ?_); rintro _ w15 ⟨rfl, hb15⟩; dsimp only)) | (with_reducible refine Keep.last ?_) | (with_reducible refine Keep.below (by assumption) ?_) | (with_reducible refine Keep.kept (by assumption) ?_) | (with_reducible refine Keep.alloc ?_) | (with_reducible refine Keep.same ?_) | ((with_reducible refine WpH.here ?_); first | (refine WpH.nil ?_; refine NoP.normal ?_) | (refine WpH.load (by rfl) (by rfl) (by go_simp; rfl) ?_; simp only [Act.put, List.setIfInBounds_toArray, List.set_cons_zero, List.set_cons_succ]) | (refine WpH.loadT (by rfl) (by rfl) (by go_simp; rfl) (by rintro _ _ ⟨⟩; exact ⟨_, _, _, _, _, _, by rfl, by assumption, by assumption⟩) ?_; simp only [Act.put, List.setIfInBounds_toArray, List.set_cons_zero, List.set_cons_succ]) | (refine WpH.pure (by rfl) (fun w_ => by go_simp; (try go_bits); rfl) ?_; simp only [Act.put, List.setIfInBounds_toArray, List.set_cons_zero, List.set_cons_succ]) | (refine WpH.wild1 (by rfl) (fun _ _ => ?_)) | (refine WpH.skip (by rfl) ?_; simp only [Act.put, List.setIfInBounds_toArray, List.set_cons_zero, List.set_cons_succ])) | go_values | go_skip | go_guarded | go_step | go_upon | go_back)
    refine Stop.go ?_
    skip
    have eG : Below w13.heap.size w13 w15 := by (repeat' (first | (with_reducible exact Below.refl _ _) | (with_reducible assumption) | (with_reducible refine balloc ?_) | (with_reducible refine bdrew ?_) | (with_reducible refine bset ?_ (by (try dsimp only); omega)) | (with_reducible refine bvia ?_ (by assumption))))
    have hRg := hR13.step eG
    have hbg := bvia hbw13 eG
    have hz13 := Nat.le_trans hz13 eG.size
    clear hR13 hbw13 eG n1 hb14 hb15 HA1 HA2 c0 c1' c2' c3'
    have hwz := hbg.size
    have HS1 := hid (spoilOps_any A7 ps.length c7 w.heap.size us w15 hRg.x (by omega) hwz)
    repeat' (first | (with_reducible refine stop_region 18 ?_) | (go_at_call 55; go_must ((with_reducible refine Calls.mono HS1.out ?_); rintro _ w17 ⟨rfl, hO17⟩; dsimp only)) | (with_reducible refine Keep.last ?_) | (with_reducible refine Keep.below (by assumption) ?_) | (with_reducible refine Keep.kept (by assumption) ?_) | (with_reducible refine Keep.alloc ?_) | (with_reducible refine Keep.same ?_) | ((with_reducible refine WpH.here ?_); first | (refine WpH.nil ?_; refine NoP.normal ?_) | (refine WpH.load (by rfl) (by rfl) (by go_simp; rfl) ?_; simp only [Act.put, List.setIfInBounds_toArray, List.set_cons_zero, List.set_cons_succ]) | (refine WpH.loadT (by rfl) (by rfl) (by go_simp; rfl) (by rintro _ _ ⟨⟩; exact ⟨_, _, _, _, _, _, by rfl, by assumption, by assumption⟩) ?_; simp only [Act.put, List.setIfInBounds_toArray, List.set_cons_zero, List.set_cons_succ]) | (refine WpH.pure (by rfl) (fun w_ => by go_simp; (try go_bits); rfl) ?_; simp only [Act.put, List.setIfInBounds_toArray, List.set_cons_zero, List.set_cons_succ]) | (refine WpH.wild1 (by rfl) (fun _ _ => ?_)) | (refine WpH.skip (by rfl) ?_; simp only [Act.put, List.setIfInBounds_toArray, List.set_cons_zero, List.set_cons_succ])) | go_values | go_skip | go_guarded | go_step | go_upon | go_back)
    refine Stop.go ?_
    have hlo := Hlo.out
    have hy17 := hRg.y.out hO17 (fun a ha ⟨x, hx, e⟩ => hlo.2.2.2.2.2.2 x a hx ha e)
    have ha17 := hRg.a.out hO17 (fun a ha ⟨x, hx, e⟩ => by have h1 := hlo.1 a ha; have h2 := hlo.2.2.2.2.1 x hx; omega)
    have hb17 := hRg.b.out hO17 (fun a ha ⟨x, hx, e⟩ => by have h1 := hlo.2.1 a ha; have h2 := hlo.2.2.2.2.1 x hx; omega)
    have hc17 := hRg.wa.out hO17 (fun a ha ⟨x, hx, e⟩ => by have h1 := hlo.2.2.1 a ha; have h2 := hlo.2.2.2.2.1 x hx; omega)
    have hd17 := hRg.wb.out hO17 (fun a ha ⟨x, hx, e⟩ => by have h1 := hlo.2.2.2.1 a ha; have h2 := hlo.2.2.2.2.1 x hx; omega)
    have hxa := hRg.x
    have hbw17 : Below w.heap.size w w17 := hO17.below hbg (Nat.le_refl _) (fun b ⟨x, hx, e⟩ => by rw [← e]; exact (hxa.block x hx).1)
    clear HS1 hRg hbg hxa hwz
    have hwz := hbw17.size
    have HS2 := hid (spoilOps_any A8 qs.length c8 w.heap.size vs w17 hy17 (by omega) hwz)
    repeat' (first | (with_reducible refine stop_region 19 ?_) | (go_at_call 55; go_must ((with_reducible refine Calls.mono HS2.out ?_); rintro _ w18 ⟨rfl, hO18⟩; dsimp only)) | (with_reducible refine Keep.last ?_) | (with_reducible refine Keep.below (by assumption) ?_) | (with_reducible refine Keep.kept (by assumption) ?_) | (with_reducible refine Keep.alloc ?_) | (with_reducible refine Keep.same ?_) | ((with_reducible refine WpH.here ?_); first | (refine WpH.nil ?_; refine NoP.normal ?_) | (refine WpH.load (by rfl) (by rfl) (by go_simp; rfl) ?_; simp only [Act.put, List.setIfInBounds_toArray, List.set_cons_zero, List.set_cons_succ]) | (refine WpH.loadT (by rfl) (by rfl) (by go_simp; rfl) (by rintro _ _ ⟨⟩; exact ⟨_, _, _, _, _, _, by rfl, by assumption, by assumption⟩) ?_; simp only [Act.put, List.setIfInBounds_toArray, List.set_cons_zero, List.set_cons_succ]) | (refine WpH.pure (by rfl) (fun w_ => by go_simp; (try go_bits); rfl) ?_; simp only [Act.put, List.setIfInBounds_toArray, List.set_cons_zero, List.set_cons_succ]) | (refine WpH.wild1 (by rfl) (fun _ _ => ?_)) | (refine WpH.skip (by rfl) ?_; simp only [Act.put, List.setIfInBounds_toArray, List.set_cons_zero, List.set_cons_succ])) | go_values | go_skip | go_guarded | go_step | go_upon | go_back)
    refine Stop.go ?_
    have ha18 := ha17.out hO18 (fun a ha ⟨x, hx, e⟩ => by have h1 := hlo.1 a ha; have h2 := hlo.2.2.2.2.2.1 x hx; omega)
    have hb18 := hb17.out hO18 (fun a ha ⟨x, hx, e⟩ => by have h1 := hlo.2.1 a ha; have h2 := hlo.2.2.2.2.2.1 x hx; omega)
    have hc18 := hc17.out hO18 (fun a ha ⟨x, hx, e⟩ => by have h1 := hlo.2.2.1 a ha; have h2 := hlo.2.2.2.2.2.1 x hx; omega)
    have hd18 := hd17.out hO18 (fun a ha ⟨x, hx, e⟩ => by have h1 := hlo.2.2.2.1 a ha; have h2 := hlo.2.2.2.2.2.1 x hx; omega)
    have hbw18 : Below w.heap.size w w18 := hO18.below hbw17 (Nat.le_refl _) (fun b ⟨x, hx, e⟩ => by rw [← e]; exact (hy17.block x hx).1)
    clear HS2 ha17 hb17 hc17 hd17 hy17 hbw17 hwz hO17 hO18 hlo
    have HE3 := hid (fun W (h : Below w18.heap.size w18 W) => ops_eq _ ps.length c3 A5 c5 ps _ _ W ((ha18.step h).any) ((hc18.step h).any))
    have HE4 := hid (fun W (h : Below w18.heap.size w18 W) => ops_eq A4 qs.length c4 A6 c6 qs _ _ W ((hb18.step h).any) ((hd18.step h).any))
    repeat' (first | (go_at_call 51; go_must (first | ((with_reducible refine Calls.mono (HE3.out _ (by (repeat' (first | (with_reducible exact Below.refl _ _) | (with_reducible assumption) | (with_reducible refine balloc ?_) | (with_reducible refine bdrew ?_) | (with_reducible refine bset ?_ (by (try dsimp only); omega)) | (with_reducible refine bvia ?_ (by assumption)))))) ?_); rintro _ wc ⟨rfl, hbc⟩; dsimp only) | ((with_reducible refine Calls.mono (HE4.out _ (by (repeat' (first | (with_reducible exact Below.refl _ _) | (with_reducible assumption) | (with_reducible refine balloc ?_) | (with_reducible refine bdrew ?_) | (with_reducible refine bset ?_ (by (try dsimp only); omega)) | (with_reducible refine bvia ?_ (by assumption)))))) ?_); rintro _ wd ⟨rfl, hbd⟩; dsimp only))) | (go_at_call 32; go_must ((with_reducible refine Calls.mono (HK.out _) ?_); rintro _ wk ⟨rfl, hbk⟩; dsimp only)) | (with_reducible refine Keep.last ?_) | (with_reducible refine Keep.below (by assumption) ?_) | (with_reducible refine Keep.kept (by assumption) ?_) | (with_reducible refine Keep.alloc ?_) | (with_reducible refine Keep.same ?_) | ((with_reducible refine WpH.here ?_); first | (refine WpH.nil ?_; refine NoP.normal ?_) | (refine WpH.load (by rfl) (by rfl) (by go_simp; rfl) ?_; simp only [Act.put, List.setIfInBounds_toArray, List.set_cons_zero, List.set_cons_succ]) | (refine WpH.loadT (by rfl) (by rfl) (by go_simp; rfl) (by rintro _ _ ⟨⟩; exact ⟨_, _, _, _, _, _, by rfl, by assumption, by assumption⟩) ?_; simp only [Act.put, List.setIfInBounds_toArray, List.set_cons_zero, List.set_cons_succ]) | (refine WpH.pure (by rfl) (fun w_ => by go_simp; (try go_bits); rfl) ?_; simp only [Act.put, List.setIfInBounds_toArray, List.set_cons_zero, List.set_cons_succ]) | (refine WpH.wild1 (by rfl) (fun _ _ => ?_)) | (refine WpH.skip (by rfl) ?_; simp only [Act.put, List.setIfInBounds_toArray, List.set_cons_zero, List.set_cons_succ])) | go_values | go_skip | go_guarded | go_step | go_upon | go_back)
    skip
    go_ret
    exact ⟨rfl, bvia (bvia (bvia hbw18 hbc) hbd) hbk⟩
end Go.Proofs.YtogkbddniacgiaaDoor
