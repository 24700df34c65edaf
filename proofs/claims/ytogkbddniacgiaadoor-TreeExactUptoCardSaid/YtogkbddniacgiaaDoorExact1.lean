/- A tree beside its plain list: what is out of range changes neither: the walks. Conditions: both lie in memory, fewer than 601 elements; the reasons lie in memory. -/
import Derived.Test.YtogkbddniacgiaaDoorTreeNo
namespace Go.Proofs.YtogkbddniacgiaaDoor
set_option linter.unusedSimpArgs false
set_option linter.unusedVariables false
open Go Go.RowKit
variable {a : Nat → Addr}
theorem IsErr.to {w W w' : World} {S' : Nat → Prop} {ch : List Lk} {code : Nat} {v : Value} (hb : w.heap.size ≤ W.heap.size) (h : IsErr w' (Fr W S') a ch code v) : IsErr w' (Fr w S') a ch code v := h.more fun b _ h => by
  rcases h with h | h
  · exact .inl h
  · exact .inr (Nat.le_trans hb h)
theorem Sents.every {w : World} {S : Nat → Prop} (h : Sents w S a) : Sents w (fun _ => True) a := ⟨h.cell, fun _ _ _ => trivial, fun _ _ _ => trivial, h.inj, h.plain⟩
set_option maxRecDepth 100000 in
set_option maxHeartbeats 4000000 in
theorem chgInsert_out (w : World) (pb gt ck base : Nat) (T : Tr) (do_ i n : Int) (B : Option Addr) (m d : Nat) (ls : List El) (hls : Row w (fun b => b < base) B m d ls) (h : PairAt w pb gt ck T base) (hd : do_ % 8 = 0) (hl : T.all.length ≤ 600) (hi : i < 0 ∨ T.all.length < i) (hb : base ≤ w.heap.size) (hm : T.all.length + min m 60 ≤ 600) (hs : Sents w (fun b => b < base) a) :
    Calls Tryd.prog 38 #[.pointer (some ⟨pb, 0, none⟩), .agg #[.int .i64 do_, .int .i64 i, .int .i64 n, .slice B m d]] w (ChgRet pb gt ck base T (fun T' => T' = T) w) := by
  have hmx := hls.len_le
  unfold maxLen at hmx
  have hmd := hls.2.1
  have Hh := hid h
  by_cases hm60 : m ≤ 60
  · have hLR := hls
    rw [Nat.min_eq_left hm60] at hm
    rcases hi with hi0 | hi0
    · have hi : i < 0 ∨ T.all.length < i := .inl hi0
      obtain ⟨⟨hlp, hlg⟩, ⟨A, c, hp, hr⟩, p, hg, hT⟩ := h
      have hlsl : (ls).length = m := (hLR).1
      have b1 : Below w.heap.size w (w.alloc (.cells #[.int .i64 do_, .int .i64 i, .int .i64 n, .slice B m d] 76)) := balloc (Below.refl _ _)
      have hx1 := Blk.new w 76 #[.int .i64 do_, .int .i64 i, .int .i64 n, .slice B m d]
      have hp1 := hp.step b1
      have hq1 := (hLR).step b1
      have HW := hid (fun W => within_any do_ 8 (by decide) (by decide) W)
      rw [hd] at HW
      have HN := hid (fun W => no_any ({ data := #[73, 110, 115, 101, 114, 116] } : ByteArray) i (fun _ => False) W)
      have HI := hid (fun W B m d (hb : Below w.heap.size w W) => insert_no T p gt ck i B m d _ (fun b => b < base) W (hg.step hb) (hT.step hb) (hs.step hb) hi)
      have hgl := hg.lt
      have hpl := hp.lt
      clear hp hg hT hr hd hls
      go_enter Tryd.func38, Tryd.ntmps38
      repeat' (first | (with_reducible refine stop_region 1 ?_) | (with_reducible refine Keep.last ?_) | (with_reducible refine Keep.below (by assumption) ?_) | (with_reducible refine Keep.kept (by assumption) ?_) | (with_reducible refine Keep.alloc ?_) | (with_reducible refine Keep.same ?_) | ((with_reducible refine WpH.here ?_); first | (refine WpH.nil ?_; refine NoP.normal ?_) | (refine WpH.load (by rfl) (by rfl) (by go_simp; rfl) ?_; simp only [Act.put, List.setIfInBounds_toArray, List.set_cons_zero, List.set_cons_succ]) | (refine WpH.loadT (by rfl) (by rfl) (by go_simp; rfl) (by rintro _ _ ⟨⟩; exact ⟨_, _, _, _, _, _, by rfl, by assumption, by assumption⟩) ?_; simp only [Act.put, List.setIfInBounds_toArray, List.set_cons_zero, List.set_cons_succ]) | (refine WpH.pure (by rfl) (fun w_ => by go_simp; (try go_bits); rfl) ?_; simp only [Act.put, List.setIfInBounds_toArray, List.set_cons_zero, List.set_cons_succ]) | (refine WpH.wild1 (by rfl) (fun _ _ => ?_)) | (refine WpH.skip (by rfl) ?_; simp only [Act.put, List.setIfInBounds_toArray, List.set_cons_zero, List.set_cons_succ])) | go_values | go_skip | go_guarded | go_step | go_upon | go_back)
      refine Stop.go ?_
      have hs1 : (w.alloc (.cells #[.int .i64 do_, .int .i64 i, .int .i64 n, .slice B m d] 76)).heap.size = w.heap.size + 1 := box_sz _ _
      generalize w.alloc (.cells #[.int .i64 do_, .int .i64 i, .int .i64 n, .slice B m d] 76) = W1 at *
      obtain ⟨p0, p1, p2, pl⟩ := hp1.three'
      obtain ⟨x0, x1, x2, x3, -, -, -, -, xl⟩ := hx1.four
      have HL := hid (lend_any B m d (ls) _ W1 hq1 (by omega))
      repeat' (first | (with_reducible refine stop_region 10 ?_) | (go_at_call 23; go_must ((with_reducible refine Calls.mono (HW.out _) ?_); rintro _ _ ⟨rfl, rfl⟩; dsimp only)) | (go_at_call 86; go_must ((with_reducible refine Calls.mono HL.out ?_); rintro _ w2 ⟨A2, c2, rfl, ho2, ⟨g2, rfl, hg2⟩, hb2⟩; dsimp only)) | (with_reducible refine Keep.last ?_) | (with_reducible refine Keep.below (by assumption) ?_) | (with_reducible refine Keep.kept (by assumption) ?_) | (with_reducible refine Keep.alloc ?_) | (with_reducible refine Keep.same ?_) | ((with_reducible refine WpH.here ?_); first | (refine WpH.nil ?_; refine NoP.normal ?_) | (refine WpH.load (by rfl) (by rfl) (by go_simp; rfl) ?_; simp only [Act.put, List.setIfInBounds_toArray, List.set_cons_zero, List.set_cons_succ]) | (refine WpH.loadT (by rfl) (by rfl) (by go_simp; rfl) (by rintro _ _ ⟨⟩; exact ⟨_, _, _, _, _, _, by rfl, by assumption, by assumption⟩) ?_; simp only [Act.put, List.setIfInBounds_toArray, List.set_cons_zero, List.set_cons_succ]) | (refine WpH.pure (by rfl) (fun w_ => by go_simp; (try go_bits); rfl) ?_; simp only [Act.put, List.setIfInBounds_toArray, List.set_cons_zero, List.set_cons_succ]) | (refine WpH.wild1 (by rfl) (fun _ _ => ?_)) | (refine WpH.skip (by rfl) ?_; simp only [Act.put, List.setIfInBounds_toArray, List.set_cons_zero, List.set_cons_succ])) | go_values | go_skip | go_guarded | go_step | go_upon | go_back)
      refine Stop.go ?_
      clear p0 p1 p2 x0 x1 x2 x3
      have hp2 := hp1.step hb2
      have hx2 := hx1.step hb2
      have hq2 := hq1.step hb2
      have hbb2 := bvia b1 hb2
      have hz2 := hb2.size
      obtain ⟨p0, p1, p2, pl⟩ := hp2.three'
      obtain ⟨x0, x1, x2, x3, -, -, -, -, xl⟩ := hx2.four
      repeat' (first | (with_reducible refine stop_region 11 ?_) | ((with_reducible refine region_at 10 ?_); refine wp_region_order [(0, true, false), (1, true, false), (2, true, false), (3, true, false), (4, true, false), (5, true, false), (6, true, false), (7, false, false), (8, true, false)] (by kernel_rfl) (by kernel_rfl) (by kernel_rfl) rfl rfl ?_) | (go_at_call 20; go_must ((with_reducible refine Calls.mono (HI.out _ _ _ _ hbb2.drew) ?_); rintro _ w5 ⟨v5, rfl, he5, hb5⟩; dsimp only)) | (with_reducible refine Keep.last ?_) | (with_reducible refine Keep.below (by assumption) ?_) | (with_reducible refine Keep.kept (by assumption) ?_) | (with_reducible refine Keep.alloc ?_) | (with_reducible refine Keep.same ?_) | ((with_reducible refine WpH.here ?_); first | (refine WpH.nil ?_; refine NoP.normal ?_) | (refine WpH.load (by rfl) (by rfl) (by go_simp; rfl) ?_; simp only [Act.put, List.setIfInBounds_toArray, List.set_cons_zero, List.set_cons_succ]) | (refine WpH.loadT (by rfl) (by rfl) (by go_simp; rfl) (by rintro _ _ ⟨⟩; exact ⟨_, _, _, _, _, _, by rfl, by assumption, by assumption⟩) ?_; simp only [Act.put, List.setIfInBounds_toArray, List.set_cons_zero, List.set_cons_succ]) | (refine WpH.pure (by rfl) (fun w_ => by go_simp; (try go_bits); rfl) ?_; simp only [Act.put, List.setIfInBounds_toArray, List.set_cons_zero, List.set_cons_succ]) | (refine WpH.wild1 (by rfl) (fun _ _ => ?_)) | (refine WpH.skip (by rfl) ?_; simp only [Act.put, List.setIfInBounds_toArray, List.set_cons_zero, List.set_cons_succ])) | go_values | go_skip | go_guarded | go_step | go_upon | go_back)
      refine Stop.go ?_
      clear p0 p1 p2 x0 x1 x2 x3
      have hx5 := hx2.drew.step hb5
      have hp5 := hp2.drew.step hb5
      have hbb5 := bvia hbb2.drew hb5
      have ho5 := ho2.drw.step hb5
      have hq5 := hq2.drew.step hb5
      have hg2l : g2 < w2.heap.size := (ho2.block _ rfl).2
      have HV5 := hid he5
      obtain ⟨tv, xv, rfl⟩ := he5.notNil
      obtain ⟨x0, x1, x2, x3, -, -, -, -, xl⟩ := hx5.four
      obtain ⟨p0, p1, p2, pl⟩ := hp5.three'
      have HT := hid (intact_any g2 m c2 B d W1.heap.size (ls) _ w5 ho5 hq5 (by omega) (by omega))
      have hzw5 : w2.heap.size ≤ w5.heap.size := hb5.size
      have HF := hid (fun V V' v (hno : IsNo V' (Fr V (fun _ => False)) [⟨({ data := #[116, 114, 101, 101] } : ByteArray), ({ data := #[73, 110, 115, 101, 114, 116] } : ByteArray), atOf i⟩] 2 v) (he : IsErr V' (fun _ => True) a [⟨({ data := #[116, 114, 101, 101] } : ByteArray), ({ data := #[73, 110, 115, 101, 114, 116] } : ByteArray), atOf i⟩] 2 (.iface tv (.pointer (some xv)))) (hs : Sents V' (fun _ => True) a) => refused_any _ 2 _ v _ _ V' he hno hs (by simp))
      repeat' (first | (go_at_call 88; go_must ((with_reducible refine Calls.mono HT.out ?_); rintro _ w8 ⟨rfl, hB8⟩; have hx8 := hB8.blk hx5 (by omega); have he8 := HV5.out.keep (w' := w8) (hB8.same.sub fun b hb => (by rcases hb with hb | hb; (have hb' : b < base := hb; omega); (have hb' : w2.heap.size ≤ b := hb; omega))); have hbb8 : Below w.heap.size w w8 := hbb5.trans ⟨hB8.os, hB8.tape, hB8.output, hB8.size, fun b hb => hB8.block b (by omega) (by omega)⟩; obtain ⟨x0, x1, x2, x3, -, -, -, -, xl⟩ := hx8.four; dsimp only)) | (go_at_call 89; go_must ((with_reducible refine Calls.mono (HN.out _) ?_); rintro _ w9 ⟨v9, rfl, hno9, hb9⟩; dsimp only)) | (go_at_call 28; go_must ((with_reducible refine Calls.mono (HF.out w8 w9 _ hno9 ((he8.step hb9).more fun _ _ _ => trivial) (hs.step (bvia hbb8 hb9)).every) ?_); rintro _ w10 ⟨rfl, hb10⟩; dsimp only)) | (with_reducible refine Keep.last ?_) | (with_reducible refine Keep.below (by assumption) ?_) | (with_reducible refine Keep.kept (by assumption) ?_) | (with_reducible refine Keep.alloc ?_) | (with_reducible refine Keep.same ?_) | ((with_reducible refine WpH.here ?_); first | (refine WpH.nil ?_; refine NoP.normal ?_) | (refine WpH.load (by rfl) (by rfl) (by go_simp; rfl) ?_; simp only [Act.put, List.setIfInBounds_toArray, List.set_cons_zero, List.set_cons_succ]) | (refine WpH.loadT (by rfl) (by rfl) (by go_simp; rfl) (by rintro _ _ ⟨⟩; exact ⟨_, _, _, _, _, _, by rfl, by assumption, by assumption⟩) ?_; simp only [Act.put, List.setIfInBounds_toArray, List.set_cons_zero, List.set_cons_succ]) | (refine WpH.pure (by rfl) (fun w_ => by go_simp; (try go_bits); rfl) ?_; simp only [Act.put, List.setIfInBounds_toArray, List.set_cons_zero, List.set_cons_succ]) | (refine WpH.wild1 (by rfl) (fun _ _ => ?_)) | (refine WpH.skip (by rfl) ?_; simp only [Act.put, List.setIfInBounds_toArray, List.set_cons_zero, List.set_cons_succ])) | go_values | go_skip | go_guarded | go_step | go_upon | go_back)
      skip
      go_ret
      have e9 := bvia (bvia hbb8 hb9) hb10
      exact ⟨T, rfl, Hh.out.step e9, e9.mono hb, hl, id, rfl⟩
    · have hi : i < 0 ∨ T.all.length < i := .inr hi0
      have hi1 : ¬ i < 0 := by omega
      obtain ⟨⟨hlp, hlg⟩, ⟨A, c, hp, hr⟩, p, hg, hT⟩ := h
      have hlsl : (ls).length = m := (hLR).1
      have b1 : Below w.heap.size w (w.alloc (.cells #[.int .i64 do_, .int .i64 i, .int .i64 n, .slice B m d] 76)) := balloc (Below.refl _ _)
      have hx1 := Blk.new w 76 #[.int .i64 do_, .int .i64 i, .int .i64 n, .slice B m d]
      have hp1 := hp.step b1
      have hq1 := (hLR).step b1
      have HW := hid (fun W => within_any do_ 8 (by decide) (by decide) W)
      rw [hd] at HW
      have HN := hid (fun W => no_any ({ data := #[73, 110, 115, 101, 114, 116] } : ByteArray) i (fun _ => False) W)
      have HI := hid (fun W B m d (hb : Below w.heap.size w W) => insert_no T p gt ck i B m d _ (fun b => b < base) W (hg.step hb) (hT.step hb) (hs.step hb) hi)
      have hgl := hg.lt
      have hpl := hp.lt
      clear hp hg hT hr hd hls
      go_enter Tryd.func38, Tryd.ntmps38
      repeat' (first | (with_reducible refine stop_region 1 ?_) | (with_reducible refine Keep.last ?_) | (with_reducible refine Keep.below (by assumption) ?_) | (with_reducible refine Keep.kept (by assumption) ?_) | (with_reducible refine Keep.alloc ?_) | (with_reducible refine Keep.same ?_) | ((with_reducible refine WpH.here ?_); first | (refine WpH.nil ?_; refine NoP.normal ?_) | (refine WpH.load (by rfl) (by rfl) (by go_simp; rfl) ?_; simp only [Act.put, List.setIfInBounds_toArray, List.set_cons_zero, List.set_cons_succ]) | (refine WpH.loadT (by rfl) (by rfl) (by go_simp; rfl) (by rintro _ _ ⟨⟩; exact ⟨_, _, _, _, _, _, by rfl, by assumption, by assumption⟩) ?_; simp only [Act.put, List.setIfInBounds_toArray, List.set_cons_zero, List.set_cons_succ]) | (refine WpH.pure (by rfl) (fun w_ => by go_simp; (try go_bits); rfl) ?_; simp only [Act.put, List.setIfInBounds_toArray, List.set_cons_zero, List.set_cons_succ]) | (refine WpH.wild1 (by rfl) (fun _ _ => ?_)) | (refine WpH.skip (by rfl) ?_; simp only [Act.put, List.setIfInBounds_toArray, List.set_cons_zero, List.set_cons_succ])) | go_values | go_skip | go_guarded | go_step | go_upon | go_back)
      refine Stop.go ?_
      have hs1 : (w.alloc (.cells #[.int .i64 do_, .int .i64 i, .int .i64 n, .slice B m d] 76)).heap.size = w.heap.size + 1 := box_sz _ _
      generalize w.alloc (.cells #[.int .i64 do_, .int .i64 i, .int .i64 n, .slice B m d] 76) = W1 at *
      obtain ⟨p0, p1, p2, pl⟩ := hp1.three'
      obtain ⟨x0, x1, x2, x3, -, -, -, -, xl⟩ := hx1.four
      have HL := hid (lend_any B m d (ls) _ W1 hq1 (by omega))
      repeat' (first | (with_reducible refine stop_region 10 ?_) | (go_at_call 23; go_must ((with_reducible refine Calls.mono (HW.out _) ?_); rintro _ _ ⟨rfl, rfl⟩; dsimp only)) | (go_at_call 86; go_must ((with_reducible refine Calls.mono HL.out ?_); rintro _ w2 ⟨A2, c2, rfl, ho2, ⟨g2, rfl, hg2⟩, hb2⟩; dsimp only)) | (with_reducible refine Keep.last ?_) | (with_reducible refine Keep.below (by assumption) ?_) | (with_reducible refine Keep.kept (by assumption) ?_) | (with_reducible refine Keep.alloc ?_) | (with_reducible refine Keep.same ?_) | ((with_reducible refine WpH.here ?_); first | (refine WpH.nil ?_; refine NoP.normal ?_) | (refine WpH.load (by rfl) (by rfl) (by go_simp; rfl) ?_; simp only [Act.put, List.setIfInBounds_toArray, List.set_cons_zero, List.set_cons_succ]) | (refine WpH.loadT (by rfl) (by rfl) (by go_simp; rfl) (by rintro _ _ ⟨⟩; exact ⟨_, _, _, _, _, _, by rfl, by assumption, by assumption⟩) ?_; simp only [Act.put, List.setIfInBounds_toArray, List.set_cons_zero, List.set_cons_succ]) | (refine WpH.pure (by rfl) (fun w_ => by go_simp; (try go_bits); rfl) ?_; simp only [Act.put, List.setIfInBounds_toArray, List.set_cons_zero, List.set_cons_succ]) | (refine WpH.wild1 (by rfl) (fun _ _ => ?_)) | (refine WpH.skip (by rfl) ?_; simp only [Act.put, List.setIfInBounds_toArray, List.set_cons_zero, List.set_cons_succ])) | go_values | go_skip | go_guarded | go_step | go_upon | go_back)
      refine Stop.go ?_
      clear p0 p1 p2 x0 x1 x2 x3
      have hp2 := hp1.step hb2
      have hx2 := hx1.step hb2
      have hq2 := hq1.step hb2
      have hbb2 := bvia b1 hb2
      have hz2 := hb2.size
      obtain ⟨p0, p1, p2, pl⟩ := hp2.three'
      obtain ⟨x0, x1, x2, x3, -, -, -, -, xl⟩ := hx2.four
      repeat' (first | (with_reducible refine stop_region 11 ?_) | ((with_reducible refine region_at 10 ?_); refine wp_region_order [(0, true, false), (1, true, false), (2, true, false), (3, true, false), (4, true, false), (5, true, false), (6, true, false), (7, false, false), (8, true, false)] (by kernel_rfl) (by kernel_rfl) (by kernel_rfl) rfl rfl ?_) | (go_at_call 20; go_must ((with_reducible refine Calls.mono (HI.out _ _ _ _ hbb2.drew) ?_); rintro _ w5 ⟨v5, rfl, he5, hb5⟩; dsimp only)) | (with_reducible refine Keep.last ?_) | (with_reducible refine Keep.below (by assumption) ?_) | (with_reducible refine Keep.kept (by assumption) ?_) | (with_reducible refine Keep.alloc ?_) | (with_reducible refine Keep.same ?_) | ((with_reducible refine WpH.here ?_); first | (refine WpH.nil ?_; refine NoP.normal ?_) | (refine WpH.load (by rfl) (by rfl) (by go_simp; rfl) ?_; simp only [Act.put, List.setIfInBounds_toArray, List.set_cons_zero, List.set_cons_succ]) | (refine WpH.loadT (by rfl) (by rfl) (by go_simp; rfl) (by rintro _ _ ⟨⟩; exact ⟨_, _, _, _, _, _, by rfl, by assumption, by assumption⟩) ?_; simp only [Act.put, List.setIfInBounds_toArray, List.set_cons_zero, List.set_cons_succ]) | (refine WpH.pure (by rfl) (fun w_ => by go_simp; (try go_bits); rfl) ?_; simp only [Act.put, List.setIfInBounds_toArray, List.set_cons_zero, List.set_cons_succ]) | (refine WpH.wild1 (by rfl) (fun _ _ => ?_)) | (refine WpH.skip (by rfl) ?_; simp only [Act.put, List.setIfInBounds_toArray, List.set_cons_zero, List.set_cons_succ])) | go_values | go_skip | go_guarded | go_step | go_upon | go_back)
      refine Stop.go ?_
      clear p0 p1 p2 x0 x1 x2 x3
      have hx5 := hx2.drew.step hb5
      have hp5 := hp2.drew.step hb5
      have hbb5 := bvia hbb2.drew hb5
      have ho5 := ho2.drw.step hb5
      have hq5 := hq2.drew.step hb5
      have hg2l : g2 < w2.heap.size := (ho2.block _ rfl).2
      have HV5 := hid he5
      obtain ⟨tv, xv, rfl⟩ := he5.notNil
      obtain ⟨x0, x1, x2, x3, -, -, -, -, xl⟩ := hx5.four
      obtain ⟨p0, p1, p2, pl⟩ := hp5.three'
      have HT := hid (intact_any g2 m c2 B d W1.heap.size (ls) _ w5 ho5 hq5 (by omega) (by omega))
      have hzw5 : w2.heap.size ≤ w5.heap.size := hb5.size
      have HF := hid (fun V V' v (hno : IsNo V' (Fr V (fun _ => False)) [⟨({ data := #[116, 114, 101, 101] } : ByteArray), ({ data := #[73, 110, 115, 101, 114, 116] } : ByteArray), atOf i⟩] 2 v) (he : IsErr V' (fun _ => True) a [⟨({ data := #[116, 114, 101, 101] } : ByteArray), ({ data := #[73, 110, 115, 101, 114, 116] } : ByteArray), atOf i⟩] 2 (.iface tv (.pointer (some xv)))) (hs : Sents V' (fun _ => True) a) => refused_any _ 2 _ v _ _ V' he hno hs (by simp))
      repeat' (first | (go_at_call 88; go_must ((with_reducible refine Calls.mono HT.out ?_); rintro _ w8 ⟨rfl, hB8⟩; have hx8 := hB8.blk hx5 (by omega); have he8 := HV5.out.keep (w' := w8) (hB8.same.sub fun b hb => (by rcases hb with hb | hb; (have hb' : b < base := hb; omega); (have hb' : w2.heap.size ≤ b := hb; omega))); have hbb8 : Below w.heap.size w w8 := hbb5.trans ⟨hB8.os, hB8.tape, hB8.output, hB8.size, fun b hb => hB8.block b (by omega) (by omega)⟩; obtain ⟨x0, x1, x2, x3, -, -, -, -, xl⟩ := hx8.four; dsimp only)) | (go_at_call 89; go_must ((with_reducible refine Calls.mono (HN.out _) ?_); rintro _ w9 ⟨v9, rfl, hno9, hb9⟩; dsimp only)) | (go_at_call 28; go_must ((with_reducible refine Calls.mono (HF.out w8 w9 _ hno9 ((he8.step hb9).more fun _ _ _ => trivial) (hs.step (bvia hbb8 hb9)).every) ?_); rintro _ w10 ⟨rfl, hb10⟩; dsimp only)) | (with_reducible refine Keep.last ?_) | (with_reducible refine Keep.below (by assumption) ?_) | (with_reducible refine Keep.kept (by assumption) ?_) | (with_reducible refine Keep.alloc ?_) | (with_reducible refine Keep.same ?_) | ((with_reducible refine WpH.here ?_); first | (refine WpH.nil ?_; refine NoP.normal ?_) | (refine WpH.load (by rfl) (by rfl) (by go_simp; rfl) ?_; simp only [Act.put, List.setIfInBounds_toArray, List.set_cons_zero, List.set_cons_succ]) | (refine WpH.loadT (by rfl) (by rfl) (by go_simp; rfl) (by rintro _ _ ⟨⟩; exact ⟨_, _, _, _, _, _, by rfl, by assumption, by assumption⟩) ?_; simp only [Act.put, List.setIfInBounds_toArray, List.set_cons_zero, List.set_cons_succ]) | (refine WpH.pure (by rfl) (fun w_ => by go_simp; (try go_bits); rfl) ?_; simp only [Act.put, List.setIfInBounds_toArray, List.set_cons_zero, List.set_cons_succ]) | (refine WpH.wild1 (by rfl) (fun _ _ => ?_)) | (refine WpH.skip (by rfl) ?_; simp only [Act.put, List.setIfInBounds_toArray, List.set_cons_zero, List.set_cons_succ])) | go_values | go_skip | go_guarded | go_step | go_upon | go_back)
      skip
      go_ret
      have e9 := bvia (bvia hbb8 hb9) hb10
      exact ⟨T, rfl, Hh.out.step e9, e9.mono hb, hl, id, rfl⟩
  · have hLR := hls.take_ (show 60 ≤ m by omega)
    rw [Nat.min_eq_right (by omega)] at hm
    have hd60 : 60 ≤ d := by omega
    rcases hi with hi0 | hi0
    · have hi : i < 0 ∨ T.all.length < i := .inl hi0
      obtain ⟨⟨hlp, hlg⟩, ⟨A, c, hp, hr⟩, p, hg, hT⟩ := h
      have hlsl : ((ls.take 60)).length = 60 := (hLR).1
      have b1 : Below w.heap.size w (w.alloc (.cells #[.int .i64 do_, .int .i64 i, .int .i64 n, .slice B m d] 76)) := balloc (Below.refl _ _)
      have hx1 := Blk.new w 76 #[.int .i64 do_, .int .i64 i, .int .i64 n, .slice B m d]
      have hp1 := hp.step b1
      have hq1 := (hLR).step b1
      have HW := hid (fun W => within_any do_ 8 (by decide) (by decide) W)
      rw [hd] at HW
      have HN := hid (fun W => no_any ({ data := #[73, 110, 115, 101, 114, 116] } : ByteArray) i (fun _ => False) W)
      have HI := hid (fun W B m d (hb : Below w.heap.size w W) => insert_no T p gt ck i B m d _ (fun b => b < base) W (hg.step hb) (hT.step hb) (hs.step hb) hi)
      have hgl := hg.lt
      have hpl := hp.lt
      clear hp hg hT hr hd hls
      go_enter Tryd.func38, Tryd.ntmps38
      repeat' (first | (with_reducible refine stop_region 1 ?_) | (with_reducible refine Keep.last ?_) | (with_reducible refine Keep.below (by assumption) ?_) | (with_reducible refine Keep.kept (by assumption) ?_) | (with_reducible refine Keep.alloc ?_) | (with_reducible refine Keep.same ?_) | ((with_reducible refine WpH.here ?_); first | (refine WpH.nil ?_; refine NoP.normal ?_) | (refine WpH.load (by rfl) (by rfl) (by go_simp; rfl) ?_; simp only [Act.put, List.setIfInBounds_toArray, List.set_cons_zero, List.set_cons_succ]) | (refine WpH.loadT (by rfl) (by rfl) (by go_simp; rfl) (by rintro _ _ ⟨⟩; exact ⟨_, _, _, _, _, _, by rfl, by assumption, by assumption⟩) ?_; simp only [Act.put, List.setIfInBounds_toArray, List.set_cons_zero, List.set_cons_succ]) | (refine WpH.pure (by rfl) (fun w_ => by go_simp; (try go_bits); rfl) ?_; simp only [Act.put, List.setIfInBounds_toArray, List.set_cons_zero, List.set_cons_succ]) | (refine WpH.wild1 (by rfl) (fun _ _ => ?_)) | (refine WpH.skip (by rfl) ?_; simp only [Act.put, List.setIfInBounds_toArray, List.set_cons_zero, List.set_cons_succ])) | go_values | go_skip | go_guarded | go_step | go_upon | go_back)
      refine Stop.go ?_
      have hs1 : (w.alloc (.cells #[.int .i64 do_, .int .i64 i, .int .i64 n, .slice B m d] 76)).heap.size = w.heap.size + 1 := box_sz _ _
      generalize w.alloc (.cells #[.int .i64 do_, .int .i64 i, .int .i64 n, .slice B m d] 76) = W1 at *
      obtain ⟨p0, p1, p2, pl⟩ := hp1.three'
      obtain ⟨x0, x1, x2, x3, -, -, -, -, xl⟩ := hx1.four
      have HL := hid (lend_any B 60 d ((ls.take 60)) _ W1 hq1 (by omega))
      repeat' (first | (with_reducible refine stop_region 10 ?_) | (go_at_call 23; go_must ((with_reducible refine Calls.mono (HW.out _) ?_); rintro _ _ ⟨rfl, rfl⟩; dsimp only)) | (go_at_call 86; go_must ((with_reducible refine Calls.mono HL.out ?_); rintro _ w2 ⟨A2, c2, rfl, ho2, ⟨g2, rfl, hg2⟩, hb2⟩; dsimp only)) | (with_reducible refine Keep.last ?_) | (with_reducible refine Keep.below (by assumption) ?_) | (with_reducible refine Keep.kept (by assumption) ?_) | (with_reducible refine Keep.alloc ?_) | (with_reducible refine Keep.same ?_) | ((with_reducible refine WpH.here ?_); first | (refine WpH.nil ?_; refine NoP.normal ?_) | (refine WpH.load (by rfl) (by rfl) (by go_simp; rfl) ?_; simp only [Act.put, List.setIfInBounds_toArray, List.set_cons_zero, List.set_cons_succ]) | (refine WpH.loadT (by rfl) (by rfl) (by go_simp; rfl) (by rintro _ _ ⟨⟩; exact ⟨_, _, _, _, _, _, by rfl, by assumption, by assumption⟩) ?_; simp only [Act.put, List.setIfInBounds_toArray, List.set_cons_zero, List.set_cons_succ]) | (refine WpH.pure (by rfl) (fun w_ => by go_simp; (try go_bits); rfl) ?_; simp only [Act.put, List.setIfInBounds_toArray, List.set_cons_zero, List.set_cons_succ]) | (refine WpH.wild1 (by rfl) (fun _ _ => ?_)) | (refine WpH.skip (by rfl) ?_; simp only [Act.put, List.setIfInBounds_toArray, List.set_cons_zero, List.set_cons_succ])) | go_values | go_skip | go_guarded | go_step | go_upon | go_back)
      refine Stop.go ?_
      clear p0 p1 p2 x0 x1 x2 x3
      have hp2 := hp1.step hb2
      have hx2 := hx1.step hb2
      have hq2 := hq1.step hb2
      have hbb2 := bvia b1 hb2
      have hz2 := hb2.size
      obtain ⟨p0, p1, p2, pl⟩ := hp2.three'
      obtain ⟨x0, x1, x2, x3, -, -, -, -, xl⟩ := hx2.four
      repeat' (first | (with_reducible refine stop_region 11 ?_) | ((with_reducible refine region_at 10 ?_); refine wp_region_order [(0, true, false), (1, true, false), (2, true, false), (3, true, false), (4, true, false), (5, true, false), (6, true, false), (7, false, false), (8, true, false)] (by kernel_rfl) (by kernel_rfl) (by kernel_rfl) rfl rfl ?_) | (go_at_call 20; go_must ((with_reducible refine Calls.mono (HI.out _ _ _ _ hbb2.drew) ?_); rintro _ w5 ⟨v5, rfl, he5, hb5⟩; dsimp only)) | (with_reducible refine Keep.last ?_) | (with_reducible refine Keep.below (by assumption) ?_) | (with_reducible refine Keep.kept (by assumption) ?_) | (with_reducible refine Keep.alloc ?_) | (with_reducible refine Keep.same ?_) | ((with_reducible refine WpH.here ?_); first | (refine WpH.nil ?_; refine NoP.normal ?_) | (refine WpH.load (by rfl) (by rfl) (by go_simp; rfl) ?_; simp only [Act.put, List.setIfInBounds_toArray, List.set_cons_zero, List.set_cons_succ]) | (refine WpH.loadT (by rfl) (by rfl) (by go_simp; rfl) (by rintro _ _ ⟨⟩; exact ⟨_, _, _, _, _, _, by rfl, by assumption, by assumption⟩) ?_; simp only [Act.put, List.setIfInBounds_toArray, List.set_cons_zero, List.set_cons_succ]) | (refine WpH.pure (by rfl) (fun w_ => by go_simp; (try go_bits); rfl) ?_; simp only [Act.put, List.setIfInBounds_toArray, List.set_cons_zero, List.set_cons_succ]) | (refine WpH.wild1 (by rfl) (fun _ _ => ?_)) | (refine WpH.skip (by rfl) ?_; simp only [Act.put, List.setIfInBounds_toArray, List.set_cons_zero, List.set_cons_succ])) | go_values | go_skip | go_guarded | go_step | go_upon | go_back)
      refine Stop.go ?_
      clear p0 p1 p2 x0 x1 x2 x3
      have hx5 := hx2.drew.step hb5
      have hp5 := hp2.drew.step hb5
      have hbb5 := bvia hbb2.drew hb5
      have ho5 := ho2.drw.step hb5
      have hq5 := hq2.drew.step hb5
      have hg2l : g2 < w2.heap.size := (ho2.block _ rfl).2
      have HV5 := hid he5
      obtain ⟨tv, xv, rfl⟩ := he5.notNil
      obtain ⟨x0, x1, x2, x3, -, -, -, -, xl⟩ := hx5.four
      obtain ⟨p0, p1, p2, pl⟩ := hp5.three'
      have HT := hid (intact_any g2 60 c2 B d W1.heap.size ((ls.take 60)) _ w5 ho5 hq5 (by omega) (by omega))
      have hzw5 : w2.heap.size ≤ w5.heap.size := hb5.size
      have HF := hid (fun V V' v (hno : IsNo V' (Fr V (fun _ => False)) [⟨({ data := #[116, 114, 101, 101] } : ByteArray), ({ data := #[73, 110, 115, 101, 114, 116] } : ByteArray), atOf i⟩] 2 v) (he : IsErr V' (fun _ => True) a [⟨({ data := #[116, 114, 101, 101] } : ByteArray), ({ data := #[73, 110, 115, 101, 114, 116] } : ByteArray), atOf i⟩] 2 (.iface tv (.pointer (some xv)))) (hs : Sents V' (fun _ => True) a) => refused_any _ 2 _ v _ _ V' he hno hs (by simp))
      repeat' (first | (go_at_call 88; go_must ((with_reducible refine Calls.mono HT.out ?_); rintro _ w8 ⟨rfl, hB8⟩; have hx8 := hB8.blk hx5 (by omega); have he8 := HV5.out.keep (w' := w8) (hB8.same.sub fun b hb => (by rcases hb with hb | hb; (have hb' : b < base := hb; omega); (have hb' : w2.heap.size ≤ b := hb; omega))); have hbb8 : Below w.heap.size w w8 := hbb5.trans ⟨hB8.os, hB8.tape, hB8.output, hB8.size, fun b hb => hB8.block b (by omega) (by omega)⟩; obtain ⟨x0, x1, x2, x3, -, -, -, -, xl⟩ := hx8.four; dsimp only)) | (go_at_call 89; go_must ((with_reducible refine Calls.mono (HN.out _) ?_); rintro _ w9 ⟨v9, rfl, hno9, hb9⟩; dsimp only)) | (go_at_call 28; go_must ((with_reducible refine Calls.mono (HF.out w8 w9 _ hno9 ((he8.step hb9).more fun _ _ _ => trivial) (hs.step (bvia hbb8 hb9)).every) ?_); rintro _ w10 ⟨rfl, hb10⟩; dsimp only)) | (with_reducible refine Keep.last ?_) | (with_reducible refine Keep.below (by assumption) ?_) | (with_reducible refine Keep.kept (by assumption) ?_) | (with_reducible refine Keep.alloc ?_) | (with_reducible refine Keep.same ?_) | ((with_reducible refine WpH.here ?_); first | (refine WpH.nil ?_; refine NoP.normal ?_) | (refine WpH.load (by rfl) (by rfl) (by go_simp; rfl) ?_; simp only [Act.put, List.setIfInBounds_toArray, List.set_cons_zero, List.set_cons_succ]) | (refine WpH.loadT (by rfl) (by rfl) (by go_simp; rfl) (by rintro _ _ ⟨⟩; exact ⟨_, _, _, _, _, _, by rfl, by assumption, by assumption⟩) ?_; simp only [Act.put, List.setIfInBounds_toArray, List.set_cons_zero, List.set_cons_succ]) | (refine WpH.pure (by rfl) (fun w_ => by go_simp; (try go_bits); rfl) ?_; simp only [Act.put, List.setIfInBounds_toArray, List.set_cons_zero, List.set_cons_succ]) | (refine WpH.wild1 (by rfl) (fun _ _ => ?_)) | (refine WpH.skip (by rfl) ?_; simp only [Act.put, List.setIfInBounds_toArray, List.set_cons_zero, List.set_cons_succ])) | go_values | go_skip | go_guarded | go_step | go_upon | go_back)
      skip
      go_ret
      have e9 := bvia (bvia hbb8 hb9) hb10
      exact ⟨T, rfl, Hh.out.step e9, e9.mono hb, hl, id, rfl⟩
    · have hi : i < 0 ∨ T.all.length < i := .inr hi0
      have hi1 : ¬ i < 0 := by omega
      obtain ⟨⟨hlp, hlg⟩, ⟨A, c, hp, hr⟩, p, hg, hT⟩ := h
      have hlsl : ((ls.take 60)).length = 60 := (hLR).1
      have b1 : Below w.heap.size w (w.alloc (.cells #[.int .i64 do_, .int .i64 i, .int .i64 n, .slice B m d] 76)) := balloc (Below.refl _ _)
      have hx1 := Blk.new w 76 #[.int .i64 do_, .int .i64 i, .int .i64 n, .slice B m d]
      have hp1 := hp.step b1
      have hq1 := (hLR).step b1
      have HW := hid (fun W => within_any do_ 8 (by decide) (by decide) W)
      rw [hd] at HW
      have HN := hid (fun W => no_any ({ data := #[73, 110, 115, 101, 114, 116] } : ByteArray) i (fun _ => False) W)
      have HI := hid (fun W B m d (hb : Below w.heap.size w W) => insert_no T p gt ck i B m d _ (fun b => b < base) W (hg.step hb) (hT.step hb) (hs.step hb) hi)
      have hgl := hg.lt
      have hpl := hp.lt
      clear hp hg hT hr hd hls
      go_enter Tryd.func38, Tryd.ntmps38
      repeat' (first | (with_reducible refine stop_region 1 ?_) | (with_reducible refine Keep.last ?_) | (with_reducible refine Keep.below (by assumption) ?_) | (with_reducible refine Keep.kept (by assumption) ?_) | (with_reducible refine Keep.alloc ?_) | (with_reducible refine Keep.same ?_) | ((with_reducible refine WpH.here ?_); first | (refine WpH.nil ?_; refine NoP.normal ?_) | (refine WpH.load (by rfl) (by rfl) (by go_simp; rfl) ?_; simp only [Act.put, List.setIfInBounds_toArray, List.set_cons_zero, List.set_cons_succ]) | (refine WpH.loadT (by rfl) (by rfl) (by go_simp; rfl) (by rintro _ _ ⟨⟩; exact ⟨_, _, _, _, _, _, by rfl, by assumption, by assumption⟩) ?_; simp only [Act.put, List.setIfInBounds_toArray, List.set_cons_zero, List.set_cons_succ]) | (refine WpH.pure (by rfl) (fun w_ => by go_simp; (try go_bits); rfl) ?_; simp only [Act.put, List.setIfInBounds_toArray, List.set_cons_zero, List.set_cons_succ]) | (refine WpH.wild1 (by rfl) (fun _ _ => ?_)) | (refine WpH.skip (by rfl) ?_; simp only [Act.put, List.setIfInBounds_toArray, List.set_cons_zero, List.set_cons_succ])) | go_values | go_skip | go_guarded | go_step | go_upon | go_back)
      refine Stop.go ?_
      have hs1 : (w.alloc (.cells #[.int .i64 do_, .int .i64 i, .int .i64 n, .slice B m d] 76)).heap.size = w.heap.size + 1 := box_sz _ _
      generalize w.alloc (.cells #[.int .i64 do_, .int .i64 i, .int .i64 n, .slice B m d] 76) = W1 at *
      obtain ⟨p0, p1, p2, pl⟩ := hp1.three'
      obtain ⟨x0, x1, x2, x3, -, -, -, -, xl⟩ := hx1.four
      have HL := hid (lend_any B 60 d ((ls.take 60)) _ W1 hq1 (by omega))
      repeat' (first | (with_reducible refine stop_region 10 ?_) | (go_at_call 23; go_must ((with_reducible refine Calls.mono (HW.out _) ?_); rintro _ _ ⟨rfl, rfl⟩; dsimp only)) | (go_at_call 86; go_must ((with_reducible refine Calls.mono HL.out ?_); rintro _ w2 ⟨A2, c2, rfl, ho2, ⟨g2, rfl, hg2⟩, hb2⟩; dsimp only)) | (with_reducible refine Keep.last ?_) | (with_reducible refine Keep.below (by assumption) ?_) | (with_reducible refine Keep.kept (by assumption) ?_) | (with_reducible refine Keep.alloc ?_) | (with_reducible refine Keep.same ?_) | ((with_reducible refine WpH.here ?_); first | (refine WpH.nil ?_; refine NoP.normal ?_) | (refine WpH.load (by rfl) (by rfl) (by go_simp; rfl) ?_; simp only [Act.put, List.setIfInBounds_toArray, List.set_cons_zero, List.set_cons_succ]) | (refine WpH.loadT (by rfl) (by rfl) (by go_simp; rfl) (by rintro _ _ ⟨⟩; exact ⟨_, _, _, _, _, _, by rfl, by assumption, by assumption⟩) ?_; simp only [Act.put, List.setIfInBounds_toArray, List.set_cons_zero, List.set_cons_succ]) | (refine WpH.pure (by rfl) (fun w_ => by go_simp; (try go_bits); rfl) ?_; simp only [Act.put, List.setIfInBounds_toArray, List.set_cons_zero, List.set_cons_succ]) | (refine WpH.wild1 (by rfl) (fun _ _ => ?_)) | (refine WpH.skip (by rfl) ?_; simp only [Act.put, List.setIfInBounds_toArray, List.set_cons_zero, List.set_cons_succ])) | go_values | go_skip | go_guarded | go_step | go_upon | go_back)
      refine Stop.go ?_
      clear p0 p1 p2 x0 x1 x2 x3
      have hp2 := hp1.step hb2
      have hx2 := hx1.step hb2
      have hq2 := hq1.step hb2
      have hbb2 := bvia b1 hb2
      have hz2 := hb2.size
      obtain ⟨p0, p1, p2, pl⟩ := hp2.three'
      obtain ⟨x0, x1, x2, x3, -, -, -, -, xl⟩ := hx2.four
      repeat' (first | (with_reducible refine stop_region 11 ?_) | ((with_reducible refine region_at 10 ?_); refine wp_region_order [(0, true, false), (1, true, false), (2, true, false), (3, true, false), (4, true, false), (5, true, false), (6, true, false), (7, false, false), (8, true, false)] (by kernel_rfl) (by kernel_rfl) (by kernel_rfl) rfl rfl ?_) | (go_at_call 20; go_must ((with_reducible refine Calls.mono (HI.out _ _ _ _ hbb2.drew) ?_); rintro _ w5 ⟨v5, rfl, he5, hb5⟩; dsimp only)) | (with_reducible refine Keep.last ?_) | (with_reducible refine Keep.below (by assumption) ?_) | (with_reducible refine Keep.kept (by assumption) ?_) | (with_reducible refine Keep.alloc ?_) | (with_reducible refine Keep.same ?_) | ((with_reducible refine WpH.here ?_); first | (refine WpH.nil ?_; refine NoP.normal ?_) | (refine WpH.load (by rfl) (by rfl) (by go_simp; rfl) ?_; simp only [Act.put, List.setIfInBounds_toArray, List.set_cons_zero, List.set_cons_succ]) | (refine WpH.loadT (by rfl) (by rfl) (by go_simp; rfl) (by rintro _ _ ⟨⟩; exact ⟨_, _, _, _, _, _, by rfl, by assumption, by assumption⟩) ?_; simp only [Act.put, List.setIfInBounds_toArray, List.set_cons_zero, List.set_cons_succ]) | (refine WpH.pure (by rfl) (fun w_ => by go_simp; (try go_bits); rfl) ?_; simp only [Act.put, List.setIfInBounds_toArray, List.set_cons_zero, List.set_cons_succ]) | (refine WpH.wild1 (by rfl) (fun _ _ => ?_)) | (refine WpH.skip (by rfl) ?_; simp only [Act.put, List.setIfInBounds_toArray, List.set_cons_zero, List.set_cons_succ])) | go_values | go_skip | go_guarded | go_step | go_upon | go_back)
      refine Stop.go ?_
      clear p0 p1 p2 x0 x1 x2 x3
      have hx5 := hx2.drew.step hb5
      have hp5 := hp2.drew.step hb5
      have hbb5 := bvia hbb2.drew hb5
      have ho5 := ho2.drw.step hb5
      have hq5 := hq2.drew.step hb5
      have hg2l : g2 < w2.heap.size := (ho2.block _ rfl).2
      have HV5 := hid he5
      obtain ⟨tv, xv, rfl⟩ := he5.notNil
      obtain ⟨x0, x1, x2, x3, -, -, -, -, xl⟩ := hx5.four
      obtain ⟨p0, p1, p2, pl⟩ := hp5.three'
      have HT := hid (intact_any g2 60 c2 B d W1.heap.size ((ls.take 60)) _ w5 ho5 hq5 (by omega) (by omega))
      have hzw5 : w2.heap.size ≤ w5.heap.size := hb5.size
      have HF := hid (fun V V' v (hno : IsNo V' (Fr V (fun _ => False)) [⟨({ data := #[116, 114, 101, 101] } : ByteArray), ({ data := #[73, 110, 115, 101, 114, 116] } : ByteArray), atOf i⟩] 2 v) (he : IsErr V' (fun _ => True) a [⟨({ data := #[116, 114, 101, 101] } : ByteArray), ({ data := #[73, 110, 115, 101, 114, 116] } : ByteArray), atOf i⟩] 2 (.iface tv (.pointer (some xv)))) (hs : Sents V' (fun _ => True) a) => refused_any _ 2 _ v _ _ V' he hno hs (by simp))
      repeat' (first | (go_at_call 88; go_must ((with_reducible refine Calls.mono HT.out ?_); rintro _ w8 ⟨rfl, hB8⟩; have hx8 := hB8.blk hx5 (by omega); have he8 := HV5.out.keep (w' := w8) (hB8.same.sub fun b hb => (by rcases hb with hb | hb; (have hb' : b < base := hb; omega); (have hb' : w2.heap.size ≤ b := hb; omega))); have hbb8 : Below w.heap.size w w8 := hbb5.trans ⟨hB8.os, hB8.tape, hB8.output, hB8.size, fun b hb => hB8.block b (by omega) (by omega)⟩; obtain ⟨x0, x1, x2, x3, -, -, -, -, xl⟩ := hx8.four; dsimp only)) | (go_at_call 89; go_must ((with_reducible refine Calls.mono (HN.out _) ?_); rintro _ w9 ⟨v9, rfl, hno9, hb9⟩; dsimp only)) | (go_at_call 28; go_must ((with_reducible refine Calls.mono (HF.out w8 w9 _ hno9 ((he8.step hb9).more fun _ _ _ => trivial) (hs.step (bvia hbb8 hb9)).every) ?_); rintro _ w10 ⟨rfl, hb10⟩; dsimp only)) | (with_reducible refine Keep.last ?_) | (with_reducible refine Keep.below (by assumption) ?_) | (with_reducible refine Keep.kept (by assumption) ?_) | (with_reducible refine Keep.alloc ?_) | (with_reducible refine Keep.same ?_) | ((with_reducible refine WpH.here ?_); first | (refine WpH.nil ?_; refine NoP.normal ?_) | (refine WpH.load (by rfl) (by rfl) (by go_simp; rfl) ?_; simp only [Act.put, List.setIfInBounds_toArray, List.set_cons_zero, List.set_cons_succ]) | (refine WpH.loadT (by rfl) (by rfl) (by go_simp; rfl) (by rintro _ _ ⟨⟩; exact ⟨_, _, _, _, _, _, by rfl, by assumption, by assumption⟩) ?_; simp only [Act.put, List.setIfInBounds_toArray, List.set_cons_zero, List.set_cons_succ]) | (refine WpH.pure (by rfl) (fun w_ => by go_simp; (try go_bits); rfl) ?_; simp only [Act.put, List.setIfInBounds_toArray, List.set_cons_zero, List.set_cons_succ]) | (refine WpH.wild1 (by rfl) (fun _ _ => ?_)) | (refine WpH.skip (by rfl) ?_; simp only [Act.put, List.setIfInBounds_toArray, List.set_cons_zero, List.set_cons_succ])) | go_values | go_skip | go_guarded | go_step | go_upon | go_back)
      skip
      go_ret
      have e9 := bvia (bvia hbb8 hb9) hb10
      exact ⟨T, rfl, Hh.out.step e9, e9.mono hb, hl, id, rfl⟩
set_option maxRecDepth 100000 in
set_option maxHeartbeats 4000000 in
theorem chgRemove_out (w : World) (pb gt ck base : Nat) (T : Tr) (do_ i n : Int) (L : Value) (h : PairAt w pb gt ck T base) (hd : do_ % 8 = 1) (hl : T.all.length ≤ 600) (hi : i < 0 ∨ T.all.length < i ∨ n < 0 ∨ (T.all.length : Int) - i < n) (hb : base ≤ w.heap.size) (hs : Sents w (fun b => b < base) a) :
    Calls Tryd.prog 38 #[.pointer (some ⟨pb, 0, none⟩), .agg #[.int .i64 do_, .int .i64 i, .int .i64 n, L]] w (ChgRet pb gt ck base T (fun T' => T' = T) w) := by
  have Hh := hid h
  by_cases h1 : i < 0
  · skip
    obtain ⟨⟨hlp, hlg⟩, ⟨A, c, hp, hr⟩, p, hg, hT⟩ := h
    have b1 : Below w.heap.size w (w.alloc (.cells #[.int .i64 do_, .int .i64 i, .int .i64 n, L] 76)) := balloc (Below.refl _ _)
    have hx1 := Blk.new w 76 #[.int .i64 do_, .int .i64 i, .int .i64 n, L]
    have hp1 := hp.step b1
    have HW := hid (fun W => within_any do_ 8 (by decide) (by decide) W)
    rw [hd] at HW
    have HN := hid (fun W => no_any ({ data := #[82, 101, 109, 111, 118, 101] } : ByteArray) i (fun _ => False) W)
    have HR := hid (fun W (hb : Below w.heap.size w W) => remove_no T p gt ck i n _ (fun b => b < base) W (hg.step hb) (hT.step hb) (hs.step hb) hi (by omega))
    have hgl := hg.lt
    have hpl := hp.lt
    have hHi := hid hi
    clear hp hg hT hr hd hi
    go_enter Tryd.func38, Tryd.ntmps38
    repeat' (first | (with_reducible refine stop_region 1 ?_) | (with_reducible refine Keep.last ?_) | (with_reducible refine Keep.below (by assumption) ?_) | (with_reducible refine Keep.kept (by assumption) ?_) | (with_reducible refine Keep.alloc ?_) | (with_reducible refine Keep.same ?_) | ((with_reducible refine WpH.here ?_); first | (refine WpH.nil ?_; refine NoP.normal ?_) | (refine WpH.load (by rfl) (by rfl) (by go_simp; rfl) ?_; simp only [Act.put, List.setIfInBounds_toArray, List.set_cons_zero, List.set_cons_succ]) | (refine WpH.loadT (by rfl) (by rfl) (by go_simp; rfl) (by rintro _ _ ⟨⟩; exact ⟨_, _, _, _, _, _, by rfl, by assumption, by assumption⟩) ?_; simp only [Act.put, List.setIfInBounds_toArray, List.set_cons_zero, List.set_cons_succ]) | (refine WpH.pure (by rfl) (fun w_ => by go_simp; (try go_bits); rfl) ?_; simp only [Act.put, List.setIfInBounds_toArray, List.set_cons_zero, List.set_cons_succ]) | (refine WpH.wild1 (by rfl) (fun _ _ => ?_)) | (refine WpH.skip (by rfl) ?_; simp only [Act.put, List.setIfInBounds_toArray, List.set_cons_zero, List.set_cons_succ])) | go_values | go_skip | go_guarded | go_step | go_upon | go_back)
    refine Stop.go ?_
    generalize w.alloc (.cells #[.int .i64 do_, .int .i64 i, .int .i64 n, L] 76) = W1 at *
    obtain ⟨p0, p1, p2, pl⟩ := hp1.three'
    obtain ⟨x0, x1, x2, x3, -, -, -, -, xl⟩ := hx1.four
    repeat' (first | (with_reducible refine stop_region 17 ?_) | (go_at_call 23; go_must ((with_reducible refine Calls.mono (HW.out _) ?_); rintro _ _ ⟨rfl, rfl⟩; dsimp only)) | ((with_reducible refine region_at 16 ?_); refine wp_region_order [(0, true, false), (1, true, false), (2, true, false), (3, true, false), (4, true, false), (5, true, false), (6, true, false), (7, true, false), (8, false, false), (9, true, false)] (by kernel_rfl) (by kernel_rfl) (by kernel_rfl) rfl rfl ?_) | (go_at_call 24; go_must ((with_reducible refine Calls.mono (HR.out _ b1.drew) ?_); rintro _ w5 ⟨v5, rfl, he5, hb5⟩; dsimp only)) | (with_reducible refine Keep.last ?_) | (with_reducible refine Keep.below (by assumption) ?_) | (with_reducible refine Keep.kept (by assumption) ?_) | (with_reducible refine Keep.alloc ?_) | (with_reducible refine Keep.same ?_) | ((with_reducible refine WpH.here ?_); first | (refine WpH.nil ?_; refine NoP.normal ?_) | (refine WpH.load (by rfl) (by rfl) (by go_simp; rfl) ?_; simp only [Act.put, List.setIfInBounds_toArray, List.set_cons_zero, List.set_cons_succ]) | (refine WpH.loadT (by rfl) (by rfl) (by go_simp; rfl) (by rintro _ _ ⟨⟩; exact ⟨_, _, _, _, _, _, by rfl, by assumption, by assumption⟩) ?_; simp only [Act.put, List.setIfInBounds_toArray, List.set_cons_zero, List.set_cons_succ]) | (refine WpH.pure (by rfl) (fun w_ => by go_simp; (try go_bits); rfl) ?_; simp only [Act.put, List.setIfInBounds_toArray, List.set_cons_zero, List.set_cons_succ]) | (refine WpH.wild1 (by rfl) (fun _ _ => ?_)) | (refine WpH.skip (by rfl) ?_; simp only [Act.put, List.setIfInBounds_toArray, List.set_cons_zero, List.set_cons_succ])) | go_values | go_skip | go_guarded | go_step | go_upon | go_back)
    refine Stop.go ?_
    clear p0 p1 p2 x0 x1 x2 x3
    have hx5 := hx1.drew.step hb5
    have hp5 := hp1.drew.step hb5
    have hbb5 := bvia b1.drew hb5
    have HV5 := hid he5
    obtain ⟨tv, xv, rfl⟩ := he5.notNil
    obtain ⟨x0, x1, x2, x3, -, -, -, -, xl⟩ := hx5.four
    obtain ⟨p0, p1, p2, pl⟩ := hp5.three'
    have HF := hid (fun V V' v (hno : IsNo V' (Fr V (fun _ => False)) [⟨({ data := #[116, 114, 101, 101] } : ByteArray), ({ data := #[82, 101, 109, 111, 118, 101] } : ByteArray), atOf i⟩] 2 v) (he : IsErr V' (fun _ => True) a [⟨({ data := #[116, 114, 101, 101] } : ByteArray), ({ data := #[82, 101, 109, 111, 118, 101] } : ByteArray), atOf i⟩] 2 (.iface tv (.pointer (some xv)))) (hs : Sents V' (fun _ => True) a) => refused_any _ 2 _ v _ _ V' he hno hs (by simp))
    repeat' (first | (go_at_call 89; go_must ((with_reducible refine Calls.mono (HN.out _) ?_); rintro _ w9 ⟨v9, rfl, hno9, hb9⟩; dsimp only)) | (go_at_call 28; go_must ((with_reducible refine Calls.mono (HF.out w5 w9 _ hno9 ((HV5.out.step hb9).more fun _ _ _ => trivial) (hs.step (bvia hbb5 hb9)).every) ?_); rintro _ w10 ⟨rfl, hb10⟩; dsimp only)) | (with_reducible refine Keep.last ?_) | (with_reducible refine Keep.below (by assumption) ?_) | (with_reducible refine Keep.kept (by assumption) ?_) | (with_reducible refine Keep.alloc ?_) | (with_reducible refine Keep.same ?_) | ((with_reducible refine WpH.here ?_); first | (refine WpH.nil ?_; refine NoP.normal ?_) | (refine WpH.load (by rfl) (by rfl) (by go_simp; rfl) ?_; simp only [Act.put, List.setIfInBounds_toArray, List.set_cons_zero, List.set_cons_succ]) | (refine WpH.loadT (by rfl) (by rfl) (by go_simp; rfl) (by rintro _ _ ⟨⟩; exact ⟨_, _, _, _, _, _, by rfl, by assumption, by assumption⟩) ?_; simp only [Act.put, List.setIfInBounds_toArray, List.set_cons_zero, List.set_cons_succ]) | (refine WpH.pure (by rfl) (fun w_ => by go_simp; (try go_bits); rfl) ?_; simp only [Act.put, List.setIfInBounds_toArray, List.set_cons_zero, List.set_cons_succ]) | (refine WpH.wild1 (by rfl) (fun _ _ => ?_)) | (refine WpH.skip (by rfl) ?_; simp only [Act.put, List.setIfInBounds_toArray, List.set_cons_zero, List.set_cons_succ])) | go_values | go_skip | go_guarded | go_step | go_upon | go_back)
    skip
    go_ret
    have e9 := bvia (bvia hbb5 hb9) hb10
    exact ⟨T, rfl, Hh.out.step e9, e9.mono hb, hl, id, rfl⟩
  · by_cases h2 : (T.all.length : Int) < i
    · skip
      obtain ⟨⟨hlp, hlg⟩, ⟨A, c, hp, hr⟩, p, hg, hT⟩ := h
      have b1 : Below w.heap.size w (w.alloc (.cells #[.int .i64 do_, .int .i64 i, .int .i64 n, L] 76)) := balloc (Below.refl _ _)
      have hx1 := Blk.new w 76 #[.int .i64 do_, .int .i64 i, .int .i64 n, L]
      have hp1 := hp.step b1
      have HW := hid (fun W => within_any do_ 8 (by decide) (by decide) W)
      rw [hd] at HW
      have HN := hid (fun W => no_any ({ data := #[82, 101, 109, 111, 118, 101] } : ByteArray) i (fun _ => False) W)
      have HR := hid (fun W (hb : Below w.heap.size w W) => remove_no T p gt ck i n _ (fun b => b < base) W (hg.step hb) (hT.step hb) (hs.step hb) hi (by omega))
      have hgl := hg.lt
      have hpl := hp.lt
      have hHi := hid hi
      clear hp hg hT hr hd hi
      go_enter Tryd.func38, Tryd.ntmps38
      repeat' (first | (with_reducible refine stop_region 1 ?_) | (with_reducible refine Keep.last ?_) | (with_reducible refine Keep.below (by assumption) ?_) | (with_reducible refine Keep.kept (by assumption) ?_) | (with_reducible refine Keep.alloc ?_) | (with_reducible refine Keep.same ?_) | ((with_reducible refine WpH.here ?_); first | (refine WpH.nil ?_; refine NoP.normal ?_) | (refine WpH.load (by rfl) (by rfl) (by go_simp; rfl) ?_; simp only [Act.put, List.setIfInBounds_toArray, List.set_cons_zero, List.set_cons_succ]) | (refine WpH.loadT (by rfl) (by rfl) (by go_simp; rfl) (by rintro _ _ ⟨⟩; exact ⟨_, _, _, _, _, _, by rfl, by assumption, by assumption⟩) ?_; simp only [Act.put, List.setIfInBounds_toArray, List.set_cons_zero, List.set_cons_succ]) | (refine WpH.pure (by rfl) (fun w_ => by go_simp; (try go_bits); rfl) ?_; simp only [Act.put, List.setIfInBounds_toArray, List.set_cons_zero, List.set_cons_succ]) | (refine WpH.wild1 (by rfl) (fun _ _ => ?_)) | (refine WpH.skip (by rfl) ?_; simp only [Act.put, List.setIfInBounds_toArray, List.set_cons_zero, List.set_cons_succ])) | go_values | go_skip | go_guarded | go_step | go_upon | go_back)
      refine Stop.go ?_
      generalize w.alloc (.cells #[.int .i64 do_, .int .i64 i, .int .i64 n, L] 76) = W1 at *
      obtain ⟨p0, p1, p2, pl⟩ := hp1.three'
      obtain ⟨x0, x1, x2, x3, -, -, -, -, xl⟩ := hx1.four
      repeat' (first | (with_reducible refine stop_region 17 ?_) | (go_at_call 23; go_must ((with_reducible refine Calls.mono (HW.out _) ?_); rintro _ _ ⟨rfl, rfl⟩; dsimp only)) | ((with_reducible refine region_at 16 ?_); refine wp_region_order [(0, true, false), (1, true, false), (2, true, false), (3, true, false), (4, true, false), (5, true, false), (6, true, false), (7, true, false), (8, false, false), (9, true, false)] (by kernel_rfl) (by kernel_rfl) (by kernel_rfl) rfl rfl ?_) | (go_at_call 24; go_must ((with_reducible refine Calls.mono (HR.out _ b1.drew) ?_); rintro _ w5 ⟨v5, rfl, he5, hb5⟩; dsimp only)) | (with_reducible refine Keep.last ?_) | (with_reducible refine Keep.below (by assumption) ?_) | (with_reducible refine Keep.kept (by assumption) ?_) | (with_reducible refine Keep.alloc ?_) | (with_reducible refine Keep.same ?_) | ((with_reducible refine WpH.here ?_); first | (refine WpH.nil ?_; refine NoP.normal ?_) | (refine WpH.load (by rfl) (by rfl) (by go_simp; rfl) ?_; simp only [Act.put, List.setIfInBounds_toArray, List.set_cons_zero, List.set_cons_succ]) | (refine WpH.loadT (by rfl) (by rfl) (by go_simp; rfl) (by rintro _ _ ⟨⟩; exact ⟨_, _, _, _, _, _, by rfl, by assumption, by assumption⟩) ?_; simp only [Act.put, List.setIfInBounds_toArray, List.set_cons_zero, List.set_cons_succ]) | (refine WpH.pure (by rfl) (fun w_ => by go_simp; (try go_bits); rfl) ?_; simp only [Act.put, List.setIfInBounds_toArray, List.set_cons_zero, List.set_cons_succ]) | (refine WpH.wild1 (by rfl) (fun _ _ => ?_)) | (refine WpH.skip (by rfl) ?_; simp only [Act.put, List.setIfInBounds_toArray, List.set_cons_zero, List.set_cons_succ])) | go_values | go_skip | go_guarded | go_step | go_upon | go_back)
      refine Stop.go ?_
      clear p0 p1 p2 x0 x1 x2 x3
      have hx5 := hx1.drew.step hb5
      have hp5 := hp1.drew.step hb5
      have hbb5 := bvia b1.drew hb5
      have HV5 := hid he5
      obtain ⟨tv, xv, rfl⟩ := he5.notNil
      obtain ⟨x0, x1, x2, x3, -, -, -, -, xl⟩ := hx5.four
      obtain ⟨p0, p1, p2, pl⟩ := hp5.three'
      have HF := hid (fun V V' v (hno : IsNo V' (Fr V (fun _ => False)) [⟨({ data := #[116, 114, 101, 101] } : ByteArray), ({ data := #[82, 101, 109, 111, 118, 101] } : ByteArray), atOf i⟩] 2 v) (he : IsErr V' (fun _ => True) a [⟨({ data := #[116, 114, 101, 101] } : ByteArray), ({ data := #[82, 101, 109, 111, 118, 101] } : ByteArray), atOf i⟩] 2 (.iface tv (.pointer (some xv)))) (hs : Sents V' (fun _ => True) a) => refused_any _ 2 _ v _ _ V' he hno hs (by simp))
      repeat' (first | (go_at_call 89; go_must ((with_reducible refine Calls.mono (HN.out _) ?_); rintro _ w9 ⟨v9, rfl, hno9, hb9⟩; dsimp only)) | (go_at_call 28; go_must ((with_reducible refine Calls.mono (HF.out w5 w9 _ hno9 ((HV5.out.step hb9).more fun _ _ _ => trivial) (hs.step (bvia hbb5 hb9)).every) ?_); rintro _ w10 ⟨rfl, hb10⟩; dsimp only)) | (with_reducible refine Keep.last ?_) | (with_reducible refine Keep.below (by assumption) ?_) | (with_reducible refine Keep.kept (by assumption) ?_) | (with_reducible refine Keep.alloc ?_) | (with_reducible refine Keep.same ?_) | ((with_reducible refine WpH.here ?_); first | (refine WpH.nil ?_; refine NoP.normal ?_) | (refine WpH.load (by rfl) (by rfl) (by go_simp; rfl) ?_; simp only [Act.put, List.setIfInBounds_toArray, List.set_cons_zero, List.set_cons_succ]) | (refine WpH.loadT (by rfl) (by rfl) (by go_simp; rfl) (by rintro _ _ ⟨⟩; exact ⟨_, _, _, _, _, _, by rfl, by assumption, by assumption⟩) ?_; simp only [Act.put, List.setIfInBounds_toArray, List.set_cons_zero, List.set_cons_succ]) | (refine WpH.pure (by rfl) (fun w_ => by go_simp; (try go_bits); rfl) ?_; simp only [Act.put, List.setIfInBounds_toArray, List.set_cons_zero, List.set_cons_succ]) | (refine WpH.wild1 (by rfl) (fun _ _ => ?_)) | (refine WpH.skip (by rfl) ?_; simp only [Act.put, List.setIfInBounds_toArray, List.set_cons_zero, List.set_cons_succ])) | go_values | go_skip | go_guarded | go_step | go_upon | go_back)
      skip
      go_ret
      have e9 := bvia (bvia hbb5 hb9) hb10
      exact ⟨T, rfl, Hh.out.step e9, e9.mono hb, hl, id, rfl⟩
    · have h2' : i ≤ T.all.length := by omega
      by_cases h3 : n < 0
      · skip
        obtain ⟨⟨hlp, hlg⟩, ⟨A, c, hp, hr⟩, p, hg, hT⟩ := h
        have b1 : Below w.heap.size w (w.alloc (.cells #[.int .i64 do_, .int .i64 i, .int .i64 n, L] 76)) := balloc (Below.refl _ _)
        have hx1 := Blk.new w 76 #[.int .i64 do_, .int .i64 i, .int .i64 n, L]
        have hp1 := hp.step b1
        have HW := hid (fun W => within_any do_ 8 (by decide) (by decide) W)
        rw [hd] at HW
        have HN := hid (fun W => no_any ({ data := #[82, 101, 109, 111, 118, 101] } : ByteArray) i (fun _ => False) W)
        have HR := hid (fun W (hb : Below w.heap.size w W) => remove_no T p gt ck i n _ (fun b => b < base) W (hg.step hb) (hT.step hb) (hs.step hb) hi (by omega))
        have hgl := hg.lt
        have hpl := hp.lt
        have hHi := hid hi
        clear hp hg hT hr hd hi
        go_enter Tryd.func38, Tryd.ntmps38
        repeat' (first | (with_reducible refine stop_region 1 ?_) | (with_reducible refine Keep.last ?_) | (with_reducible refine Keep.below (by assumption) ?_) | (with_reducible refine Keep.kept (by assumption) ?_) | (with_reducible refine Keep.alloc ?_) | (with_reducible refine Keep.same ?_) | ((with_reducible refine WpH.here ?_); first | (refine WpH.nil ?_; refine NoP.normal ?_) | (refine WpH.load (by rfl) (by rfl) (by go_simp; rfl) ?_; simp only [Act.put, List.setIfInBounds_toArray, List.set_cons_zero, List.set_cons_succ]) | (refine WpH.loadT (by rfl) (by rfl) (by go_simp; rfl) (by rintro _ _ ⟨⟩; exact ⟨_, _, _, _, _, _, by rfl, by assumption, by assumption⟩) ?_; simp only [Act.put, List.setIfInBounds_toArray, List.set_cons_zero, List.set_cons_succ]) | (refine WpH.pure (by rfl) (fun w_ => by go_simp; (try go_bits); rfl) ?_; simp only [Act.put, List.setIfInBounds_toArray, List.set_cons_zero, List.set_cons_succ]) | (refine WpH.wild1 (by rfl) (fun _ _ => ?_)) | (refine WpH.skip (by rfl) ?_; simp only [Act.put, List.setIfInBounds_toArray, List.set_cons_zero, List.set_cons_succ])) | go_values | go_skip | go_guarded | go_step | go_upon | go_back)
        refine Stop.go ?_
        generalize w.alloc (.cells #[.int .i64 do_, .int .i64 i, .int .i64 n, L] 76) = W1 at *
        obtain ⟨p0, p1, p2, pl⟩ := hp1.three'
        obtain ⟨x0, x1, x2, x3, -, -, -, -, xl⟩ := hx1.four
        repeat' (first | (with_reducible refine stop_region 17 ?_) | (go_at_call 23; go_must ((with_reducible refine Calls.mono (HW.out _) ?_); rintro _ _ ⟨rfl, rfl⟩; dsimp only)) | ((with_reducible refine region_at 16 ?_); refine wp_region_order [(0, true, false), (1, true, false), (2, true, false), (3, true, false), (4, true, false), (5, true, false), (6, true, false), (7, true, false), (8, false, false), (9, true, false)] (by kernel_rfl) (by kernel_rfl) (by kernel_rfl) rfl rfl ?_) | (go_at_call 24; go_must ((with_reducible refine Calls.mono (HR.out _ b1.drew) ?_); rintro _ w5 ⟨v5, rfl, he5, hb5⟩; dsimp only)) | (with_reducible refine Keep.last ?_) | (with_reducible refine Keep.below (by assumption) ?_) | (with_reducible refine Keep.kept (by assumption) ?_) | (with_reducible refine Keep.alloc ?_) | (with_reducible refine Keep.same ?_) | ((with_reducible refine WpH.here ?_); first | (refine WpH.nil ?_; refine NoP.normal ?_) | (refine WpH.load (by rfl) (by rfl) (by go_simp; rfl) ?_; simp only [Act.put, List.setIfInBounds_toArray, List.set_cons_zero, List.set_cons_succ]) | (refine WpH.loadT (by rfl) (by rfl) (by go_simp; rfl) (by rintro _ _ ⟨⟩; exact ⟨_, _, _, _, _, _, by rfl, by assumption, by assumption⟩) ?_; simp only [Act.put, List.setIfInBounds_toArray, List.set_cons_zero, List.set_cons_succ]) | (refine WpH.pure (by rfl) (fun w_ => by go_simp; (try go_bits); rfl) ?_; simp only [Act.put, List.setIfInBounds_toArray, List.set_cons_zero, List.set_cons_succ]) | (refine WpH.wild1 (by rfl) (fun _ _ => ?_)) | (refine WpH.skip (by rfl) ?_; simp only [Act.put, List.setIfInBounds_toArray, List.set_cons_zero, List.set_cons_succ])) | go_values | go_skip | go_guarded | go_step | go_upon | go_back)
        refine Stop.go ?_
        clear p0 p1 p2 x0 x1 x2 x3
        have hx5 := hx1.drew.step hb5
        have hp5 := hp1.drew.step hb5
        have hbb5 := bvia b1.drew hb5
        have HV5 := hid he5
        obtain ⟨tv, xv, rfl⟩ := he5.notNil
        obtain ⟨x0, x1, x2, x3, -, -, -, -, xl⟩ := hx5.four
        obtain ⟨p0, p1, p2, pl⟩ := hp5.three'
        have HF := hid (fun V V' v (hno : IsNo V' (Fr V (fun _ => False)) [⟨({ data := #[116, 114, 101, 101] } : ByteArray), ({ data := #[82, 101, 109, 111, 118, 101] } : ByteArray), atOf i⟩] 2 v) (he : IsErr V' (fun _ => True) a [⟨({ data := #[116, 114, 101, 101] } : ByteArray), ({ data := #[82, 101, 109, 111, 118, 101] } : ByteArray), atOf i⟩] 2 (.iface tv (.pointer (some xv)))) (hs : Sents V' (fun _ => True) a) => refused_any _ 2 _ v _ _ V' he hno hs (by simp))
        repeat' (first | (go_at_call 89; go_must ((with_reducible refine Calls.mono (HN.out _) ?_); rintro _ w9 ⟨v9, rfl, hno9, hb9⟩; dsimp only)) | (go_at_call 28; go_must ((with_reducible refine Calls.mono (HF.out w5 w9 _ hno9 ((HV5.out.step hb9).more fun _ _ _ => trivial) (hs.step (bvia hbb5 hb9)).every) ?_); rintro _ w10 ⟨rfl, hb10⟩; dsimp only)) | (with_reducible refine Keep.last ?_) | (with_reducible refine Keep.below (by assumption) ?_) | (with_reducible refine Keep.kept (by assumption) ?_) | (with_reducible refine Keep.alloc ?_) | (with_reducible refine Keep.same ?_) | ((with_reducible refine WpH.here ?_); first | (refine WpH.nil ?_; refine NoP.normal ?_) | (refine WpH.load (by rfl) (by rfl) (by go_simp; rfl) ?_; simp only [Act.put, List.setIfInBounds_toArray, List.set_cons_zero, List.set_cons_succ]) | (refine WpH.loadT (by rfl) (by rfl) (by go_simp; rfl) (by rintro _ _ ⟨⟩; exact ⟨_, _, _, _, _, _, by rfl, by assumption, by assumption⟩) ?_; simp only [Act.put, List.setIfInBounds_toArray, List.set_cons_zero, List.set_cons_succ]) | (refine WpH.pure (by rfl) (fun w_ => by go_simp; (try go_bits); rfl) ?_; simp only [Act.put, List.setIfInBounds_toArray, List.set_cons_zero, List.set_cons_succ]) | (refine WpH.wild1 (by rfl) (fun _ _ => ?_)) | (refine WpH.skip (by rfl) ?_; simp only [Act.put, List.setIfInBounds_toArray, List.set_cons_zero, List.set_cons_succ])) | go_values | go_skip | go_guarded | go_step | go_upon | go_back)
        skip
        go_ret
        have e9 := bvia (bvia hbb5 hb9) hb10
        exact ⟨T, rfl, Hh.out.step e9, e9.mono hb, hl, id, rfl⟩
      · have h4 : (T.all.length : Int) - i < n := by omega
        obtain ⟨⟨hlp, hlg⟩, ⟨A, c, hp, hr⟩, p, hg, hT⟩ := h
        have b1 : Below w.heap.size w (w.alloc (.cells #[.int .i64 do_, .int .i64 i, .int .i64 n, L] 76)) := balloc (Below.refl _ _)
        have hx1 := Blk.new w 76 #[.int .i64 do_, .int .i64 i, .int .i64 n, L]
        have hp1 := hp.step b1
        have HW := hid (fun W => within_any do_ 8 (by decide) (by decide) W)
        rw [hd] at HW
        have HN := hid (fun W => no_any ({ data := #[82, 101, 109, 111, 118, 101] } : ByteArray) i (fun _ => False) W)
        have HR := hid (fun W (hb : Below w.heap.size w W) => remove_no T p gt ck i n _ (fun b => b < base) W (hg.step hb) (hT.step hb) (hs.step hb) hi (by omega))
        have hgl := hg.lt
        have hpl := hp.lt
        have hHi := hid hi
        clear hp hg hT hr hd hi
        go_enter Tryd.func38, Tryd.ntmps38
        repeat' (first | (with_reducible refine stop_region 1 ?_) | (with_reducible refine Keep.last ?_) | (with_reducible refine Keep.below (by assumption) ?_) | (with_reducible refine Keep.kept (by assumption) ?_) | (with_reducible refine Keep.alloc ?_) | (with_reducible refine Keep.same ?_) | ((with_reducible refine WpH.here ?_); first | (refine WpH.nil ?_; refine NoP.normal ?_) | (refine WpH.load (by rfl) (by rfl) (by go_simp; rfl) ?_; simp only [Act.put, List.setIfInBounds_toArray, List.set_cons_zero, List.set_cons_succ]) | (refine WpH.loadT (by rfl) (by rfl) (by go_simp; rfl) (by rintro _ _ ⟨⟩; exact ⟨_, _, _, _, _, _, by rfl, by assumption, by assumption⟩) ?_; simp only [Act.put, List.setIfInBounds_toArray, List.set_cons_zero, List.set_cons_succ]) | (refine WpH.pure (by rfl) (fun w_ => by go_simp; (try go_bits); rfl) ?_; simp only [Act.put, List.setIfInBounds_toArray, List.set_cons_zero, List.set_cons_succ]) | (refine WpH.wild1 (by rfl) (fun _ _ => ?_)) | (refine WpH.skip (by rfl) ?_; simp only [Act.put, List.setIfInBounds_toArray, List.set_cons_zero, List.set_cons_succ])) | go_values | go_skip | go_guarded | go_step | go_upon | go_back)
        refine Stop.go ?_
        generalize w.alloc (.cells #[.int .i64 do_, .int .i64 i, .int .i64 n, L] 76) = W1 at *
        obtain ⟨p0, p1, p2, pl⟩ := hp1.three'
        obtain ⟨x0, x1, x2, x3, -, -, -, -, xl⟩ := hx1.four
        repeat' (first | (with_reducible refine stop_region 17 ?_) | (go_at_call 23; go_must ((with_reducible refine Calls.mono (HW.out _) ?_); rintro _ _ ⟨rfl, rfl⟩; dsimp only)) | ((with_reducible refine region_at 16 ?_); refine wp_region_order [(0, true, false), (1, true, false), (2, true, false), (3, true, false), (4, true, false), (5, true, false), (6, true, false), (7, true, false), (8, false, false), (9, true, false)] (by kernel_rfl) (by kernel_rfl) (by kernel_rfl) rfl rfl ?_) | (go_at_call 24; go_must ((with_reducible refine Calls.mono (HR.out _ b1.drew) ?_); rintro _ w5 ⟨v5, rfl, he5, hb5⟩; dsimp only)) | (with_reducible refine Keep.last ?_) | (with_reducible refine Keep.below (by assumption) ?_) | (with_reducible refine Keep.kept (by assumption) ?_) | (with_reducible refine Keep.alloc ?_) | (with_reducible refine Keep.same ?_) | ((with_reducible refine WpH.here ?_); first | (refine WpH.nil ?_; refine NoP.normal ?_) | (refine WpH.load (by rfl) (by rfl) (by go_simp; rfl) ?_; simp only [Act.put, List.setIfInBounds_toArray, List.set_cons_zero, List.set_cons_succ]) | (refine WpH.loadT (by rfl) (by rfl) (by go_simp; rfl) (by rintro _ _ ⟨⟩; exact ⟨_, _, _, _, _, _, by rfl, by assumption, by assumption⟩) ?_; simp only [Act.put, List.setIfInBounds_toArray, List.set_cons_zero, List.set_cons_succ]) | (refine WpH.pure (by rfl) (fun w_ => by go_simp; (try go_bits); rfl) ?_; simp only [Act.put, List.setIfInBounds_toArray, List.set_cons_zero, List.set_cons_succ]) | (refine WpH.wild1 (by rfl) (fun _ _ => ?_)) | (refine WpH.skip (by rfl) ?_; simp only [Act.put, List.setIfInBounds_toArray, List.set_cons_zero, List.set_cons_succ])) | go_values | go_skip | go_guarded | go_step | go_upon | go_back)
        refine Stop.go ?_
        clear p0 p1 p2 x0 x1 x2 x3
        have hx5 := hx1.drew.step hb5
        have hp5 := hp1.drew.step hb5
        have hbb5 := bvia b1.drew hb5
        have HV5 := hid he5
        obtain ⟨tv, xv, rfl⟩ := he5.notNil
        obtain ⟨x0, x1, x2, x3, -, -, -, -, xl⟩ := hx5.four
        obtain ⟨p0, p1, p2, pl⟩ := hp5.three'
        have HF := hid (fun V V' v (hno : IsNo V' (Fr V (fun _ => False)) [⟨({ data := #[116, 114, 101, 101] } : ByteArray), ({ data := #[82, 101, 109, 111, 118, 101] } : ByteArray), atOf i⟩] 2 v) (he : IsErr V' (fun _ => True) a [⟨({ data := #[116, 114, 101, 101] } : ByteArray), ({ data := #[82, 101, 109, 111, 118, 101] } : ByteArray), atOf i⟩] 2 (.iface tv (.pointer (some xv)))) (hs : Sents V' (fun _ => True) a) => refused_any _ 2 _ v _ _ V' he hno hs (by simp))
        repeat' (first | (go_at_call 89; go_must ((with_reducible refine Calls.mono (HN.out _) ?_); rintro _ w9 ⟨v9, rfl, hno9, hb9⟩; dsimp only)) | (go_at_call 28; go_must ((with_reducible refine Calls.mono (HF.out w5 w9 _ hno9 ((HV5.out.step hb9).more fun _ _ _ => trivial) (hs.step (bvia hbb5 hb9)).every) ?_); rintro _ w10 ⟨rfl, hb10⟩; dsimp only)) | (with_reducible refine Keep.last ?_) | (with_reducible refine Keep.below (by assumption) ?_) | (with_reducible refine Keep.kept (by assumption) ?_) | (with_reducible refine Keep.alloc ?_) | (with_reducible refine Keep.same ?_) | ((with_reducible refine WpH.here ?_); first | (refine WpH.nil ?_; refine NoP.normal ?_) | (refine WpH.load (by rfl) (by rfl) (by go_simp; rfl) ?_; simp only [Act.put, List.setIfInBounds_toArray, List.set_cons_zero, List.set_cons_succ]) | (refine WpH.loadT (by rfl) (by rfl) (by go_simp; rfl) (by rintro _ _ ⟨⟩; exact ⟨_, _, _, _, _, _, by rfl, by assumption, by assumption⟩) ?_; simp only [Act.put, List.setIfInBounds_toArray, List.set_cons_zero, List.set_cons_succ]) | (refine WpH.pure (by rfl) (fun w_ => by go_simp; (try go_bits); rfl) ?_; simp only [Act.put, List.setIfInBounds_toArray, List.set_cons_zero, List.set_cons_succ]) | (refine WpH.wild1 (by rfl) (fun _ _ => ?_)) | (refine WpH.skip (by rfl) ?_; simp only [Act.put, List.setIfInBounds_toArray, List.set_cons_zero, List.set_cons_succ])) | go_values | go_skip | go_guarded | go_step | go_upon | go_back)
        skip
        go_ret
        have e9 := bvia (bvia hbb5 hb9) hb10
        exact ⟨T, rfl, Hh.out.step e9, e9.mono hb, hl, id, rfl⟩
end Go.Proofs.YtogkbddniacgiaaDoor
