/- Part of a proof: what functions of the program compute. Conditions: as each theorem says. -/
import Derived.Maps.RangeWalk
import Derived.Test.YteggpddlkkjmjaaGreatDoorQ12
import Derived.Test.YteggpddlkkjmjaaGreatDoorQ22
import Derived.Test.YteggpddlkkjmjaaGreatDoorQ23
import Derived.Test.YteggpddlkkjmjaaGreatDoorQ35
import Derived.Test.YteggpddlkkjmjaaGreatDoorQ44
import Derived.Test.YteggpddlkkjmjaaGreatDoorQ45
import Derived.Test.YteggpddlkkjmjaaGreatDoorQ55
import Derived.Test.YteggpddlkkjmjaaGreatDoorQ57
set_option linter.unusedSimpArgs false
set_option linter.unusedVariables false
set_option maxHeartbeats 8000000
set_option maxRecDepth 200000
namespace Go.Proofs.YteggpddlkkjmjaaGreatDoor
open Go Go.RowKit
variable {a : Nat → Addr}
def xOp : Opn := ⟨1, 0, 120, 3⟩
theorem newLg_name (ep : Int) (l : List El) : (newLg ep l).name ((newLg ep l).actOf xOp) = ⟨ep, 3, 1⟩ := rfl
theorem newLg_code (ep : Int) (l : List El) : (newLg ep l).issueCode xOp = if (⟨ep, 3, 1⟩ : Nm) ∈ l.map El.nm then 9 else 0 := by
 unfold Lg.issueCode
 rw [newLg_name]
 have h1 : rightOp xOp = true := by decide
 have h2 : validOp xOp (newLg ep l).l.length = true := by
  unfold validOp
  rw [h1, Bool.true_and]
  show decide _ = true
  simp only [decide_eq_true_eq]
  exact ⟨Int.le_refl _, by show (0 : Int) < ((newLg ep l).l.length : Int) ∨ (0 : Int) = ((newLg ep l).l.length : Int) ∧ (1 : Int) = 1; omega⟩
 unfold whyOf
 rw [if_neg (by simp [h1]), if_neg (by simp [h2])]
 have h3 : xOp.kind = 1 := rfl
 by_cases hm : (⟨ep, 3, 1⟩ : Nm) ∈ l.map El.nm
 · rw [if_pos hm, if_pos ⟨h3, hm⟩]
 · rw [if_neg hm, if_neg fun h => hm h.2]
theorem IsErr.pos9 {w : World} {S : Nat → Prop} : ∀ {ch : List Lk} {code : Nat} {v : Value}, IsErr w S a ch code v → 1 ≤ code
 | [], _, _, h => h.1
 | _ :: _, _, _, h => by obtain ⟨_, _, _, _, _, h⟩ := h; exact IsErr.pos9 h
theorem errAns0 {w : World} {S : Nat → Prop} {ch : List Lk} {v : Value} (h : ErrAns w S a ch 0 v) : v = .nilIface := by
 rcases h with ⟨-, h⟩ | h
 · exact h
 · have := h.pos9; omega
theorem errAns9 {w : World} {S : Nat → Prop} {ch : List Lk} {v : Value} (h : ErrAns w S a ch 9 v) : ∃ t x, v = .iface t (.pointer (some x)) := by
 rcases h with ⟨h, -⟩ | h
 · omega
 · exact h.notNil
theorem ref5Index_none (A : Option Addr) (n c : Nat) (es : List El) (S : Nat → Prop) (id : Nm) (w : World) (h : Row w S A n c es) (hn : n ≤ 1073741824) (hk : id ∉ es.map El.nm) :
 Calls Tryz.prog 29 #[.slice A n c, .agg #[.int .i64 id.epoch, .int .i64 id.rep, .int .i64 id.num]] w fun e w' => e = .returned (.int .i64 (-1)) ∧ Below w.heap.size w w' := by
 refine (ref5Index_at A n c es S id w h hn).mono ?_
 rintro e w' ⟨⟨k, y, rfl, hy, hyn, -⟩ | ⟨rfl, -⟩, h2⟩
 · exact absurd (List.mem_map.2 ⟨y, List.mem_of_getElem? hy, hyn⟩) hk
 · exact ⟨rfl, h2⟩
theorem hnew_true (w : World) (ep : Int) (A : Option Addr) (N c : Nat) (ls0 : List El) (S S' : Nat → Prop) (hep64 : I64 ep) (hr0 : Row w S A N c ls0) (hin0 : ∀ e ∈ ls0, e.In) (hs : Sents w S' a) (hlow : ∀ b, S' b → b < w.heap.size) :
 Calls Tryz.prog 6 #[.int .i64 ep, .slice A N c] w fun e w' => e = .returned (.bool true) ∧ Below w.heap.size w w' := by
 have Hs := hid hs
 have Hlow := hid hlow
 unfold I64 at hep64
 have hNc := hr0.2.1
 by_cases h60 : N ≤ 60
 · have hn60 : ¬ (N : Int) > 60 := by omega
   have hr := hr0
   have hin := hin0
   have hln : ls0.length = N := hr.1
   clear hr0 hin0
   by_cases hep : ep < 0 ∨ 1099511627776 < ep
   · have HchL : Hid (([⟨({ data := #[104, 105, 115, 116, 111, 114, 121] } : ByteArray), ({ data := #[78, 101, 119] } : ByteArray), atOf ep⟩] : List Lk).length ≤ 1073741824) := hid (by simp)
     have H1 := hid (hnew_ep_no (a := a) w A N c S' ep hep hs)
     have H2 := hid (fun W (_ : Below w.heap.size w W) => rnew_ep_no W A N c ep hep)
     clear hep hs hlow
     go_enter Tryz.func6, Tryz.ntmps6
     repeat' (first | (go_at_call 25; go_must ((with_reducible refine Calls.mono H1.out ?_); rintro _ w1 ⟨v1, rfl, hE1, hb1⟩; dsimp only)) | (go_at_call 26; go_must ((with_reducible refine Calls.mono (H2.out _ hb1) ?_); rintro _ w2 ⟨v2, rfl, ⟨hc2, A3, m3, d3, B3, k3, rfl, hr1, hr2⟩, hb2⟩; dsimp only)) | (with_reducible refine stop_region 5 ?_) | go_step)
     refine Stop.go ?_
     have hnb := Blk.new w2 62 #[.int .i64 1, .slice A3 m3 d3, .slice B3 1 k3]
     have eN : Below w2.heap.size w2 (w2.alloc (.cells #[.int .i64 1, .slice A3 m3 d3, .slice B3 1 k3] 62)) := balloc (Below.refl _ _)
     have hNW : IsNo (w2.alloc (.cells #[.int .i64 1, .slice A3 m3 d3, .slice B3 1 k3] 62)) (fun b => w1.heap.size + 1 ≤ b) [⟨({ data := #[104, 105, 115, 116, 111, 114, 121] } : ByteArray), ({ data := #[78, 101, 119] } : ByteArray), atOf ep⟩] 1 (.agg #[.int .i64 1, .slice A3 m3 d3, .slice B3 1 k3]) := IsNo.keepS ⟨hc2, A3, m3, d3, B3, k3, rfl, hr1, hr2⟩ eN.size (Same.of_below eN)
     have hEW := IsErr.step (IsErr.step hE1 hb2) eN
     have B3w := bvia (bvia hb1 hb2) eN
     generalize w2.alloc (.cells #[.int .i64 1, .slice A3 m3 d3, .slice B3 1 k3] 62) = Y at *
     generalize w2.heap.size = nb at *
     have n0 : Y.cell? ⟨nb, 0, none⟩ = some (.int .i64 1) := hnb.cell 0
     have n1 : Y.cell? ⟨nb, 1, none⟩ = some (.slice A3 m3 d3) := hnb.cell 1
     have n2 : Y.cell? ⟨nb, 2, none⟩ = some (.slice B3 1 k3) := hnb.cell 2
     have nl := hnb.lt
     have HRf := hid (refused_step (a := a) [⟨({ data := #[104, 105, 115, 116, 111, 114, 121] } : ByteArray), ({ data := #[78, 101, 119] } : ByteArray), atOf ep⟩] 1 v1 _ _ _ S' Y (.inr hEW) (.inr hNW) (Hs.out.step B3w) HchL.out)
     clear hr1 hr2 hnb hNW hEW hE1
     repeat' (first | (go_at_call 27; go_must ((with_reducible refine Calls.mono HRf.out ?_); rintro _ w4 ⟨rfl, hb4⟩; have B4 := bvia B3w hb4; dsimp only)) | (go_at_call 18; go_must ((with_reducible refine Calls.mono (wakes8_any (a := a) w4 S' (Hs.out.step B4) (fun b hb => Nat.lt_of_lt_of_le (Hlow.out b hb) (B4).size)) ?_); rintro _ wk ⟨rfl, hbk⟩; dsimp only)) | go_guarded | go_step)
     go_ret
     exact ⟨rfl, bvia B4 hbk⟩
   · have h0 : 0 ≤ ep := by omega
     have h1 : ep ≤ 1099511627776 := by omega
     rcases allRight_or ls0 with ha | ⟨j, ej, hj, ha, hw⟩
     · have hgood : ∀ e ∈ ls0, e.Good := ha.good fun e he => ⟨(hin e he).1, (hin e he).2.1, (hin e he).2.2.1⟩
       have hlq := hid (show (newLg ep ls0).l.length ≤ 1048576 by show ls0.length ≤ _; omega)
       have HN1 := hid (fun W (hb : Below w.heap.size w W) => hnew_ok W A N c ls0 S ep (hr.step hb) (by omega) hgood ha.nodup h0 h1)
       have HN2 := hid (fun W (hb : Below w.heap.size w W) => rnew_ok W A N c ls0 S ep (hr.step hb) (by omega) ha h0 h1)
       have Hr := hid hr
       clear hr ha hgood hin hs hlow hep
       go_enter Tryz.func6, Tryz.ntmps6
       repeat' (first | (go_at_call 25; go_must ((with_reducible refine Calls.mono (HN1.out _ (Below.refl _ _)) ?_); rintro _ w1 ⟨gb, rfl, hL1, hb1⟩; have HL1 := hid hL1.cut; clear hL1; dsimp only)) | (go_at_call 26; go_must ((with_reducible refine Calls.mono (HN2.out _ hb1) ?_); rintro _ w2 ⟨rb, rfl, -, hb2⟩; unfold noNone; dsimp only)) | (with_reducible refine stop_region 5 ?_) | go_step)
       refine Stop.go ?_
       have hnb := Blk.new w2 62 #[.int .i64 0, .slice none 0 0, .slice none 0 0]
       have eN : Below w2.heap.size w2 (w2.alloc (.cells #[.int .i64 0, .slice none 0 0, .slice none 0 0] 62)) := balloc (Below.refl _ _)
       have D2 := bvia hb2 eN
       have B3w := bvia hb1 D2
       generalize w2.alloc (.cells #[.int .i64 0, .slice none 0 0, .slice none 0 0] 62) = Y at *
       generalize w2.heap.size = nb at *
       have n0 : Y.cell? ⟨nb, 0, none⟩ = some (.int .i64 0) := hnb.cell 0
       have n1 : Y.cell? ⟨nb, 1, none⟩ = some (.slice none 0 0) := hnb.cell 1
       have n2 : Y.cell? ⟨nb, 2, none⟩ = some (.slice none 0 0) := hnb.cell 2
       have nl := hnb.lt
       have HRf : Hid (Calls Tryz.prog 27 #[.nilIface, .agg #[.int .i64 0, .slice none 0 0, .slice none 0 0]] Y fun e w' => e = .returned (.bool true) ∧ Below Y.heap.size Y w') := hid (refused_step (a := a) [] 0 .nilIface noNone (fun _ => True) (fun _ => True) S' Y (.inl ⟨rfl, rfl⟩) (.inl ⟨rfl, rfl⟩) (Hs.out.step B3w) (by simp))
       clear hnb
       repeat' (first | (go_at_call 27; go_must ((with_reducible refine Calls.mono HRf.out ?_); rintro _ w4 ⟨rfl, hb4⟩; have D4 := bvia D2 hb4; have B4 := bvia hb1 D4; dsimp only)) | (go_at_call 25; go_must ((with_reducible refine Calls.mono (HN1.out _ B4) ?_); rintro _ w5 ⟨g2, rfl, hL5, hb5⟩; have HL5 := hid hL5.cut; clear hL5; dsimp only)) | (with_reducible refine stop_region 12 ?_) | go_guarded | go_step)
       refine Stop.go ?_
       clear n0 n1 n2 nl
       have B5 := bvia B4 hb5
       obtain ⟨v, hv⟩ : ∃ v, v = (newLg ep ls0).issueCode xOp := ⟨_, rfl⟩
       have HIS := hid (issue_step_i (a := a) w5 g2 N _ S' (newLg ep ls0) xOp HL5.out ⟨hlq.out, Nat.zero_le _, Nat.zero_le _, by omega⟩ ⟨by show _ ≤ ep; omega, by show ep ≤ _; omega⟩ (fun r hr => by show I64 (Clk.zero.get r); rw [Clk.get_zero]; exact I64.zero) rfl ⟨I64.one, I64.zero, ⟨by decide, by decide⟩, ⟨by decide, by decide⟩⟩ (fun r hr => by show Clk.zero.get r ≤ _; rw [Clk.get_zero]; decide) (Hs.out.step B5) (fun b hb => Nat.lt_of_lt_of_le (Hlow.out b hb) B5.size))
       obtain ⟨P, hP⟩ : ∃ P, P = (newLg ep ls0).issued xOp := ⟨_, rfl⟩
       rw [← hP, ← hv] at HIS
       have hv2 := hv.trans (newLg_code ep ls0)
       simp only [Actn.agg, Opn.agg, xOp] at HIS
       unfold Actn.vals at HIS
       have HV := hid hv2
       clear hP hv hv2
       by_cases hmm : (⟨ep, 3, 1⟩ : Nm) ∈ ls0.map El.nm
       · have hv9 := HV.out
         rw [if_pos hmm] at hv9
         rw [hv9] at HIS
         obtain ⟨k0, hk0⟩ := ixOf_mem hmm
         have hk0n : ¬ (k0 : Int) < 0 := by omega
         clear hv9 HV
         repeat' (first | (go_at_call 28; go_must ((with_reducible refine Calls.mono HIS.out ?_); rintro _ w6 ⟨vi, rfl, hEi, -, hO6⟩; obtain ⟨tv, xv, rfl⟩ := errAns9 hEi; have HO6 := hid hO6; clear hO6; dsimp only)) | (with_reducible refine stop_region 13 ?_) | go_step)
         refine Stop.go ?_
         have B6 : Below w4.heap.size w5 w6 := HO6.out.below_ (fun b hb => hb.1) hb5.size
         have Bw6 := B5.trans (B6.mono B4.size)
         have hL6 : LogAt w6 (fun b => w.heap.size ≤ b ∧ b < w1.heap.size) gb (newLg ep ls0) N := ((HL1.out.step D4).step hb5).keep HO6.out.size fun b hl hs => B6.block b (Nat.lt_of_lt_of_le hs.2 D4.size)
         have HL6 := hid hL6
         have D0 : Below w6.heap.size w6 w6.drew := bdrew (Below.refl _ _)
         have HIX := hid (ref5Index_own A N c ls0 S ⟨ep, 3, 1⟩ w6.drew k0 (Hr.out.step (bvia Bw6 D0)) (by omega) hk0)
         unfold El.nm at *
         clear hL6 HIS B6
         repeat' (first | ((with_reducible refine region_at 13 ?_); refine wp_region_ordT (fun _ => True) (rgo [0,4,8,12,16,21,24,28,32,36,44,41,48,52,56,60,65,68,72,76,80,92,85,89,97,100,104,109,112,116] .nil) (by kernel_rfl) (by kernel_rfl) (by kernel_rfl) rfl rfl ?_) | (go_at_call 29; go_must ((with_reducible refine Calls.mono HIX.out ?_); rintro _ w7 ⟨rfl, hb7⟩; have hk7 := KeepT.of_below (T := fun _ => True) hb7; have D7 := bvia D0 hb7; have HEP := hid (show Calls Tryz.prog 30 #[.pointer (some ⟨gb, 0, none⟩)] w7 fun e w' => e = .returned (.int .i64 ep) ∧ w7 = w' from hepoch_any w7 _ gb _ _ (HL6.out.step D7)); have HLN := hid (show Calls Tryz.prog 31 #[.pointer (some ⟨gb, 0, none⟩)] w7 fun e w' => e = .returned (.int .i64 0) ∧ w7 = w' from hlen_any w7 _ gb _ _ (HL6.out.step D7)); have HMD := hid (hmodel_any w7 _ gb _ _ (HL6.out.step D7)); dsimp only)) | (go_at_call 30; go_must ((with_reducible refine Calls.mono HEP.out ?_); rintro _ _ ⟨rfl, rfl⟩; dsimp only)) | (go_at_call 31; go_must ((with_reducible refine Calls.mono HLN.out ?_); rintro _ _ ⟨rfl, rfl⟩; dsimp only)) | (go_at_call 20; go_must ((with_reducible refine Calls.mono HMD.out ?_); rintro _ _ ⟨⟨mb, rfl, hm⟩, rfl⟩; have HEL := hid (show Calls Tryz.prog 21 #[.pointer (some ⟨mb, 0, none⟩)] w7 fun e w' => ∃ A' c', e = .returned (.slice A' N c') ∧ Own w' w7.heap.size A' N c' ls0 ∧ Below w7.heap.size w7 w' from (by have hq := melements_any w7 _ mb ls0 _ hm (by omega); rwa [hln] at hq)); clear hm; dsimp only)) | (go_at_call 21; go_must ((with_reducible refine Calls.mono HEL.out ?_); rintro _ w8 ⟨A8, c8, rfl, ho8, hb8⟩; have hk8 := KeepT.of_below (T := fun _ => True) hb8; have D8 := bvia D7 hb8; have HQ := hid (els_eq A8 N c8 A c ls0 (fun _ => True) S w8 (ho8.row fun _ _ _ => trivial) (Hr.out.step (bvia Bw6 D8))); clear ho8; dsimp only)) | (go_at_call 24; go_must ((with_reducible refine Calls.mono HQ.out ?_); rintro _ w9 ⟨rfl, hb9⟩; have hk9 := KeepT.of_below (T := fun _ => True) hb9; have D9 := bvia D8 hb9; have B9 := bvia Bw6 D9; dsimp only)) | (go_at_call 18; go_must ((with_reducible refine Calls.mono (wakes8_any (a := a) w9 S' (Hs.out.step B9) (fun b hb => Nat.lt_of_lt_of_le (Hlow.out b hb) (B9).size)) ?_); rintro _ wk ⟨rfl, hbk⟩; have hkk := KeepT.of_below (T := fun _ => True) hbk; dsimp only)) | (with_reducible first | refine Keep.same ?_ | refine Keep.below (by assumption) ?_) | ((with_reducible refine WpO.here ?_); first | (refine WpO.done ?_; refine NoP.normal ?_) | (refine WpO.pure (by rfl) (fun w_ => by go_simp; (try go_bits); rfl) ?_; go_frame) | refine WpO.wild ?_) | ((with_reducible refine wildO.here ?_); (refine wildO.go (by rfl) (fun _ _ => ?_))) | go_step)
         go_ret
         exact ⟨rfl, bvia B9 hbk⟩
       · have hv9 := HV.out
         rw [if_neg hmm] at hv9
         rw [hv9] at HIS
         clear hv9 HV
         repeat' (first | (go_at_call 28; go_must ((with_reducible refine Calls.mono HIS.out ?_); rintro _ w6 ⟨vi, rfl, hEi, -, hO6⟩; obtain rfl := errAns0 hEi; have HO6 := hid hO6; clear hO6; dsimp only)) | (with_reducible refine stop_region 13 ?_) | go_step)
         refine Stop.go ?_
         have B6 : Below w4.heap.size w5 w6 := HO6.out.below_ (fun b hb => hb.1) hb5.size
         have Bw6 := B5.trans (B6.mono B4.size)
         have hL6 : LogAt w6 (fun b => w.heap.size ≤ b ∧ b < w1.heap.size) gb (newLg ep ls0) N := ((HL1.out.step D4).step hb5).keep HO6.out.size fun b hl hs => B6.block b (Nat.lt_of_lt_of_le hs.2 D4.size)
         have HL6 := hid hL6
         have D0 : Below w6.heap.size w6 w6.drew := bdrew (Below.refl _ _)
         have HIX := hid (ref5Index_none A N c ls0 S ⟨ep, 3, 1⟩ w6.drew (Hr.out.step (bvia Bw6 D0)) (by omega) hmm)
         unfold El.nm at *
         clear hL6 HIS B6
         repeat' (first | ((with_reducible refine region_at 13 ?_); refine wp_region_ordT (fun _ => True) (rgo [0,4,8,12,16,21,24,28,32,36,44,41,48,52,56,60,65,68,72,76,80,92,85,89,97,100,104,109,112,116] .nil) (by kernel_rfl) (by kernel_rfl) (by kernel_rfl) rfl rfl ?_) | (go_at_call 29; go_must ((with_reducible refine Calls.mono HIX.out ?_); rintro _ w7 ⟨rfl, hb7⟩; have hk7 := KeepT.of_below (T := fun _ => True) hb7; have D7 := bvia D0 hb7; have HEP := hid (show Calls Tryz.prog 30 #[.pointer (some ⟨gb, 0, none⟩)] w7 fun e w' => e = .returned (.int .i64 ep) ∧ w7 = w' from hepoch_any w7 _ gb _ _ (HL6.out.step D7)); have HLN := hid (show Calls Tryz.prog 31 #[.pointer (some ⟨gb, 0, none⟩)] w7 fun e w' => e = .returned (.int .i64 0) ∧ w7 = w' from hlen_any w7 _ gb _ _ (HL6.out.step D7)); have HMD := hid (hmodel_any w7 _ gb _ _ (HL6.out.step D7)); dsimp only)) | (go_at_call 30; go_must ((with_reducible refine Calls.mono HEP.out ?_); rintro _ _ ⟨rfl, rfl⟩; dsimp only)) | (go_at_call 31; go_must ((with_reducible refine Calls.mono HLN.out ?_); rintro _ _ ⟨rfl, rfl⟩; dsimp only)) | (go_at_call 20; go_must ((with_reducible refine Calls.mono HMD.out ?_); rintro _ _ ⟨⟨mb, rfl, hm⟩, rfl⟩; have HEL := hid (show Calls Tryz.prog 21 #[.pointer (some ⟨mb, 0, none⟩)] w7 fun e w' => ∃ A' c', e = .returned (.slice A' N c') ∧ Own w' w7.heap.size A' N c' ls0 ∧ Below w7.heap.size w7 w' from (by have hq := melements_any w7 _ mb ls0 _ hm (by omega); rwa [hln] at hq)); clear hm; dsimp only)) | (go_at_call 21; go_must ((with_reducible refine Calls.mono HEL.out ?_); rintro _ w8 ⟨A8, c8, rfl, ho8, hb8⟩; have hk8 := KeepT.of_below (T := fun _ => True) hb8; have D8 := bvia D7 hb8; have HQ := hid (els_eq A8 N c8 A c ls0 (fun _ => True) S w8 (ho8.row fun _ _ _ => trivial) (Hr.out.step (bvia Bw6 D8))); clear ho8; dsimp only)) | (go_at_call 24; go_must ((with_reducible refine Calls.mono HQ.out ?_); rintro _ w9 ⟨rfl, hb9⟩; have hk9 := KeepT.of_below (T := fun _ => True) hb9; have D9 := bvia D8 hb9; have B9 := bvia Bw6 D9; dsimp only)) | (go_at_call 18; go_must ((with_reducible refine Calls.mono (wakes8_any (a := a) w9 S' (Hs.out.step B9) (fun b hb => Nat.lt_of_lt_of_le (Hlow.out b hb) (B9).size)) ?_); rintro _ wk ⟨rfl, hbk⟩; have hkk := KeepT.of_below (T := fun _ => True) hbk; dsimp only)) | (with_reducible first | refine Keep.same ?_ | refine Keep.below (by assumption) ?_) | ((with_reducible refine WpO.here ?_); first | (refine WpO.done ?_; refine NoP.normal ?_) | (refine WpO.pure (by rfl) (fun w_ => by go_simp; (try go_bits); rfl) ?_; go_frame) | refine WpO.wild ?_) | ((with_reducible refine wildO.here ?_); (refine wildO.go (by rfl) (fun _ _ => ?_))) | go_step)
         go_ret
         exact ⟨rfl, bvia B9 hbk⟩
     · obtain ⟨code, hcode⟩ : ∃ code, code = wrongS ((ls0.take j).map El.nm) ej := ⟨_, rfl⟩
       rw [← hcode] at hw
       have h13 : code ≤ 13 := by
        rcases wrongS_cases ((ls0.take j).map El.nm) ej with ⟨h, _⟩ | ⟨h, _⟩ | ⟨h, _⟩ | ⟨h, _⟩ <;> omega
       have hejI := hin ej (List.mem_of_getElem? hj)
       have HchL : Hid (([⟨({ data := #[104, 105, 115, 116, 111, 114, 121] } : ByteArray), ({ data := #[78, 101, 119] } : ByteArray), atOf ep⟩, ⟨({ data := #[109, 111, 100, 101, 108] } : ByteArray), ({ data := #[79, 102] } : ByteArray), atOf j⟩] : List Lk).length ≤ 1073741824) := hid (by simp)
       have H1 := hid (hnew_base_no (a := a) w A N c j code ls0 ej S S' ep h0 h1 hr (by omega) (ha.good fun e he => ⟨(hin e (List.mem_of_mem_take he)).1, (hin e (List.mem_of_mem_take he)).2.1, (hin e (List.mem_of_mem_take he)).2.2.1⟩) ha.nodup hj ⟨hejI.1, hejI.2.1, hejI.2.2.1⟩ hcode.symm hw h13 hs)
       have H2 := hid (fun W (hb : Below w.heap.size w W) => rnew_base_no W A N c j code ls0 ej S ep h0 h1 (hr.step hb) (by omega) ha hj hcode.symm hw h13)
       clear hep hs hlow hcode hw hj ha hin hr hejI
       go_enter Tryz.func6, Tryz.ntmps6
       repeat' (first | (go_at_call 25; go_must ((with_reducible refine Calls.mono H1.out ?_); rintro _ w1 ⟨v1, rfl, hE1, hb1⟩; dsimp only)) | (go_at_call 26; go_must ((with_reducible refine Calls.mono (H2.out _ hb1) ?_); rintro _ w2 ⟨v2, rfl, ⟨hc2, A3, m3, d3, B3, k3, rfl, hr1, hr2⟩, hb2⟩; dsimp only)) | (with_reducible refine stop_region 5 ?_) | go_step)
       refine Stop.go ?_
       have hnb := Blk.new w2 62 #[.int .i64 code, .slice A3 m3 d3, .slice B3 1 k3]
       have eN : Below w2.heap.size w2 (w2.alloc (.cells #[.int .i64 code, .slice A3 m3 d3, .slice B3 1 k3] 62)) := balloc (Below.refl _ _)
       have hNW : IsNo (w2.alloc (.cells #[.int .i64 code, .slice A3 m3 d3, .slice B3 1 k3] 62)) (fun b => w1.heap.size + 1 ≤ b) [⟨({ data := #[104, 105, 115, 116, 111, 114, 121] } : ByteArray), ({ data := #[78, 101, 119] } : ByteArray), atOf ep⟩, ⟨({ data := #[109, 111, 100, 101, 108] } : ByteArray), ({ data := #[79, 102] } : ByteArray), atOf j⟩] code (.agg #[.int .i64 code, .slice A3 m3 d3, .slice B3 1 k3]) := IsNo.keepS ⟨hc2, A3, m3, d3, B3, k3, rfl, hr1, hr2⟩ eN.size (Same.of_below eN)
       have hEW := IsErr.step (IsErr.step hE1 hb2) eN
       have B3w := bvia (bvia hb1 hb2) eN
       generalize w2.alloc (.cells #[.int .i64 code, .slice A3 m3 d3, .slice B3 1 k3] 62) = Y at *
       generalize w2.heap.size = nb at *
       have n0 : Y.cell? ⟨nb, 0, none⟩ = some (.int .i64 code) := hnb.cell 0
       have n1 : Y.cell? ⟨nb, 1, none⟩ = some (.slice A3 m3 d3) := hnb.cell 1
       have n2 : Y.cell? ⟨nb, 2, none⟩ = some (.slice B3 1 k3) := hnb.cell 2
       have nl := hnb.lt
       have HRf := hid (refused_step (a := a) [⟨({ data := #[104, 105, 115, 116, 111, 114, 121] } : ByteArray), ({ data := #[78, 101, 119] } : ByteArray), atOf ep⟩, ⟨({ data := #[109, 111, 100, 101, 108] } : ByteArray), ({ data := #[79, 102] } : ByteArray), atOf j⟩] code v1 _ _ _ S' Y (.inr hEW) (.inr hNW) (Hs.out.step B3w) HchL.out)
       clear hr1 hr2 hnb hNW hEW hE1
       repeat' (first | (go_at_call 27; go_must ((with_reducible refine Calls.mono HRf.out ?_); rintro _ w4 ⟨rfl, hb4⟩; have B4 := bvia B3w hb4; dsimp only)) | (go_at_call 18; go_must ((with_reducible refine Calls.mono (wakes8_any (a := a) w4 S' (Hs.out.step B4) (fun b hb => Nat.lt_of_lt_of_le (Hlow.out b hb) (B4).size)) ?_); rintro _ wk ⟨rfl, hbk⟩; dsimp only)) | go_guarded | go_step)
       go_ret
       exact ⟨rfl, bvia B4 hbk⟩
 · have hn60 : (N : Int) > 60 := by omega
   have h60c : 60 ≤ c := by omega
   obtain ⟨ls, hls⟩ : ∃ ls, ls = ls0.take 60 := ⟨_, rfl⟩
   have hr : Row w S A 60 c ls := by rw [hls]; exact hr0.take_ (by omega)
   have hin : ∀ e ∈ ls, e.In := fun e he => hin0 e (List.mem_of_mem_take (by rw [hls] at he; exact he))
   have hln : ls.length = 60 := hr.1
   clear hr0 hin0 hls
   by_cases hep : ep < 0 ∨ 1099511627776 < ep
   · have HchL : Hid (([⟨({ data := #[104, 105, 115, 116, 111, 114, 121] } : ByteArray), ({ data := #[78, 101, 119] } : ByteArray), atOf ep⟩] : List Lk).length ≤ 1073741824) := hid (by simp)
     have H1 := hid (hnew_ep_no (a := a) w A 60 c S' ep hep hs)
     have H2 := hid (fun W (_ : Below w.heap.size w W) => rnew_ep_no W A 60 c ep hep)
     clear hep hs hlow
     go_enter Tryz.func6, Tryz.ntmps6
     repeat' (first | (go_at_call 25; go_must ((with_reducible refine Calls.mono H1.out ?_); rintro _ w1 ⟨v1, rfl, hE1, hb1⟩; dsimp only)) | (go_at_call 26; go_must ((with_reducible refine Calls.mono (H2.out _ hb1) ?_); rintro _ w2 ⟨v2, rfl, ⟨hc2, A3, m3, d3, B3, k3, rfl, hr1, hr2⟩, hb2⟩; dsimp only)) | (with_reducible refine stop_region 5 ?_) | go_step)
     refine Stop.go ?_
     have hnb := Blk.new w2 62 #[.int .i64 1, .slice A3 m3 d3, .slice B3 1 k3]
     have eN : Below w2.heap.size w2 (w2.alloc (.cells #[.int .i64 1, .slice A3 m3 d3, .slice B3 1 k3] 62)) := balloc (Below.refl _ _)
     have hNW : IsNo (w2.alloc (.cells #[.int .i64 1, .slice A3 m3 d3, .slice B3 1 k3] 62)) (fun b => w1.heap.size + 1 ≤ b) [⟨({ data := #[104, 105, 115, 116, 111, 114, 121] } : ByteArray), ({ data := #[78, 101, 119] } : ByteArray), atOf ep⟩] 1 (.agg #[.int .i64 1, .slice A3 m3 d3, .slice B3 1 k3]) := IsNo.keepS ⟨hc2, A3, m3, d3, B3, k3, rfl, hr1, hr2⟩ eN.size (Same.of_below eN)
     have hEW := IsErr.step (IsErr.step hE1 hb2) eN
     have B3w := bvia (bvia hb1 hb2) eN
     generalize w2.alloc (.cells #[.int .i64 1, .slice A3 m3 d3, .slice B3 1 k3] 62) = Y at *
     generalize w2.heap.size = nb at *
     have n0 : Y.cell? ⟨nb, 0, none⟩ = some (.int .i64 1) := hnb.cell 0
     have n1 : Y.cell? ⟨nb, 1, none⟩ = some (.slice A3 m3 d3) := hnb.cell 1
     have n2 : Y.cell? ⟨nb, 2, none⟩ = some (.slice B3 1 k3) := hnb.cell 2
     have nl := hnb.lt
     have HRf := hid (refused_step (a := a) [⟨({ data := #[104, 105, 115, 116, 111, 114, 121] } : ByteArray), ({ data := #[78, 101, 119] } : ByteArray), atOf ep⟩] 1 v1 _ _ _ S' Y (.inr hEW) (.inr hNW) (Hs.out.step B3w) HchL.out)
     clear hr1 hr2 hnb hNW hEW hE1
     repeat' (first | (go_at_call 27; go_must ((with_reducible refine Calls.mono HRf.out ?_); rintro _ w4 ⟨rfl, hb4⟩; have B4 := bvia B3w hb4; dsimp only)) | (go_at_call 18; go_must ((with_reducible refine Calls.mono (wakes8_any (a := a) w4 S' (Hs.out.step B4) (fun b hb => Nat.lt_of_lt_of_le (Hlow.out b hb) (B4).size)) ?_); rintro _ wk ⟨rfl, hbk⟩; dsimp only)) | go_guarded | go_step)
     go_ret
     exact ⟨rfl, bvia B4 hbk⟩
   · have h0 : 0 ≤ ep := by omega
     have h1 : ep ≤ 1099511627776 := by omega
     rcases allRight_or ls with ha | ⟨j, ej, hj, ha, hw⟩
     · have hgood : ∀ e ∈ ls, e.Good := ha.good fun e he => ⟨(hin e he).1, (hin e he).2.1, (hin e he).2.2.1⟩
       have hlq := hid (show (newLg ep ls).l.length ≤ 1048576 by show ls.length ≤ _; omega)
       have HN1 := hid (fun W (hb : Below w.heap.size w W) => hnew_ok W A 60 c ls S ep (hr.step hb) (by omega) hgood ha.nodup h0 h1)
       have HN2 := hid (fun W (hb : Below w.heap.size w W) => rnew_ok W A 60 c ls S ep (hr.step hb) (by omega) ha h0 h1)
       have Hr := hid hr
       clear hr ha hgood hin hs hlow hep
       go_enter Tryz.func6, Tryz.ntmps6
       repeat' (first | (go_at_call 25; go_must ((with_reducible refine Calls.mono (HN1.out _ (Below.refl _ _)) ?_); rintro _ w1 ⟨gb, rfl, hL1, hb1⟩; have HL1 := hid hL1.cut; clear hL1; dsimp only)) | (go_at_call 26; go_must ((with_reducible refine Calls.mono (HN2.out _ hb1) ?_); rintro _ w2 ⟨rb, rfl, -, hb2⟩; unfold noNone; dsimp only)) | (with_reducible refine stop_region 5 ?_) | go_step)
       refine Stop.go ?_
       have hnb := Blk.new w2 62 #[.int .i64 0, .slice none 0 0, .slice none 0 0]
       have eN : Below w2.heap.size w2 (w2.alloc (.cells #[.int .i64 0, .slice none 0 0, .slice none 0 0] 62)) := balloc (Below.refl _ _)
       have D2 := bvia hb2 eN
       have B3w := bvia hb1 D2
       generalize w2.alloc (.cells #[.int .i64 0, .slice none 0 0, .slice none 0 0] 62) = Y at *
       generalize w2.heap.size = nb at *
       have n0 : Y.cell? ⟨nb, 0, none⟩ = some (.int .i64 0) := hnb.cell 0
       have n1 : Y.cell? ⟨nb, 1, none⟩ = some (.slice none 0 0) := hnb.cell 1
       have n2 : Y.cell? ⟨nb, 2, none⟩ = some (.slice none 0 0) := hnb.cell 2
       have nl := hnb.lt
       have HRf : Hid (Calls Tryz.prog 27 #[.nilIface, .agg #[.int .i64 0, .slice none 0 0, .slice none 0 0]] Y fun e w' => e = .returned (.bool true) ∧ Below Y.heap.size Y w') := hid (refused_step (a := a) [] 0 .nilIface noNone (fun _ => True) (fun _ => True) S' Y (.inl ⟨rfl, rfl⟩) (.inl ⟨rfl, rfl⟩) (Hs.out.step B3w) (by simp))
       clear hnb
       repeat' (first | (go_at_call 27; go_must ((with_reducible refine Calls.mono HRf.out ?_); rintro _ w4 ⟨rfl, hb4⟩; have D4 := bvia D2 hb4; have B4 := bvia hb1 D4; dsimp only)) | (go_at_call 25; go_must ((with_reducible refine Calls.mono (HN1.out _ B4) ?_); rintro _ w5 ⟨g2, rfl, hL5, hb5⟩; have HL5 := hid hL5.cut; clear hL5; dsimp only)) | (with_reducible refine stop_region 12 ?_) | go_guarded | go_step)
       refine Stop.go ?_
       clear n0 n1 n2 nl
       have B5 := bvia B4 hb5
       obtain ⟨v, hv⟩ : ∃ v, v = (newLg ep ls).issueCode xOp := ⟨_, rfl⟩
       have HIS := hid (issue_step_i (a := a) w5 g2 60 _ S' (newLg ep ls) xOp HL5.out ⟨hlq.out, Nat.zero_le _, Nat.zero_le _, by omega⟩ ⟨by show _ ≤ ep; omega, by show ep ≤ _; omega⟩ (fun r hr => by show I64 (Clk.zero.get r); rw [Clk.get_zero]; exact I64.zero) rfl ⟨I64.one, I64.zero, ⟨by decide, by decide⟩, ⟨by decide, by decide⟩⟩ (fun r hr => by show Clk.zero.get r ≤ _; rw [Clk.get_zero]; decide) (Hs.out.step B5) (fun b hb => Nat.lt_of_lt_of_le (Hlow.out b hb) B5.size))
       obtain ⟨P, hP⟩ : ∃ P, P = (newLg ep ls).issued xOp := ⟨_, rfl⟩
       rw [← hP, ← hv] at HIS
       have hv2 := hv.trans (newLg_code ep ls)
       simp only [Actn.agg, Opn.agg, xOp] at HIS
       unfold Actn.vals at HIS
       have HV := hid hv2
       clear hP hv hv2
       by_cases hmm : (⟨ep, 3, 1⟩ : Nm) ∈ ls.map El.nm
       · have hv9 := HV.out
         rw [if_pos hmm] at hv9
         rw [hv9] at HIS
         obtain ⟨k0, hk0⟩ := ixOf_mem hmm
         have hk0n : ¬ (k0 : Int) < 0 := by omega
         clear hv9 HV
         repeat' (first | (go_at_call 28; go_must ((with_reducible refine Calls.mono HIS.out ?_); rintro _ w6 ⟨vi, rfl, hEi, -, hO6⟩; obtain ⟨tv, xv, rfl⟩ := errAns9 hEi; have HO6 := hid hO6; clear hO6; dsimp only)) | (with_reducible refine stop_region 13 ?_) | go_step)
         refine Stop.go ?_
         have B6 : Below w4.heap.size w5 w6 := HO6.out.below_ (fun b hb => hb.1) hb5.size
         have Bw6 := B5.trans (B6.mono B4.size)
         have hL6 : LogAt w6 (fun b => w.heap.size ≤ b ∧ b < w1.heap.size) gb (newLg ep ls) 60 := ((HL1.out.step D4).step hb5).keep HO6.out.size fun b hl hs => B6.block b (Nat.lt_of_lt_of_le hs.2 D4.size)
         have HL6 := hid hL6
         have D0 : Below w6.heap.size w6 w6.drew := bdrew (Below.refl _ _)
         have HIX := hid (ref5Index_own A 60 c ls S ⟨ep, 3, 1⟩ w6.drew k0 (Hr.out.step (bvia Bw6 D0)) (by omega) hk0)
         unfold El.nm at *
         clear hL6 HIS B6
         repeat' (first | ((with_reducible refine region_at 13 ?_); refine wp_region_ordT (fun _ => True) (rgo [0,4,8,12,16,21,24,28,32,36,44,41,48,52,56,60,65,68,72,76,80,92,85,89,97,100,104,109,112,116] .nil) (by kernel_rfl) (by kernel_rfl) (by kernel_rfl) rfl rfl ?_) | (go_at_call 29; go_must ((with_reducible refine Calls.mono HIX.out ?_); rintro _ w7 ⟨rfl, hb7⟩; have hk7 := KeepT.of_below (T := fun _ => True) hb7; have D7 := bvia D0 hb7; have HEP := hid (show Calls Tryz.prog 30 #[.pointer (some ⟨gb, 0, none⟩)] w7 fun e w' => e = .returned (.int .i64 ep) ∧ w7 = w' from hepoch_any w7 _ gb _ _ (HL6.out.step D7)); have HLN := hid (show Calls Tryz.prog 31 #[.pointer (some ⟨gb, 0, none⟩)] w7 fun e w' => e = .returned (.int .i64 0) ∧ w7 = w' from hlen_any w7 _ gb _ _ (HL6.out.step D7)); have HMD := hid (hmodel_any w7 _ gb _ _ (HL6.out.step D7)); dsimp only)) | (go_at_call 30; go_must ((with_reducible refine Calls.mono HEP.out ?_); rintro _ _ ⟨rfl, rfl⟩; dsimp only)) | (go_at_call 31; go_must ((with_reducible refine Calls.mono HLN.out ?_); rintro _ _ ⟨rfl, rfl⟩; dsimp only)) | (go_at_call 20; go_must ((with_reducible refine Calls.mono HMD.out ?_); rintro _ _ ⟨⟨mb, rfl, hm⟩, rfl⟩; have HEL := hid (show Calls Tryz.prog 21 #[.pointer (some ⟨mb, 0, none⟩)] w7 fun e w' => ∃ A' c', e = .returned (.slice A' 60 c') ∧ Own w' w7.heap.size A' 60 c' ls ∧ Below w7.heap.size w7 w' from (by have hq := melements_any w7 _ mb ls _ hm (by omega); rwa [hln] at hq)); clear hm; dsimp only)) | (go_at_call 21; go_must ((with_reducible refine Calls.mono HEL.out ?_); rintro _ w8 ⟨A8, c8, rfl, ho8, hb8⟩; have hk8 := KeepT.of_below (T := fun _ => True) hb8; have D8 := bvia D7 hb8; have HQ := hid (els_eq A8 60 c8 A c ls (fun _ => True) S w8 (ho8.row fun _ _ _ => trivial) (Hr.out.step (bvia Bw6 D8))); clear ho8; dsimp only)) | (go_at_call 24; go_must ((with_reducible refine Calls.mono HQ.out ?_); rintro _ w9 ⟨rfl, hb9⟩; have hk9 := KeepT.of_below (T := fun _ => True) hb9; have D9 := bvia D8 hb9; have B9 := bvia Bw6 D9; dsimp only)) | (go_at_call 18; go_must ((with_reducible refine Calls.mono (wakes8_any (a := a) w9 S' (Hs.out.step B9) (fun b hb => Nat.lt_of_lt_of_le (Hlow.out b hb) (B9).size)) ?_); rintro _ wk ⟨rfl, hbk⟩; have hkk := KeepT.of_below (T := fun _ => True) hbk; dsimp only)) | (with_reducible first | refine Keep.same ?_ | refine Keep.below (by assumption) ?_) | ((with_reducible refine WpO.here ?_); first | (refine WpO.done ?_; refine NoP.normal ?_) | (refine WpO.pure (by rfl) (fun w_ => by go_simp; (try go_bits); rfl) ?_; go_frame) | refine WpO.wild ?_) | ((with_reducible refine wildO.here ?_); (refine wildO.go (by rfl) (fun _ _ => ?_))) | go_step)
         go_ret
         exact ⟨rfl, bvia B9 hbk⟩
       · have hv9 := HV.out
         rw [if_neg hmm] at hv9
         rw [hv9] at HIS
         clear hv9 HV
         repeat' (first | (go_at_call 28; go_must ((with_reducible refine Calls.mono HIS.out ?_); rintro _ w6 ⟨vi, rfl, hEi, -, hO6⟩; obtain rfl := errAns0 hEi; have HO6 := hid hO6; clear hO6; dsimp only)) | (with_reducible refine stop_region 13 ?_) | go_step)
         refine Stop.go ?_
         have B6 : Below w4.heap.size w5 w6 := HO6.out.below_ (fun b hb => hb.1) hb5.size
         have Bw6 := B5.trans (B6.mono B4.size)
         have hL6 : LogAt w6 (fun b => w.heap.size ≤ b ∧ b < w1.heap.size) gb (newLg ep ls) 60 := ((HL1.out.step D4).step hb5).keep HO6.out.size fun b hl hs => B6.block b (Nat.lt_of_lt_of_le hs.2 D4.size)
         have HL6 := hid hL6
         have D0 : Below w6.heap.size w6 w6.drew := bdrew (Below.refl _ _)
         have HIX := hid (ref5Index_none A 60 c ls S ⟨ep, 3, 1⟩ w6.drew (Hr.out.step (bvia Bw6 D0)) (by omega) hmm)
         unfold El.nm at *
         clear hL6 HIS B6
         repeat' (first | ((with_reducible refine region_at 13 ?_); refine wp_region_ordT (fun _ => True) (rgo [0,4,8,12,16,21,24,28,32,36,44,41,48,52,56,60,65,68,72,76,80,92,85,89,97,100,104,109,112,116] .nil) (by kernel_rfl) (by kernel_rfl) (by kernel_rfl) rfl rfl ?_) | (go_at_call 29; go_must ((with_reducible refine Calls.mono HIX.out ?_); rintro _ w7 ⟨rfl, hb7⟩; have hk7 := KeepT.of_below (T := fun _ => True) hb7; have D7 := bvia D0 hb7; have HEP := hid (show Calls Tryz.prog 30 #[.pointer (some ⟨gb, 0, none⟩)] w7 fun e w' => e = .returned (.int .i64 ep) ∧ w7 = w' from hepoch_any w7 _ gb _ _ (HL6.out.step D7)); have HLN := hid (show Calls Tryz.prog 31 #[.pointer (some ⟨gb, 0, none⟩)] w7 fun e w' => e = .returned (.int .i64 0) ∧ w7 = w' from hlen_any w7 _ gb _ _ (HL6.out.step D7)); have HMD := hid (hmodel_any w7 _ gb _ _ (HL6.out.step D7)); dsimp only)) | (go_at_call 30; go_must ((with_reducible refine Calls.mono HEP.out ?_); rintro _ _ ⟨rfl, rfl⟩; dsimp only)) | (go_at_call 31; go_must ((with_reducible refine Calls.mono HLN.out ?_); rintro _ _ ⟨rfl, rfl⟩; dsimp only)) | (go_at_call 20; go_must ((with_reducible refine Calls.mono HMD.out ?_); rintro _ _ ⟨⟨mb, rfl, hm⟩, rfl⟩; have HEL := hid (show Calls Tryz.prog 21 #[.pointer (some ⟨mb, 0, none⟩)] w7 fun e w' => ∃ A' c', e = .returned (.slice A' 60 c') ∧ Own w' w7.heap.size A' 60 c' ls ∧ Below w7.heap.size w7 w' from (by have hq := melements_any w7 _ mb ls _ hm (by omega); rwa [hln] at hq)); clear hm; dsimp only)) | (go_at_call 21; go_must ((with_reducible refine Calls.mono HEL.out ?_); rintro _ w8 ⟨A8, c8, rfl, ho8, hb8⟩; have hk8 := KeepT.of_below (T := fun _ => True) hb8; have D8 := bvia D7 hb8; have HQ := hid (els_eq A8 60 c8 A c ls (fun _ => True) S w8 (ho8.row fun _ _ _ => trivial) (Hr.out.step (bvia Bw6 D8))); clear ho8; dsimp only)) | (go_at_call 24; go_must ((with_reducible refine Calls.mono HQ.out ?_); rintro _ w9 ⟨rfl, hb9⟩; have hk9 := KeepT.of_below (T := fun _ => True) hb9; have D9 := bvia D8 hb9; have B9 := bvia Bw6 D9; dsimp only)) | (go_at_call 18; go_must ((with_reducible refine Calls.mono (wakes8_any (a := a) w9 S' (Hs.out.step B9) (fun b hb => Nat.lt_of_lt_of_le (Hlow.out b hb) (B9).size)) ?_); rintro _ wk ⟨rfl, hbk⟩; have hkk := KeepT.of_below (T := fun _ => True) hbk; dsimp only)) | (with_reducible first | refine Keep.same ?_ | refine Keep.below (by assumption) ?_) | ((with_reducible refine WpO.here ?_); first | (refine WpO.done ?_; refine NoP.normal ?_) | (refine WpO.pure (by rfl) (fun w_ => by go_simp; (try go_bits); rfl) ?_; go_frame) | refine WpO.wild ?_) | ((with_reducible refine wildO.here ?_); (refine wildO.go (by rfl) (fun _ _ => ?_))) | go_step)
         go_ret
         exact ⟨rfl, bvia B9 hbk⟩
     · obtain ⟨code, hcode⟩ : ∃ code, code = wrongS ((ls.take j).map El.nm) ej := ⟨_, rfl⟩
       rw [← hcode] at hw
       have h13 : code ≤ 13 := by
        rcases wrongS_cases ((ls.take j).map El.nm) ej with ⟨h, _⟩ | ⟨h, _⟩ | ⟨h, _⟩ | ⟨h, _⟩ <;> omega
       have hejI := hin ej (List.mem_of_getElem? hj)
       have HchL : Hid (([⟨({ data := #[104, 105, 115, 116, 111, 114, 121] } : ByteArray), ({ data := #[78, 101, 119] } : ByteArray), atOf ep⟩, ⟨({ data := #[109, 111, 100, 101, 108] } : ByteArray), ({ data := #[79, 102] } : ByteArray), atOf j⟩] : List Lk).length ≤ 1073741824) := hid (by simp)
       have H1 := hid (hnew_base_no (a := a) w A 60 c j code ls ej S S' ep h0 h1 hr (by omega) (ha.good fun e he => ⟨(hin e (List.mem_of_mem_take he)).1, (hin e (List.mem_of_mem_take he)).2.1, (hin e (List.mem_of_mem_take he)).2.2.1⟩) ha.nodup hj ⟨hejI.1, hejI.2.1, hejI.2.2.1⟩ hcode.symm hw h13 hs)
       have H2 := hid (fun W (hb : Below w.heap.size w W) => rnew_base_no W A 60 c j code ls ej S ep h0 h1 (hr.step hb) (by omega) ha hj hcode.symm hw h13)
       clear hep hs hlow hcode hw hj ha hin hr hejI
       go_enter Tryz.func6, Tryz.ntmps6
       repeat' (first | (go_at_call 25; go_must ((with_reducible refine Calls.mono H1.out ?_); rintro _ w1 ⟨v1, rfl, hE1, hb1⟩; dsimp only)) | (go_at_call 26; go_must ((with_reducible refine Calls.mono (H2.out _ hb1) ?_); rintro _ w2 ⟨v2, rfl, ⟨hc2, A3, m3, d3, B3, k3, rfl, hr1, hr2⟩, hb2⟩; dsimp only)) | (with_reducible refine stop_region 5 ?_) | go_step)
       refine Stop.go ?_
       have hnb := Blk.new w2 62 #[.int .i64 code, .slice A3 m3 d3, .slice B3 1 k3]
       have eN : Below w2.heap.size w2 (w2.alloc (.cells #[.int .i64 code, .slice A3 m3 d3, .slice B3 1 k3] 62)) := balloc (Below.refl _ _)
       have hNW : IsNo (w2.alloc (.cells #[.int .i64 code, .slice A3 m3 d3, .slice B3 1 k3] 62)) (fun b => w1.heap.size + 1 ≤ b) [⟨({ data := #[104, 105, 115, 116, 111, 114, 121] } : ByteArray), ({ data := #[78, 101, 119] } : ByteArray), atOf ep⟩, ⟨({ data := #[109, 111, 100, 101, 108] } : ByteArray), ({ data := #[79, 102] } : ByteArray), atOf j⟩] code (.agg #[.int .i64 code, .slice A3 m3 d3, .slice B3 1 k3]) := IsNo.keepS ⟨hc2, A3, m3, d3, B3, k3, rfl, hr1, hr2⟩ eN.size (Same.of_below eN)
       have hEW := IsErr.step (IsErr.step hE1 hb2) eN
       have B3w := bvia (bvia hb1 hb2) eN
       generalize w2.alloc (.cells #[.int .i64 code, .slice A3 m3 d3, .slice B3 1 k3] 62) = Y at *
       generalize w2.heap.size = nb at *
       have n0 : Y.cell? ⟨nb, 0, none⟩ = some (.int .i64 code) := hnb.cell 0
       have n1 : Y.cell? ⟨nb, 1, none⟩ = some (.slice A3 m3 d3) := hnb.cell 1
       have n2 : Y.cell? ⟨nb, 2, none⟩ = some (.slice B3 1 k3) := hnb.cell 2
       have nl := hnb.lt
       have HRf := hid (refused_step (a := a) [⟨({ data := #[104, 105, 115, 116, 111, 114, 121] } : ByteArray), ({ data := #[78, 101, 119] } : ByteArray), atOf ep⟩, ⟨({ data := #[109, 111, 100, 101, 108] } : ByteArray), ({ data := #[79, 102] } : ByteArray), atOf j⟩] code v1 _ _ _ S' Y (.inr hEW) (.inr hNW) (Hs.out.step B3w) HchL.out)
       clear hr1 hr2 hnb hNW hEW hE1
       repeat' (first | (go_at_call 27; go_must ((with_reducible refine Calls.mono HRf.out ?_); rintro _ w4 ⟨rfl, hb4⟩; have B4 := bvia B3w hb4; dsimp only)) | (go_at_call 18; go_must ((with_reducible refine Calls.mono (wakes8_any (a := a) w4 S' (Hs.out.step B4) (fun b hb => Nat.lt_of_lt_of_le (Hlow.out b hb) (B4).size)) ?_); rintro _ wk ⟨rfl, hbk⟩; dsimp only)) | go_guarded | go_step)
       go_ret
       exact ⟨rfl, bvia B4 hbk⟩
end Go.Proofs.YteggpddlkkjmjaaGreatDoor
