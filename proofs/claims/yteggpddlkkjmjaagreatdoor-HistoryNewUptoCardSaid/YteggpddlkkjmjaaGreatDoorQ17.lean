/- Part of a proof: what functions of the program compute. Conditions: as each theorem says. -/
import Derived.Maps.RangeWalk
import Derived.Test.YteggpddlkkjmjaaGreatDoorQ14
set_option linter.unusedSimpArgs false
set_option linter.unusedVariables false
set_option maxHeartbeats 2000000
set_option maxRecDepth 50000
namespace Go.Proofs.YteggpddlkkjmjaaGreatDoor
open Go Go.RowKit
variable {a : Nat → Addr}
theorem takes_text (e : El) (w : World) (mb : Nat) (S' : Nat → Prop) (hr : rightC e.char = false) (hs : Sents w S' a) :
 Calls Tryz.prog 93 #[.pointer (some ⟨mb, 0, none⟩), .agg #[.int .i64 e.epoch, .int .i64 e.rep, .int .i64 e.num, .int .i32 e.char, .int .i64 e.hides]] w fun r w' => r = .returned (reason (a 3)) ∧ Below w.heap.size w w' := by
 have b1 : Below w.heap.size w (w.alloc (.cells #[.int .i64 e.epoch, .int .i64 e.rep, .int .i64 e.num, .int .i32 e.char, .int .i64 e.hides] 113)) := balloc (Below.refl _ _)
 have HR := hid (fun W => right_any e.char W)
 rw [hr] at HR
 have s3 := (hs.step b1).cell 3 (by omega) (by omega)
 simp only [gOf, reason] at s3
 clear hr
 go_enter Tryz.func93, Tryz.ntmps93
 repeat' (first | (go_at_call 125; go_must ((with_reducible refine Calls.mono (HR.out _) ?_); rintro _ _ ⟨rfl, rfl⟩; dsimp only)) | go_step)
 go_ret
 exact ⟨rfl, b1⟩
theorem takes_arg (e : El) (w : World) (mb : Nat) (S' : Nat → Prop) (hr : rightC e.char = true) (hf : fairH e.hides = false) (hs : Sents w S' a) :
 Calls Tryz.prog 93 #[.pointer (some ⟨mb, 0, none⟩), .agg #[.int .i64 e.epoch, .int .i64 e.rep, .int .i64 e.num, .int .i32 e.char, .int .i64 e.hides]] w fun r w' => r = .returned (reason (a 1)) ∧ Below w.heap.size w w' := by
 have b1 : Below w.heap.size w (w.alloc (.cells #[.int .i64 e.epoch, .int .i64 e.rep, .int .i64 e.num, .int .i32 e.char, .int .i64 e.hides] 113)) := balloc (Below.refl _ _)
 have HR := hid (fun W => right_any e.char W)
 have HH := hid (fun W => hideable_any e.hides W)
 rw [hr] at HR
 rw [hf] at HH
 have s1 := (hs.step b1).cell 1 (by omega) (by omega)
 simp only [gOf, reason] at s1
 clear hr hf
 go_enter Tryz.func93, Tryz.ntmps93
 repeat' (first | (go_at_call 125; go_must ((with_reducible refine Calls.mono (HR.out _) ?_); rintro _ _ ⟨rfl, rfl⟩; dsimp only)) | (go_at_call 126; go_must ((with_reducible refine Calls.mono (HH.out _) ?_); rintro _ _ ⟨rfl, rfl⟩; dsimp only)) | go_step)
 go_ret
 exact ⟨rfl, b1⟩
theorem takes_no (e : El) (w : World) (mb gt gm : Nat) (s : List Nm) (K code : Nat) (S' : Nat → Prop) (h1 : Blk w mb 110 #[.pointer (some ⟨gt, 0, none⟩), .map (some gm)]) (h5 : IsIds w gm K s) (hin : e.nm.In) (hw : wrongS s e = code) (h0 : code ≠ 0) (hs : Sents w S' a) :
 Calls Tryz.prog 93 #[.pointer (some ⟨mb, 0, none⟩), .agg #[.int .i64 e.epoch, .int .i64 e.rep, .int .i64 e.num, .int .i32 e.char, .int .i64 e.hides]] w fun r w' => r = .returned (reason (a code)) ∧ Below w.heap.size w w' := by
 subst hw
 rcases wrongS_cases s e with ⟨h, h2⟩ | ⟨h, h2, h3⟩ | ⟨h, h2, h3, h4⟩ | ⟨h, _⟩
 · rw [h]; exact takes_text e w mb S' h2 hs
 · rw [h]; exact takes_arg e w mb S' h2 h3 hs
 · rw [h]; exact takes_twice e w mb gt gm s K h1 h5 ⟨h2, h3, hin⟩ h4 hs
 · exact absurd h h0
theorem mof_no (w : World) (A : Option Addr) (n c j code : Nat) (ls : List El) (ej : El) (SB S' : Nat → Prop) (hr : Row w SB A n c ls) (hn : n ≤ 1048576) (hg : ∀ e ∈ ls.take j, e.Good) (hd : ((ls.take j).map El.nm).Nodup) (hj : ls[j]? = some ej) (hin : ej.nm.In) (hw : wrongS ((ls.take j).map El.nm) ej = code) (h0 : code ≠ 0) (h13 : code ≤ 13) (hs : Sents w S' a) :
 Calls Tryz.prog 55 #[.slice A n c] w fun r w' => ∃ v, r = .returned (.tuple #[.pointer none, v]) ∧ IsErr w' (Fr w S') a [⟨({ data := #[109, 111, 100, 101, 108] } : ByteArray), ({ data := #[79, 102] } : ByteArray), atOf j⟩] code v ∧ Below w.heap.size w w' := by
 have HN := hid (mnew_any w)
 have Hr := hid hr
 have Hg := hid hg
 have Hd := hid hd
 have Hj := hid (And.intro hj (And.intro hin (And.intro hw hs)))
 have hnc := hr.2.1
 have hjl : j < n := by rw [← hr.1]; exact (List.getElem?_eq_some_iff.1 hj).1
 have HE := hid (fun W => new_err (S := S') (a := a) ({ data := #[109, 111, 100, 101, 108] } : ByteArray) ({ data := #[79, 102] } : ByteArray) j [] code (reason (a code)) W ⟨by omega, h13, rfl⟩)
 clear hr hg hd hj hin hw hs
 go_enter Tryz.func55, Tryz.ntmps55
 repeat' (first | (go_at_call 92; go_must ((with_reducible refine Calls.mono HN.out ?_); rintro _ w1 ⟨mb, rfl, hM, hb1⟩; dsimp only)) | go_step)
 obtain ⟨gt, gm, p, T, h1, h2, h3, h4, h5, h6, h7, h8, h9⟩ := hM
 obtain ⟨rfl, rfl⟩ := h3.empty h4
 clear h4 h9 h3 h2 h7
 go_loopw [11] (fun i wr => ∃ k : Nat, i = .int .i64 k ∧ k ≤ j ∧ Blk wr mb 110 #[.pointer (some ⟨gt, 0, none⟩), .map (some gm)] ∧ IsIds wr gm k ((ls.take k).map El.nm) ∧ Below w.heap.size w wr) (fun i _ => n - (intOf i).toNat)
 case atStart => exact ⟨0, rfl, Nat.zero_le _, h1, by simpa using h5, hb1⟩
 case round =>
  obtain ⟨k, rfl, hk, g1, g5, hbr⟩ := hrel
  have hkn : k < n := by omega
  obtain ⟨b, off, e, rfl, hS, he, c0, c1, c2, c3, c4⟩ := (Hr.out.step hbr).at_ hkn
  have hbl := lt_of_cell' c0
  have eb : Below wr.heap.size wr (wr.alloc (.cells #[.int .i64 e.epoch, .int .i64 e.rep, .int .i64 e.num, .int .i32 e.char, .int .i64 e.hides] 113)) := (Below.refl _ _).alloc (Nat.le_refl _) _
  have g1b := g1.step eb
  have g5b := g5.heap (eb.block _ g5.lt)
  have heb := Blk.new wr 113 #[.int .i64 e.epoch, .int .i64 e.rep, .int .i64 e.num, .int .i32 e.char, .int .i64 e.hides]
  by_cases hlt : k < j
  · have heg := Hg.out e (List.mem_of_getElem? (by rw [List.getElem?_take, if_pos hlt]; exact he))
    have hnot : e.nm ∉ (ls.take k).map El.nm := by
     intro hm
     have hd := Hd.out
     have htk := take_snoc_el he
     have h1 : ((ls.take (k + 1)).map El.nm).Nodup := by
      have h2 : ls.take (k + 1) = (ls.take j).take (k + 1) := by rw [List.take_take, Nat.min_eq_left hlt]
      rw [h2, List.map_take]
      exact hd.sublist (List.take_sublist _ _)
     rw [htk, List.map_append, List.nodup_append] at h1
     exact h1.2.2 _ hm _ (by simp) rfl
    have HT := hid (takes_ok e _ mb gt gm _ k g1b g5b heg hnot)
    have He := hid (And.intro he heg)
    have Hkeep := hid (And.intro g1b (And.intro g5b heb))
    clear he heg hnot g1 g5 g1b g5b heb
    repeat' (first | (go_at_call 93; go_must ((with_reducible refine Calls.mono HT.out ?_); rintro _ w3 ⟨rfl, hb3⟩; have k1 := Hkeep.out.1.step hb3; have ke := Hkeep.out.2.2.step hb3; obtain ⟨w4, hrun, hI4, hT4⟩ := ((Hkeep.out.2.1.heap (hb3.block _ Hkeep.out.2.1.lt)).drew).put e.nm He.out.2.nm (by omega); have m1 := k1.cell 1; have x0 := ke.cell 0; have x1 := ke.cell 1; have x2 := ke.cell 2; simp at m1 x0 x1 x2; simp only [Nm.val, El.nm] at hrun; have HI4 := hid (And.intro hI4 hT4); clear hI4 hT4; dsimp only)) | ((with_reducible refine region_at 8 ?_); refine wp_region_order (rgl [0,4,8,12,16,20,24,28,35]) (by kernel_rfl) (by kernel_rfl) (by kernel_rfl) rfl rfl ?_) | (with_reducible refine Keep.last ?_) | ((with_reducible refine WpH.here ?_); first | (refine WpH.nil ?_; refine NoP.normal ?_) | ((first | refine WpH.load (by rfl) (by rfl) (by go_simp; rfl) ?_ | refine WpH.pure (by rfl) (fun w_ => by go_simp; (try go_bits); rfl) ?_); go_frame) | (refine WpH.wild1 (by rfl) (fun _ _ => ?_))) | go_step)
    go_roundw
    case rel =>
     have b3 := eb.trans (hb3.mono eb.size)
     have B3 := hbr.trans (b3.mono hbr.size)
     have hbut := But.of_turned HI4.out.2
     have n1 := HI4.out.1
     have e1 := Hkeep.out.2.1.ne_blk Hkeep.out.1
     refine ⟨k + 1, by go_num, by omega, hbut.blk k1.drew e1, HI4.out.1.eq fun i => ?_, hbut.below_new (w1 := w3.drew) B3.drew h8⟩
     rw [take_snoc_el He.out.1]
     simp [or_comm]
    case measure => simp [intOf]; omega
  · obtain rfl : k = j := by omega
    obtain rfl := Option.some.inj (he.symm.trans Hj.out.1)
    have HT := hid (takes_no e _ mb gt gm _ k code S' g1b g5b Hj.out.2.1 Hj.out.2.2.1 h0 (Hj.out.2.2.2.step (bvia hbr eb)))
    unfold reason at HT
    clear he g1 g5 g1b g5b heb
    repeat' (first | (go_at_call 93; go_must ((with_reducible refine Calls.mono HT.out ?_); rintro _ w3 ⟨rfl, hb3⟩; dsimp only)) | (go_at_call 51; go_must ((with_reducible refine Calls.mono (HE.out _) ?_); rintro _ w4 ⟨v, rfl, hv, hb4⟩; dsimp only)) | go_step)
    go_ret2
    have hbb := bvia (bvia hbr eb) hb3
    exact ⟨v, rfl, hv.cut hbb.size, bvia hbb hb4⟩
end Go.Proofs.YteggpddlkkjmjaaGreatDoor
namespace Go.Proofs.YteggpddlkkjmjaaGreatDoor
open Go Go.RowKit
theorem AllRight.good {ls : List El} (h : AllRight ls) (hin : ∀ e ∈ ls, e.nm.In) : ∀ e ∈ ls, e.Good := by
 intro e he
 obtain ⟨k, hk, rfl⟩ := List.getElem_of_mem he
 have hw := h k _ (List.getElem?_eq_getElem hk)
 rcases wrongS_cases ((ls.take k).map El.nm) ls[k] with ⟨h1, _⟩ | ⟨h1, _⟩ | ⟨h1, _⟩ | ⟨_, h2, h3, _⟩
 · omega
 · omega
 · omega
 · exact ⟨h2, h3, hin _ he⟩
end Go.Proofs.YteggpddlkkjmjaaGreatDoor
