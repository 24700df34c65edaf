/- Part of a proof: what functions of the program compute. Conditions: as each theorem says. -/
import Derived.Test.YteggpddlkkjmjaaGreatDoorQ59
import Derived.Test.YteggpddlkkjmjaaGreatDoorQ62
set_option linter.unusedSimpArgs false
set_option linter.unusedVariables false
set_option maxHeartbeats 8000000
set_option maxRecDepth 200000
namespace Go.Proofs.YteggpddlkkjmjaaGreatDoor
open Go Go.RowKit
variable {a : Nat → Addr}
theorem hissues_true (w : World) (A B : Option Addr) (n c m d : Nat) (l : List Int) (ops : List Opn) (S S1 S' : Nat → Prop) (hl : GRow w S A n c (l.map Rn8.mk)) (hli : ∀ e ∈ l, I32 e) (ho : GRow w S1 B m d ops) (hoi : ∀ o ∈ ops, o.In) (hs : Sents w S' a) (hlow : ∀ b, S' b → b < w.heap.size) :
 Calls Tryz.prog 8 #[.slice A n c, .slice B m d] w fun e w' => e = .returned (.bool true) ∧ Below w.heap.size w w' := by
 have hlen : l.length = n := by have := hl.1; rwa [List.length_map] at this
 have hmm := ho.len_le
 unfold maxLen at hmm
 obtain ⟨bs, hbs⟩ : ∃ bs, bs = base8 l (min n 20) := ⟨_, rfl⟩
 have hbl : bs.length ≤ 20 := by have := base8_length l (min n 20); rw [hbs]; omega
 have hbr := hid (hbs ▸ base8_wrong l (min n 20))
 have hbg := hid (hbs ▸ base8_allGood l (min n 20) (by omega))
 have hg0 := hid (hbs ▸ new8_gd l (min n 20) (by omega))
 have HB := hid (base8_any w A n c l S hl hli)
 rw [← hbs] at HB
 have Ho := hid ho
 have Hoi := hid hoi
 have Hs := hid hs
 have Hlow := hid hlow
 clear hl hli ho hoi hs hlow hbs
 go_enter Tryz.func8, Tryz.ntmps8
 repeat' (first | (go_at_call 35; go_must ((with_reducible refine Calls.mono HB.out ?_); rintro _ w1 ⟨A1, c1, rfl, ho1, hb1⟩; have HBG := hid (begun8_any w1 A1 bs.length c1 bs (fun _ => True) (ho1.row fun _ _ _ => trivial) (by omega) hbr.out hbg.out); clear ho1; dsimp only)) | (go_at_call 34; go_must ((with_reducible refine Calls.mono HBG.out ?_); rintro _ w2 ⟨sb, rfl, hS2, hb2⟩; have HS2 := hid (show SitesAt w2 w1.heap.size (fun _ => False) [sb] [newLg 5 bs] bs.length from (SitesAt.nil w1 w1.heap.size (Nat.le_refl _) bs.length).snoc hS2 hb2); clear hS2; dsimp only)) | (with_reducible refine stop_region 4 ?_) | go_step)
 refine Stop.go ?_
 clear HB HBG
 repeat' (first | go_step)
 go_loopw [6] (fun i wr => ∃ (j : Nat) (s : Lg), i = .int .i64 j ∧ j ≤ m ∧ j ≤ 60 ∧ s.Gd j ∧ SitesAt wr w1.heap.size (fun _ => False) [sb] [s] (bs.length + j) ∧ Below w1.heap.size w1 wr) (fun i _ => m - (intOf i).toNat)
 case atStart => exact ⟨0, _, rfl, Nat.zero_le _, Nat.zero_le _, hg0.out, HS2.out, hb2⟩
 case round =>
  clear HS2 hb2
  obtain ⟨j, s, rfl, hj, hj6, hgd, hsit, hbw⟩ := hrel
  have Hsit := hid hsit
  have Hgd := hid hgd
  clear hsit hgd
  have Bwr := bvia hb1 hbw
  by_cases hlt : j < m ∧ j < 60
  · obtain ⟨hlt1, hlt2⟩ := hlt
    have hjm : (j : Int) < (m : Int) := by omega
    have hj60 : (j : Int) < 60 := by omega
    obtain ⟨b, off, o, rfl, -, hbl', hot, hcell⟩ := (Ho.out.step Bwr).at_ hlt1
    have c0 : wr.cell? ⟨b, off + j * 4, none⟩ = some (.int .i64 o.kind) := hcell 0 _ rfl
    have c1 : wr.cell? ⟨b, off + j * 4 + 1, none⟩ = some (.int .i64 o.at_) := hcell 1 _ rfl
    have c2 : wr.cell? ⟨b, off + j * 4 + 2, none⟩ = some (.int .i32 o.char) := hcell 2 _ rfl
    have c3 : wr.cell? ⟨b, off + j * 4 + 3, none⟩ = some (.int .i64 o.rep) := hcell 3 _ rfl
    have hoI := Hoi.out o (List.mem_of_getElem? hot)
    have hgd2 := hid (Hgd.out.issue (by omega) hoI)
    obtain ⟨P, hP⟩ : ∃ P, P = s.issued o := ⟨_, rfl⟩
    have HI1 := hid (sites_issue (a := a) wr w1.heap.size sb (bs.length + j) 0 j (fun _ => False) S' [sb] [s] s o Hsit.out rfl rfl Hgd.out (by omega) (by omega) hoI (Hs.out.step Bwr) (fun b hb => Nat.lt_of_lt_of_le (Hlow.out b hb) hb1.size))
    rw [← hP] at HI1
    simp only [Actn.agg, Opn.agg] at HI1
    unfold Actn.vals at HI1
    clear hcell hot hoI hP
    repeat' (first | (go_at_call 36; go_must ((with_reducible refine Calls.mono HI1.out ?_); rintro _ w3 ⟨rfl, hS3, hB3, -⟩; have HS3 := hid (show SitesAt w3 w1.heap.size (fun _ => False) [sb] [s.issueOf o] (bs.length + j + 1) from hS3); clear hS3; dsimp only)) | (with_reducible refine stop_region 8 ?_) | go_guarded | go_step)
    refine Stop.go ?_
    have e3 : Below w3.heap.size w3 (w3.alloc (.cells #[.int .i64 P.op.kind, .int .i64 P.op.at_, .int .i32 P.op.char, .int .i64 P.op.rep, .int .i64 P.num, .int .i64 P.clk.c0, .int .i64 P.clk.c1, .int .i64 P.clk.c2, .int .i64 P.clk.c3, .int .i64 P.clk.c4, .int .i64 P.clk.c5, .int .i64 P.clk.c6, .int .i64 P.clk.c7] 46)) := balloc (Below.refl _ _)
    have HS4 := hid (HS3.out.step e3)
    have B4 := (hbw.trans hB3).trans (e3.mono HS3.out.2.1)
    clear HS3 hB3 e3 HI1 c0 c1 c2 c3
    generalize w3.alloc (.cells #[.int .i64 P.op.kind, .int .i64 P.op.at_, .int .i32 P.op.char, .int .i64 P.op.rep, .int .i64 P.num, .int .i64 P.clk.c0, .int .i64 P.clk.c1, .int .i64 P.clk.c2, .int .i64 P.clk.c3, .int .i64 P.clk.c4, .int .i64 P.clk.c5, .int .i64 P.clk.c6, .int .i64 P.clk.c7] 46) = X at *
    obtain ⟨T, hT⟩ := HS4.out.one (k := 0) (sb := sb) (s := s.issueOf o) rfl rfl
    have HSM := hid (site_same X w1.heap.size sb _ T _ hT (by have := hgd2.out.snd.acts; omega) (by have := hgd2.out.snd.l; omega))
    clear hT
    repeat' (first | (go_at_call 33; go_must ((with_reducible refine Calls.mono HSM.out ?_); rintro _ w5 ⟨rfl, hb5⟩; dsimp only)) | go_guarded | go_step)
    go_roundw
    case rel => exact ⟨j + 1, _, by go_num, by omega, by omega, hgd2.out, HS4.out.step hb5, bvia B4 hb5⟩
    case measure => simp [intOf]; omega
  · by_cases h1 : j < m
    · have hjm : (j : Int) < (m : Int) := by omega
      have hj60 : ¬ (j : Int) < 60 := by omega
      clear hlt
      repeat' (first | (go_at_call 18; go_must ((with_reducible refine Calls.mono (wakes8_any (a := a) wr S' (Hs.out.step Bwr) (fun b hb => Nat.lt_of_lt_of_le (Hlow.out b hb) (Bwr).size)) ?_); rintro _ w9 ⟨rfl, hb9⟩; dsimp only)) | go_guarded | go_step)
      go_ret
      exact ⟨rfl, bvia Bwr hb9⟩
    · have hjm : ¬ (j : Int) < (m : Int) := by omega
      clear hlt
      repeat' (first | (go_at_call 18; go_must ((with_reducible refine Calls.mono (wakes8_any (a := a) wr S' (Hs.out.step Bwr) (fun b hb => Nat.lt_of_lt_of_le (Hlow.out b hb) (Bwr).size)) ?_); rintro _ w9 ⟨rfl, hb9⟩; dsimp only)) | go_guarded | go_step)
      go_ret
      exact ⟨rfl, bvia Bwr hb9⟩
end Go.Proofs.YteggpddlkkjmjaaGreatDoor
namespace Go.Proofs.YteggpddlkkjmjaaGreatDoor
open Go Go.RowKit Go.ChangeShapes Go.WideShapes Go.ChangeAt Go.Deep
section
variable {H : Type} {enc : TypeId × Value → H} {W : World} {v : Value} {d : DataW H} {p : List MemPlace} {r : Reach} {b0 : Nat}
theorem runes8_of_trod (hv : Value.okWide Tryz.prog W r b0 22 v) (h : DataW.Trod enc Tryz.prog W 0 (fun _ => true) true 22 v d p) :
 ∃ A n c, ∃ es : List Int, v = .slice A n c ∧ GRow W (fun b => b < W.heap.size) A n c (es.map Rn8.mk) ∧ ∀ e ∈ es, I32 e := by
 obtain ⟨fuel, h⟩ := h
 obtain ⟨a', len', cap', rfl⟩ := okWide_slice Tryz.underlying22 hv
 exact runes8_of_cells h
end
end Go.Proofs.YteggpddlkkjmjaaGreatDoor
