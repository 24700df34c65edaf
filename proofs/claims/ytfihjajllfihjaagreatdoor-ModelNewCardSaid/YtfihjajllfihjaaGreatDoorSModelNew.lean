/- barrowlaw05.ModelNew: the walk: it returns true, old memory stands. Conditions: the calls and the reasons lie in memory, the numbers fit their kinds. -/
import Derived.Test.YtfihjajllfihjaaGreatDoorP42
namespace Go.Proofs.YtfihjajllfihjaaGreatDoor
set_option linter.unusedSimpArgs false
set_option linter.unusedVariables false
open Go Go.RowKit
variable {a : Nat → Addr}
set_option maxRecDepth 100000 in
set_option maxHeartbeats 8000000 in
theorem mnews_true (w : World) (B : Option Addr) (m d : Nat) (os : List Op5) (S' SO : Nat → Prop) (ho : GRow w SO B m d os) (hio : ∀ o ∈ os, o.In) (hs : Sents w S' a) :
    Calls Tryz.prog 4 #[.slice B m d] w fun e w' => e = .returned (.bool true) ∧ Below w.heap.size w w' := by
  have HN := hid mnew_any
  have HK := hid wakes5_any
  have Hs := hid hs.narrow
  have Ho := hid (ho.more (S' := fun b => b < w.heap.size) fun b h _ => h)
  have Hio := hid hio
  have hmm := ho.len_le
  unfold maxLen at hmm
  clear hs ho hio
  go_enter Tryz.func4, Tryz.ntmps4
  repeat' (first | (go_at_call 14; first | (guard_hyp hb1; go_must ((with_reducible refine Calls.mono (HN.out _) ?_); rintro _ w2 ⟨mo, rfl, hMo, hb2⟩; dsimp only)) | (go_must ((with_reducible refine Calls.mono (HN.out _) ?_); rintro _ w1 ⟨mb, rfl, hM, hb1⟩; dsimp only))) | (with_reducible refine stop_region 6 ?_) | go_values | go_skip | go_guarded | go_step | go_upon | go_back)
  refine Stop.go ?_
  have hs1 := hb1.size
  have hs2 := hb2.size
  have hb3 : Below w2.heap.size w2 (w2.alloc (.cells #[.pointer (some ⟨mb, 0, none⟩), .slice none 0 0] 37)) := balloc (Below.refl _ _)
  have hP : MPair (w2.alloc (.cells #[.pointer (some ⟨mb, 0, none⟩), .slice none 0 0] 37)) w2.heap.size mb (fun b => w.heap.size ≤ b ∧ b < w1.heap.size) [] 0 w.heap.size :=
    ⟨none, 0, Blk.new w2 37 #[.pointer (some ⟨mb, 0, none⟩), .slice none 0 0], ⟨rfl, Nat.le_refl _, Nat.zero_le _, fun h => absurd h (by simp)⟩, ((hM.more (S' := fun b => w.heap.size ≤ b ∧ b < w1.heap.size) fun b h1 h2 => ⟨h2, h1⟩).step hb2).step hb3, fun b h => ⟨h.1, by omega⟩, by omega, List.nodup_nil⟩
  have hO := (hMo.more (S' := fun b => w1.heap.size ≤ b ∧ b < w2.heap.size) fun b h1 h2 => ⟨h2, h1⟩).step hb3
  have hbw : Below w.heap.size w (w2.alloc (.cells #[.pointer (some ⟨mb, 0, none⟩), .slice none 0 0] 37)) := bvia (bvia hb1 hb2) hb3
  have hsz : w2.heap.size < (w2.alloc (.cells #[.pointer (some ⟨mb, 0, none⟩), .slice none 0 0] 37)).heap.size := hP.cell.2
  generalize w2.alloc (.cells #[.pointer (some ⟨mb, 0, none⟩), .slice none 0 0] 37) = w3 at *
  generalize hpb : w2.heap.size = pb at *
  have Hpb := hid hpb
  clear hM hMo hpb hb3 hb2 hb1
  repeat' (first | go_values | go_skip | go_guarded | go_step | go_upon | go_back)
  go_loopw [6] (fun i wr => ∃ (k : Nat) (l : List El) (S : Nat → Prop) (K : Nat), i = .int .i64 k ∧ k ≤ m ∧ k ≤ 60 ∧ MPair wr pb mb S l K w.heap.size ∧ (∀ b, S b → ¬ (w1.heap.size ≤ b ∧ b < pb)) ∧ l.length ≤ k ∧ K ≤ k ∧ Mdl wr (fun b => w1.heap.size ≤ b ∧ b < pb) mo [] 0 ∧ Below w.heap.size w wr) (fun i _ => m - (intOf i).toNat)
  case atStart => exact ⟨0, [], _, 0, rfl, Nat.zero_le _, Nat.zero_le _, hP, fun b h => by omega, Nat.le_refl _, Nat.le_refl _, hO, hbw⟩
  case round =>
    clear hP hbw hO
    obtain ⟨k, l, S, K, rfl, hk, hk2, hP, hSd, hl, hK, hO, hbr⟩ := hrel
    by_cases hlt : k < m ∧ k < 60
    · obtain ⟨hlt1, hlt2⟩ := hlt
      have hlt2' : (k : Int) < 60 := by omega
      obtain ⟨b, off, o, rfl, hSb, hbl, hok, hcell⟩ := (Ho.out.step hbr).at_ hlt1
      have io := Hio.out o (List.mem_of_getElem? hok)
      have c0 : wr.cell? ⟨b, off + k * 8, none⟩ = some (.int .i64 o.do_) := hcell 0 _ rfl
      have c1 : wr.cell? ⟨b, off + k * 8 + 1, none⟩ = some (.int .i64 o.i) := hcell 1 _ rfl
      have c2 : wr.cell? ⟨b, off + k * 8 + 2, none⟩ = some (.int .i64 o.n) := hcell 2 _ rfl
      have c3 : wr.cell? ⟨b, off + k * 8 + 3, none⟩ = some (.int .i64 o.e.epoch) := hcell 3 _ rfl
      have c4 : wr.cell? ⟨b, off + k * 8 + 4, none⟩ = some (.int .i64 o.e.rep) := hcell 4 _ rfl
      have c5 : wr.cell? ⟨b, off + k * 8 + 5, none⟩ = some (.int .i64 o.e.num) := hcell 5 _ rfl
      have c6 : wr.cell? ⟨b, off + k * 8 + 6, none⟩ = some (.int .i32 o.e.char) := hcell 6 _ rfl
      have c7 : wr.cell? ⟨b, off + k * 8 + 7, none⟩ = some (.int .i64 o.e.hides) := hcell 7 _ rfl
      have HD := hid (does_any (a := a) wr pb mb S (fun b => b < w.heap.size) l K w.heap.size o.do_ o.n o.e hP (by omega) (by omega) (Hs.out.step hbr) (fun b h => h) io.e o.i io.i)
      have HPd := hid (And.intro hP (And.intro hSd hO))
      clear hcell hP io hok hSd hO
      repeat' (first | (go_at_call 9; go_must ((with_reducible refine Calls.mono HD.out ?_); rintro _ w3 ⟨rfl, hD3⟩; dsimp only)) | go_values | go_skip | go_guarded | go_step | go_upon | go_back)
      (all_goals (try trace_state))
      go_roundw
      case rel =>
        have hbw3 := Did.below HPd.out.1 hD3 hbr (Nat.le_refl _)
        obtain ⟨S3, l3, K3, hP3, hl3, hK3, hS3, hO3, -⟩ := hD3
        obtain ⟨hP, hSd, hO⟩ := HPd.out
        have hpl := hP.cell.2
        refine ⟨k + 1, l3, S3, K3, by go_num, by omega, by omega, hP3, fun b h h' => hSd b (hS3 b (by omega) h) h', by omega, by omega, hO.keep fun b hl' h => hO3.block b hl' fun h' => ?_, hbw3⟩
        rcases h' with h' | h'
        · exact hSd b h' h
        · omega
      case measure => simp [intOf]; omega
    · have HC := hid (same5_any wr pb mb S l K w.heap.size hP (by omega))
      have HV := hid (fun W (hb : Below wr.heap.size wr W) => view_any W _ mo [] 0 (hO.step hb) (by simp))
      have HL := hid (fun W (hb : Below wr.heap.size wr W) => mlen_any W _ mo [] 0 (hO.step hb))
      have HE := hid (fun W (hb : Below wr.heap.size wr W) => melements_any W _ mo [] 0 (hO.step hb) (by simp))
      rw [show (viewOf []).toArray = #[] from rfl] at HV
      rw [show (([] : List El).length : Int) = 0 from rfl] at HL
      rw [show ([] : List El).length = 0 from rfl] at HE
      have hcond : ¬ (k : Int) < m ∨ ((k : Int) < m ∧ ¬ (k : Int) < 60) := by omega
      clear hlt
      rcases hcond with h0 | ⟨h0, h1⟩
      all_goals
        repeat' (first | (go_at_call 13; go_must ((with_reducible refine Calls.mono HC.out ?_); rintro _ w8 ⟨rfl, hb8⟩; dsimp only)) | (go_at_call 10; go_must ((with_reducible refine Calls.mono (HL.out _ hb8) ?_); rintro _ _ ⟨rfl, rfl⟩; dsimp only)) | (go_at_call 15; go_must ((with_reducible refine Calls.mono (HV.out _ hb8) ?_); rintro _ w6 ⟨rfl, hb6⟩; have B6 := bvia hb8 hb6; dsimp only)) | (go_at_call 16; go_must ((with_reducible refine Calls.mono (HE.out _ B6) ?_); rintro _ w7 ⟨A7, c7, rfl, -, hb7⟩; have B7 := bvia B6 hb7; dsimp only)) | (go_at_call 8; go_must ((with_reducible refine Calls.mono (HK.out _) ?_); rintro _ w9 ⟨rfl, hb9⟩; dsimp only)) | go_values | go_skip | go_guarded | go_step | go_upon | go_back)
        (all_goals (try trace_state))
        go_ret
        exact ⟨rfl, bvia (bvia hbr B7) hb9⟩
end Go.Proofs.YtfihjajllfihjaaGreatDoor
