/- barrowlaw05.ModelCopy: the walk: it returns true, old memory stands. Conditions: the row, the calls and the reasons lie in memory, the numbers fit their kinds. -/
import Derived.Test.YtfihjajllfihjaaGreatDoorP42
namespace Go.Proofs.YtfihjajllfihjaaGreatDoor
set_option linter.unusedSimpArgs false
set_option linter.unusedVariables false
open Go Go.RowKit
variable {a : Nat → Addr}
theorem mcopy_any (w : World) (S : Nat → Prop) (mb : Nat) (l : List El) (K : Nat) (h : Mdl w S mb l K) (hl : l.length ≤ 1048576) (hnd : (l.map El.nm).Nodup) :
    Calls Tryz.prog 17 #[.pointer (some ⟨mb, 0, none⟩)] w fun r w' => ∃ mc, r = .returned (.pointer (some ⟨mc, 0, none⟩)) ∧ Mdl w' (fun b => w.heap.size ≤ b) mc l l.length ∧ Below w.heap.size w w' := by
  have HE := hid (melements_any w S mb l K h (by omega))
  have HG := hid h.allGood
  have Hd := hid hnd
  have hgd := HG.out
  have Hl := hid hl
  obtain ⟨gt, gm, p, T, -, -, -, -, -, -, -, -, h9⟩ := h
  have H9 := hid h9
  clear hnd hgd h9 hl
  go_enter Tryz.func17, Tryz.ntmps17
  repeat' (first | (go_at_call 16; go_must ((with_reducible refine Calls.mono HE.out ?_); rintro _ w1 ⟨A1, c1, rfl, ho, hb1⟩; have HO := hid (mof_ok w1 A1 l.length c1 l (fun _ => True) (ho.row fun _ _ _ => trivial) Hl.out H9.out Hd.out); clear ho; dsimp only)) | (go_at_call 27; go_must ((with_reducible refine Calls.mono HO.out ?_); rintro _ w2 ⟨mc, rfl, hM, hb2⟩; dsimp only)) | go_values | go_skip | go_guarded | go_step | go_upon | go_back)
  (all_goals (try trace_state))
  go_ret
  exact ⟨mc, rfl, hM.more fun b _ h => Nat.le_trans hb1.size h, bvia hb1 hb2⟩
theorem Row.reS {w : World} {S S' : Nat → Prop} {A : Option Addr} {n c : Nat} {es : List El} (h : Row w S A n c es) (hS : 0 < n → ∀ b off, A = some ⟨b, off, none⟩ → S b → S' b) : Row w S' A n c es := by
  refine ⟨h.1, h.2.1, h.2.2.1, fun hn => ?_⟩
  obtain ⟨b, off, e, hs, hc⟩ := h.2.2.2 hn
  exact ⟨b, off, e, hS hn b off e hs, hc⟩
theorem MPair.cut {w : World} {pb mb K base : Nat} {S : Nat → Prop} {l : List El} (h : MPair w pb mb S l K base) : MPair w pb mb (fun b => S b ∧ b < w.heap.size) l K base := by
  obtain ⟨A, c, hB, hr, hM, hS, hbp, hnd⟩ := h
  exact ⟨A, c, hB, hr.more fun b _ h => ⟨h.1, h.2.1, fun h' => h.2.2 h'.1⟩, hM.more fun b h1 h2 => ⟨h2, h1⟩, fun b h => hS b h.1, hbp, hnd⟩
/-- two pairs, apart -/
structure Two (w : World) (pb mb qb mq base : Nat) (S T : Nat → Prop) (l k : List El) (K J : Nat) : Prop where
  p : MPair w pb mb S l K base
  q : MPair w qb mq T k J base
  ne : pb ≠ qb
  pS : ∀ b, S b → b < w.heap.size ∧ ¬ T b ∧ b ≠ qb
  qT : ∀ b, T b → b < w.heap.size ∧ ¬ S b ∧ b ≠ pb
  pr : ∃ A c, w.cell? ⟨pb, 1, none⟩ = some (.slice A l.length c) ∧ Row w (fun b => b ≠ qb ∧ ¬ T b) A l.length c l
  qr : ∃ A c, w.cell? ⟨qb, 1, none⟩ = some (.slice A k.length c) ∧ Row w (fun b => b ≠ pb ∧ ¬ S b) A k.length c k
theorem Two.symm {w : World} {pb mb qb mq base : Nat} {S T : Nat → Prop} {l k : List El} {K J : Nat} (h : Two w pb mb qb mq base S T l k K J) : Two w qb mq pb mb base T S k l J K :=
  ⟨h.q, h.p, h.ne.symm, h.qT, h.pS, h.qr, h.pr⟩
theorem slice_inj {A B : Option Addr} {n m c d : Nat} (h : (some (Value.slice A n c)) = some (.slice B m d)) : A = B ∧ n = m ∧ c = d := by
  injection h with h
  injection h with h1 h2 h3
  exact ⟨h1, h2, h3⟩
theorem Two.did {w w' : World} {pb mb qb mq base : Nat} {S T : Nat → Prop} {l k : List El} {K J : Nat} (h : Two w pb mb qb mq base S T l k K J) (hD : Did w w' pb mb S l K base) :
    ∃ S' l' K', Two w' pb mb qb mq base S' T l' k K' J ∧ l'.length ≤ l.length + 1 ∧ K' ≤ K + 1 := by
  obtain ⟨S3, l3, K3, hP3, hl3, hK3, hS3, hO3, hNR⟩ := hD
  have hz := hO3.size
  have hql := h.q.cell.2
  have hpl := h.p.cell.2
  have hqk : w'.heap[qb]? = w.heap[qb]? := hO3.block qb hql (fun h' => by
    rcases h' with h' | h'
    · exact (h.pS _ h').2.2 rfl
    · exact h.ne h'.symm)
  have hrowq : ∀ {A : Option Addr} {c : Nat}, w.cell? ⟨qb, 1, none⟩ = some (.slice A k.length c) → Row w (fun b => b ≠ pb ∧ ¬ S b) A k.length c k := fun {A c} e => by
    obtain ⟨A1, c1, e1, r1⟩ := h.qr
    obtain ⟨rfl, -, rfl⟩ := slice_inj (e1.symm.trans e)
    exact r1
  obtain ⟨Aq, cq, hBq, hrq, hMq, hTq, hbq, hndq⟩ := h.q
  have hcq := hBq.cell 1
  simp at hcq
  have hrq2 := hrowq hcq
  have hBq' : Blk w' qb 37 _ := hqk.trans hBq
  have hcq' := hBq'.cell 1
  simp at hcq'
  have keepq : ∀ b, b < w.heap.size → b ≠ pb → ¬ S b → w'.heap[b]? = w.heap[b]? := fun b hb h1 h2 => hO3.block b hb (fun h' => by
    rcases h' with h' | h'
    · exact h2 h'
    · exact h1 h')
  refine ⟨fun b => S3 b ∧ b < w'.heap.size, l3, K3, ⟨hP3.cut, ⟨Aq, cq, hBq', ?_, ?_, hTq, hbq, hndq⟩, h.ne, fun b hb => ⟨hb.2, fun ht => ?_, fun e => ?_⟩, fun b hb => ⟨Nat.lt_of_lt_of_le (h.qT b hb).1 hz, fun hs => ?_, (h.qT b hb).2.2⟩, ?_, ?_⟩, hl3, hK3⟩
  · have hr' : Row w (fun b => base ≤ b ∧ b ≠ qb ∧ ¬ T b ∧ b ≠ pb ∧ ¬ S b) Aq k.length cq k := hrq.reS fun hn b off e hs => by
      obtain ⟨b2, off2, e2, hs2, -⟩ := hrq2.2.2.2 hn
      rw [e] at e2
      injection e2 with e2
      injection e2 with e2
      subst e2
      exact ⟨hs.1, hs.2.1, hs.2.2, hs2.1, hs2.2⟩
    exact (hr'.keep (w' := w') fun b hb hl => keepq b hl hb.2.2.2.1 hb.2.2.2.2).more fun b _ hb => ⟨hb.1, hb.2.1, hb.2.2.1⟩
  · exact hMq.keep fun b hl hb => keepq b hl (h.qT b hb).2.2 (h.qT b hb).2.1
  · exact (h.pS b (hS3 b (h.qT b ht).1 hb.1)).2.1 ht
  · subst e
    exact (h.pS _ (hS3 _ hql hb.1)).2.2 rfl
  · exact (h.pS b (hS3 b (h.qT b hb).1 hs.1)).2.1 hb
  · obtain ⟨A3, c3, e3, r3⟩ := hP3.row1
    rcases hNR with e4 | ⟨A4, c4, e4, r4⟩
    · obtain ⟨A1, c1, e1, r1⟩ := h.pr
      obtain ⟨rfl, hll, rfl⟩ := slice_inj ((e3.symm.trans e4).trans e1)
      refine ⟨A3, c3, e3, r3.reS fun hn b off e _ => ?_⟩
      obtain ⟨b2, off2, e2, hs2, -⟩ := r1.2.2.2 (by omega)
      rw [e] at e2
      injection e2 with e2
      injection e2 with e2
      subst e2
      exact hs2
    · refine ⟨A4, c4, e4, r4.more fun b _ hb => ⟨by omega, fun ht => ?_⟩⟩
      have := (h.qT b ht).1
      omega
  · refine ⟨Aq, cq, hcq', ?_⟩
    have hr' : Row w (fun b => b < w.heap.size ∧ b ≠ pb ∧ ¬ S b) Aq k.length cq k := hrq2.more fun b hb h' => ⟨hb, h'.1, h'.2⟩
    exact (hr'.keep (w' := w') fun b hb hl => keepq b hl hb.2.1 hb.2.2).more fun b _ hb => ⟨hb.2.1, fun hs => hb.2.2 (hS3 b hb.1 hs.1)⟩
theorem Two.step {w w' : World} {pb mb qb mq base : Nat} {S T : Nat → Prop} {l k : List El} {K J : Nat} (h : Two w pb mb qb mq base S T l k K J) (hb : Below w.heap.size w w') : Two w' pb mb qb mq base S T l k K J := by
  obtain ⟨A, c, e1, r1⟩ := h.pr
  obtain ⟨B, d, e2, r2⟩ := h.qr
  exact ⟨h.p.step hb, h.q.step hb, h.ne, fun b hs => ⟨Nat.lt_of_lt_of_le (h.pS b hs).1 hb.size, (h.pS b hs).2⟩, fun b hs => ⟨Nat.lt_of_lt_of_le (h.qT b hs).1 hb.size, (h.qT b hs).2⟩, ⟨A, c, (cell_below hb e1).trans e1, r1.step hb⟩, ⟨B, d, (cell_below hb e2).trans e2, r2.step hb⟩⟩
set_option maxRecDepth 100000 in
set_option maxHeartbeats 4000000 in
theorem mcop_no (w : World) (A B : Option Addr) (n c m d j : Nat) (ls : List El) (ej : El) (S S' : Nat → Prop) (hr : Row w S A n c ls) (hg : AllRight ((ls.take (min n 100)).take j)) (hj : (ls.take (min n 100))[j]? = some ej) (hw : wrongS (((ls.take (min n 100)).take j).map El.nm) ej ≠ 0) (hin : ∀ e ∈ ls, e.In) (hs : Sents w S' a) :
    Calls Tryz.prog 5 #[.slice A n c, .slice B m d] w fun e w' => e = .returned (.bool true) ∧ Below w.heap.size w w' := by
  have HB := hid (begun5_no w A n c j ls ej S S' hr hg hj hw hin hs)
  have HK := hid wakes5_any
  clear hr hg hj hw hin hs
  go_enter Tryz.func5, Tryz.ntmps5
  repeat' (first | (go_at_call 7; go_must ((with_reducible refine Calls.mono HB.out ?_); rintro _ w1 ⟨rfl, hb1⟩; dsimp only)) | (go_at_call 8; go_must ((with_reducible refine Calls.mono (HK.out _) ?_); rintro _ w9 ⟨rfl, hb9⟩; dsimp only)) | go_values | go_skip | go_guarded | go_step | go_upon | go_back)
  (all_goals (try trace_state))
  go_ret
  exact ⟨rfl, bvia hb1 hb9⟩
set_option maxRecDepth 100000 in
set_option maxHeartbeats 8000000 in
theorem mcop_ok (w : World) (A B : Option Addr) (n c m d : Nat) (ls : List El) (os : List Op5) (S S' SO : Nat → Prop) (hr : Row w S A n c ls) (ho : GRow w SO B m d os) (hio : ∀ o ∈ os, o.In) (hg : AllRight (ls.take (min n 100))) (hin : ∀ e ∈ ls, e.In) (hs : Sents w S' a) :
    Calls Tryz.prog 5 #[.slice A n c, .slice B m d] w fun e w' => e = .returned (.bool true) ∧ Below w.heap.size w w' := by
  have HB := hid (begun5_ok w A n c ls S hr hg hin)
  have HK := hid wakes5_any
  have hL : (ls.take (min n 100)).length ≤ 100 := by rw [List.length_take]; omega
  generalize ls.take (min n 100) = L at *
  have Hs := hid hs.narrow
  have Ho := hid (ho.more (S' := fun b => b < w.heap.size) fun b h _ => h)
  have Hio := hid hio
  have hmm := ho.len_le
  unfold maxLen at hmm
  clear hr hg hin hs ho hio
  go_enter Tryz.func5, Tryz.ntmps5
  repeat' (first | (go_at_call 7; go_must ((with_reducible refine Calls.mono HB.out ?_); rintro _ w1 ⟨⟨pb, mb, SM, rfl, hP⟩, hb1⟩; obtain ⟨Ap, cp, q0, q1, ql, hrp⟩ := hP.open_; have HC := hid (by obtain ⟨-, -, -, -, hMd, -, -, hnd⟩ := hP; exact mcopy_any w1 SM mb L _ hMd (by omega) hnd); clear hrp; dsimp only)) | (go_at_call 17; go_must ((with_reducible refine Calls.mono HC.out ?_); rintro _ w2 ⟨mq, rfl, hMq, hb2⟩; obtain ⟨q0b, q1b⟩ := And.intro ((cell_below hb2 q0).trans q0) ((cell_below hb2 q1).trans q1); have qlb := Nat.lt_of_lt_of_le ql hb2.size; dsimp only)) | (with_reducible refine stop_region 8 ?_) | go_values | go_skip | go_guarded | go_step | go_upon | go_back)
  refine Stop.go ?_
  have hs1 := hb1.size
  have hs2 := hb2.size
  have hb3 : Below w2.heap.size w2 (w2.alloc (.cells #[.pointer (some ⟨mq, 0, none⟩), .slice Ap L.length cp] 37)) := balloc (Below.refl _ _)
  have hTw : Two (w2.alloc (.cells #[.pointer (some ⟨mq, 0, none⟩), .slice Ap L.length cp] 37)) pb mb w2.heap.size mq w.heap.size (fun b => SM b ∧ b < w1.heap.size) (fun b => w1.heap.size ≤ b ∧ b < w2.heap.size) L L L.length L.length := by
    obtain ⟨A0, c0, hB0, hr0, hM0, hS0, hbp0, hnd0⟩ := hP.cut
    have e0 := hB0.cell 1
    simp at e0
    obtain ⟨rfl, -, rfl⟩ := slice_inj (e0.symm.trans q1)
    have hz3 : w2.heap.size < (w2.alloc (.cells #[.pointer (some ⟨mq, 0, none⟩), .slice A0 L.length c0] 37)).heap.size := (Blk.new w2 37 #[.pointer (some ⟨mq, 0, none⟩), .slice A0 L.length c0]).lt
    have hr1 : Row w1 (fun b => w.heap.size ≤ b ∧ b ≠ pb ∧ ¬ SM b ∧ b < w1.heap.size) A0 L.length c0 L := hr0.more fun b hl h => ⟨h.1, h.2.1, fun h' => h.2.2 ⟨h', hl⟩, hl⟩
    have hr3 := (hr1.step hb2).step hb3
    have hBq := Blk.new w2 37 #[.pointer (some ⟨mq, 0, none⟩), .slice A0 L.length c0]
    have eq1 : (w2.alloc (.cells #[.pointer (some ⟨mq, 0, none⟩), .slice A0 L.length c0] 37)).cell? ⟨w2.heap.size, 1, none⟩ = some (.slice A0 L.length c0) := hBq.cell 1
    refine ⟨(hP.cut.step hb2).step hb3, ⟨A0, c0, hBq, hr3.more fun b _ h => ⟨h.1, by omega, fun h' => by omega⟩, (hMq.more (S' := fun b => w1.heap.size ≤ b ∧ b < w2.heap.size) fun b h1 h2 => ⟨h2, h1⟩).step hb3, fun b h => ⟨by omega, by omega⟩, by omega, hnd0⟩, by omega, fun b h => ⟨by omega, fun h' => by omega, by omega⟩, fun b h => ⟨by omega, fun h' => by omega, by omega⟩, ⟨A0, c0, (cell_below hb3 q1b).trans q1b, hr3.more fun b _ h => ⟨by omega, fun h' => by omega⟩⟩, ⟨A0, c0, eq1, hr3.more fun b _ h => ⟨h.2.1, fun h' => h.2.2.1 h'.1⟩⟩⟩
  have hbw : Below w.heap.size w (w2.alloc (.cells #[.pointer (some ⟨mq, 0, none⟩), .slice Ap L.length cp] 37)) := bvia (bvia hb1 hb2) hb3
  have hqb : w.heap.size ≤ w2.heap.size := by omega
  generalize w2.alloc (.cells #[.pointer (some ⟨mq, 0, none⟩), .slice Ap L.length cp] 37) = w3 at *
  generalize w2.heap.size = qb at *
  clear hP hMq q0 q1 ql q0b q1b qlb hb3 hb2 hb1
  repeat' (first | go_values | go_skip | go_guarded | go_step | go_upon | go_back)
  go_loopw [9] (fun i wr => ∃ (k : Nat) (l r : List El) (S T : Nat → Prop) (K J : Nat), i = .int .i64 k ∧ k ≤ m ∧ k ≤ 60 ∧ Two wr pb mb qb mq w.heap.size S T l r K J ∧ l.length ≤ 100 + k ∧ r.length ≤ 100 + k ∧ K ≤ 100 + k ∧ J ≤ 100 + k ∧ Below w.heap.size w wr) (fun i _ => m - (intOf i).toNat)
  case atStart => exact ⟨0, L, L, _, _, _, _, rfl, Nat.zero_le _, Nat.zero_le _, hTw, hL, hL, hL, hL, hbw⟩
  case round =>
    clear hTw hbw
    obtain ⟨k, l, r, S, T, K, J, rfl, hk, hk2, hTw, hl, hr, hK, hJ, hbr⟩ := hrel
    by_cases hlt : k < m ∧ k < 60
    · obtain ⟨hlt1, hlt2⟩ := hlt
      have hlt2' : (k : Int) < 60 := by omega
      obtain ⟨b, off, o, rfl, hSb, hbl, hok, hcell⟩ := (Ho.out.step hbr).at_ hlt1
      have io := Hio.out o (List.mem_of_getElem? hok)
      have c0 : wr.cell? ⟨b, off + k * 8, none⟩ = some (.int .i64 o.do_) := hcell 0 _ rfl
      have c1 : wr.cell? ⟨b, off + k * 8 + 1, none⟩ = some (.int .i64 o.i) := hcell 1 _ rfl
      have c2 : wr.cell? ⟨b, off + k * 8 + 2, none⟩ = some (.int .i64 o.n) := hcell 2 _ rfl
      have c3 : wr.cell? ⟨b, off + k * 8 + 3, none⟩ = some (.int .i64 o.e.epoch) := hcell 3 _ rfl
      have c4 : wr.cell? ⟨b, off + k * 8 + 4, none⟩ = some (.int .i64 o.e.rep) := hcell 4 _ rfl
      have c5 : wr.cell? ⟨b, off + k * 8 + 5, none⟩ = some (.int .i64 o.e.num) := hcell 5 _ rfl
      have c6 : wr.cell? ⟨b, off + k * 8 + 6, none⟩ = some (.int .i32 o.e.char) := hcell 6 _ rfl
      have c7 : wr.cell? ⟨b, off + k * 8 + 7, none⟩ = some (.int .i64 o.e.hides) := hcell 7 _ rfl
      have HTw := hid hTw
      have hqb' := hTw.q
      have hpb' := hTw.p
      clear hcell hTw hok
      rcases Int.emod_two_eq k with hd | hd
      · have ht : ((k : Int) % 2 == 0) = true := by simpa using hd
        have HD := hid (does_any (a := a) wr pb mb S (fun b => b < w.heap.size) l K w.heap.size o.do_ o.n o.e hpb' (by omega) (by omega) (Hs.out.step hbr) (fun b h => h) io.e o.i io.i)
        clear hqb' hpb' io
        repeat' (first | (go_at_call 9; go_must ((with_reducible refine Calls.mono HD.out ?_); rintro _ w3 ⟨rfl, hD3⟩; dsimp only)) | go_values | go_skip | go_guarded | go_step | go_upon | go_back)
        (all_goals (try trace_state))
        go_roundw
        case rel =>
          have hbw3 := Did.below HTw.out.p hD3 hbr (Nat.le_refl _)
          obtain ⟨S3, l3, K3, hT3, hl3, hK3⟩ := HTw.out.did hD3
          exact ⟨k + 1, l3, r, S3, T, K3, J, by go_num, by omega, by omega, hT3, by omega, by omega, by omega, by omega, hbw3⟩
        case measure => simp [intOf]; omega
      · have ht : ((k : Int) % 2 == 0) = false := by simp; omega
        have HD := hid (does_any (a := a) wr qb mq T (fun b => b < w.heap.size) r J w.heap.size o.do_ o.n o.e hqb' (by omega) (by omega) (Hs.out.step hbr) (fun b h => h) io.e o.i io.i)
        clear hqb' hpb' io
        repeat' (first | (go_at_call 9; go_must ((with_reducible refine Calls.mono HD.out ?_); rintro _ w3 ⟨rfl, hD3⟩; dsimp only)) | go_values | go_skip | go_guarded | go_step | go_upon | go_back)
        (all_goals (try trace_state))
        go_roundw
        case rel =>
          have hbw3 := Did.below HTw.out.q hD3 hbr (Nat.le_refl _)
          obtain ⟨S3, l3, K3, hT3, hl3, hK3⟩ := HTw.out.symm.did hD3
          exact ⟨k + 1, l, l3, S, S3, K, K3, by go_num, by omega, by omega, hT3.symm, by omega, by omega, by omega, by omega, hbw3⟩
        case measure => simp [intOf]; omega
    · have HC := hid (same5_any wr pb mb S l K w.heap.size hTw.p (by omega))
      have HC2 := hid (fun W (hb : Below wr.heap.size wr W) => same5_any W qb mq T r J w.heap.size (hTw.q.step hb) (by omega))
      have hne := hTw.ne
      have hcond : ¬ (k : Int) < m ∨ ((k : Int) < m ∧ ¬ (k : Int) < 60) := by omega
      clear hlt hTw
      rcases hcond with h0 | ⟨h0, h1⟩
      all_goals
        repeat' (first | (go_at_call 13; first | (guard_hyp hb8; go_must ((with_reducible refine Calls.mono (HC2.out _ hb8) ?_); rintro _ w7 ⟨rfl, hb7⟩; dsimp only)) | (go_must ((with_reducible refine Calls.mono HC.out ?_); rintro _ w8 ⟨rfl, hb8⟩; dsimp only))) | (go_at_call 8; go_must ((with_reducible refine Calls.mono (HK.out _) ?_); rintro _ w9 ⟨rfl, hb9⟩; dsimp only)) | go_values | go_skip | go_guarded | go_step | go_upon | go_back)
        (all_goals (try trace_state))
        go_ret
        exact ⟨rfl, bvia (bvia hbr (bvia hb8 hb7)) hb9⟩
theorem mcop_true (w : World) (A B : Option Addr) (n c m d : Nat) (ls : List El) (os : List Op5) (S S' SO : Nat → Prop) (hr : Row w S A n c ls) (ho : GRow w SO B m d os) (hio : ∀ o ∈ os, o.In) (hin : ∀ e ∈ ls, e.In) (hs : Sents w S' a) :
    Calls Tryz.prog 5 #[.slice A n c, .slice B m d] w fun e w' => e = .returned (.bool true) ∧ Below w.heap.size w w' := by
  rcases allRight_or (ls.take (min n 100)) with hg | ⟨j, ej, hj, hg, hw⟩
  · exact mcop_ok w A B n c m d ls os S S' SO hr ho hio hg hin hs
  · exact mcop_no w A B n c m d j ls ej S S' hr hg hj hw hin hs
end Go.Proofs.YtfihjajllfihjaaGreatDoor
