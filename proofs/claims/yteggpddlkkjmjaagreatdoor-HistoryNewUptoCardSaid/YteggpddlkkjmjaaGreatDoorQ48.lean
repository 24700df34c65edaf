/- Part of a proof: what functions of the program compute. Conditions: as each theorem says. -/
import Derived.Maps.RangeWalk
import Derived.Test.YteggpddlkkjmjaaGreatDoorQ40
import Derived.Test.YteggpddlkkjmjaaGreatDoorQ41
set_option linter.unusedSimpArgs false
set_option linter.unusedVariables false
set_option maxHeartbeats 8000000
set_option maxRecDepth 100000
namespace Go.Proofs.YteggpddlkkjmjaaGreatDoor
open Go Go.RowKit
theorem Out.turn8 {S : Nat → Prop} {Z A B : World} {t : TypeId} {base : Nat} (h : Out S Z A) (hT : Turn t base A B) (hz : Z.heap.size ≤ base) : Out S Z B :=
 ⟨hT.os.trans h.os, hT.tape.trans h.tape, hT.output.trans h.output, Nat.le_trans h.size hT.size, fun k hk hn => (hT.low k (Nat.lt_of_lt_of_le hk h.size) (by omega)).trans (h.block k hk hn)⟩
theorem Out.begun8 {S : Nat → Prop} {Z A B : World} {l : Nat} (h : Out S Z A) (hB : Begun l A B) (hl : Z.heap.size ≤ l) : Out S Z B :=
 ⟨hB.os.trans h.os, hB.tape.trans h.tape, hB.output.trans h.output, by rw [hB.size]; exact h.size, fun k hk hn => (hB.block k (by omega)).trans (h.block k hk hn)⟩
theorem Out.step8 {S : Nat → Prop} {Z A B : World} (h : Out S Z A) (hb : Below A.heap.size A B) : Out S Z B := h.trans (Out.of_below (S := S) hb) fun _ _ h => h
theorem GOwn.turnT {α : Type} [Enc α] {t u : TypeId} {A B : World} {base b' n c : Nat} {P : Option Addr} {es : List α} (h : GOwn u A base P n c es) (hT : Turn t b' A B) (hu : u ≠ t) : GOwn u B base P n c es := by
 obtain ⟨h1, h2, h3⟩ := h
 refine ⟨h1, h2, ?_⟩
 rcases h3 with h3 | ⟨g, cap, cur, e, hbg, hh, r⟩
 · exact .inl h3
 · exact .inr ⟨g, cap, cur, e, hbg, (hT.cells g cur u (0, 0) hh fun k => hu k.2.1).trans hh, r⟩
theorem GOwn.begunT {α : Type} [Enc α] {u : TypeId} {A B : World} {base l n c : Nat} {P : Option Addr} {es : List α} (h : GOwn u A base P n c es) (hB : Begun l A B) : GOwn u B base P n c es := by
 obtain ⟨h1, h2, h3⟩ := h
 obtain ⟨r, r', hr, -⟩ := hB.record
 refine ⟨h1, h2, ?_⟩
 rcases h3 with h3 | ⟨g, cap, cur, e, hbg, hh, q⟩
 · exact .inl h3
 · exact .inr ⟨g, cap, cur, e, hbg, (hB.block g fun e => by subst e; rw [hr] at hh; cases hh).trans hh, q⟩
def Lg.Epo (s : Lg) : Prop := ∀ e ∈ s.l, e.nm ∈ s.base.map El.nm ∨ e.epoch = s.ep
theorem known_in {s : Lg} {q : Clk} {e : El} (h : s.Epo) (he : e ∈ s.l) : (decide (e.nm ∈ s.base.map El.nm) || hasC q e.nm.rep e.nm.num) = s.inC q e := by
 show (decide (e.nm ∈ s.base.map El.nm) || hasC q e.rep e.num) = (decide (e.nm ∈ s.base.map El.nm) || (decide (e.epoch = s.ep) && hasC q e.rep e.num))
 rcases h e he with h1 | h1
 · rw [decide_eq_true h1, Bool.true_or, Bool.true_or]
 · rw [decide_eq_true h1, Bool.true_and]
structure FI (Z V : World) (nb cb K : Nat) (s : Lg) (q : Clk) (k : Nat) : Prop where
 out : Out (fun b => b = nb ∨ b = cb) Z V
 num : IsNum V nb (K + k) ((s.l.take k).map El.nm)
 row : ∃ A c, Blk V cb 182 #[.slice A k c] ∧ GOwn 4 V Z.heap.size A k c ((s.l.take k).map (s.inC q))
section
variable {Z V V' : World} {nb cb K k l : Nat} {s : Lg} {q : Clk}
theorem FI.turn (h : FI Z V nb cb K s q k) (hT : Turn 3 Z.heap.size V V') (h1 : nb < Z.heap.size) (h2 : cb < Z.heap.size) : FI Z V' nb cb K s q k := by
 obtain ⟨A, c, r1, r2⟩ := h.row
 exact ⟨h.out.turn8 hT (Nat.le_refl _), h.num.heap (hT.low _ h.num.lt h1), A, c, r1.turn hT h2, r2.turnT hT (by decide)⟩
theorem FI.begun (h : FI Z V nb cb K s q k) (hB : Begun l V V') (hl : Z.heap.size ≤ l) (h1 : nb < Z.heap.size) : FI Z V' nb cb K s q k := by
 obtain ⟨A, c, r1, r2⟩ := h.row
 exact ⟨h.out.begun8 hB hl, h.num.heap (hB.block _ (by omega)), A, c, hB.blk r1, r2.begunT hB⟩
theorem FI.step (h : FI Z V nb cb K s q k) (hb : Below V.heap.size V V') : FI Z V' nb cb K s q k := by
 obtain ⟨A, c, r1, r2⟩ := h.row
 exact ⟨h.out.step8 hb, h.num.heap (hb.block _ h.num.lt), A, c, r1.step hb, r2.step hb⟩
end
theorem FI.rounds {Z V V' : World} {nb cb n c : Nat} {A : Option Addr} {es : List Bool} {S : Nat → Prop} (ho : GOwn 4 V Z.heap.size A n c es) (hs : ∀ k, k < V.heap.size → k ≠ nb → k ≠ cb → (∀ g, A = some g → g.block ≠ k) → V'.heap[k]? = V.heap[k]?) (hz : V.heap.size ≤ V'.heap.size)
 (h1 : nb < Z.heap.size) (h2 : cb < Z.heap.size) (hS : ∀ b, S b → b < Z.heap.size ∧ b ≠ nb ∧ b ≠ cb) : KeepN Z.heap.size V V' ∧ KpM Z.heap.size S V V' := by
 have oth : ∀ b o, Z.heap.size ≤ b → V.heap[b]? = some o → (∀ cs z, o ≠ .cells cs 4 z) → V'.heap[b]? = some o := fun b o hb hbo hne => by
  refine (hs b (lt_of_heap hbo) (by omega) (by omega) fun g hg e => ?_).trans hbo
  rcases ho.2.2 with h0 | ⟨g', cap, cur, e', hbg, hh, r⟩
  · injection h0.1 with h0
    rw [hg] at h0
    cases h0
  · injection e' with e1 e2 e3
    rw [hg] at e1
    injection e1 with e1
    subst e1
    have e : g' = b := e
    subst e
    rw [hh] at hbo
    injection hbo with hbo
    exact hne _ _ hbo.symm
 refine ⟨fun b o hb hbo hc => oth b o hb hbo fun cs z e => (by subst e; cases hc), ⟨hz, fun b _ hb hl => hs b hl (hS b hb).2.1 (hS b hb).2.2 fun g hg e => ?_, fun b v hb hbx => ?_⟩, fun b v hb hbx => (oth b _ hb hbx fun cs z e => by injection e with _ e; revert e; decide).trans hbx.symm⟩
 · have := (ho.block g hg).1
   have := (hS b hb).1
   omega
 · rcases hbx with hbx | hbx
   · exact (oth b _ hb hbx fun cs z e => by injection e with _ e; revert e; decide).trans hbx.symm
   · exact (oth b _ hb hbx fun cs z e => by injection e with _ e; revert e; decide).trans hbx.symm
structure F2 (Z V : World) (ob D : Nat) (A : Option Addr) (n c base : Nat) (p : List Bool × Opn) : Prop where
 out : Out (fun b => b = ob ∨ ∃ a, A = some a ∧ b = a.block) Z V
 op : Blk V ob 37 (opCells p.2)
 row : GOwn 4 V base A n c p.1
 mark : V.heap[D]? = some (.deferred (some []))
section
variable {Z V V' : World} {ob D n c base l : Nat} {A : Option Addr} {p : List Bool × Opn}
theorem F2.turn (h : F2 Z V ob D A n c base p) (hT : Turn 3 Z.heap.size V V') (h1 : ob < Z.heap.size) (h2 : D < Z.heap.size) : F2 Z V' ob D A n c base p :=
 ⟨h.out.turn8 hT (Nat.le_refl _), h.op.turn hT h1, h.row.turnT hT (by decide), (hT.low _ (lt_of_heap h.mark) h2).trans h.mark⟩
theorem F2.begun (h : F2 Z V ob D A n c base p) (hB : Begun l V V') (hl : Z.heap.size ≤ l) (h2 : D < Z.heap.size) : F2 Z V' ob D A n c base p :=
 ⟨h.out.begun8 hB hl, hB.blk h.op, h.row.begunT hB, (hB.block _ (by omega)).trans h.mark⟩
theorem F2.step (h : F2 Z V ob D A n c base p) (hb : Below V.heap.size V V') : F2 Z V' ob D A n c base p :=
 ⟨h.out.step8 hb, h.op.step hb, h.row.step hb, (hb.block _ (lt_of_heap h.mark)).trans h.mark⟩
theorem F2.rounds {X : Nat → Prop} (hO : Out (fun b => b = ob ∨ ∃ a, A = some a ∧ b = a.block) V V') (h1 : ob < Z.heap.size) (h2 : ∀ a, A = some a → a.block < Z.heap.size) (hX : ∀ b, X b → b ≠ ob ∧ ∀ a, A = some a → b ≠ a.block) : KeepN Z.heap.size V V' ∧ KpX X V V' := by
 refine ⟨fun b o hb ho _ => (hO.block b (lt_of_heap ho) ?_).trans ho, hO.size, fun b hb hl => hO.block b hl ?_⟩
 · rintro (rfl | ⟨a, ha, rfl⟩)
   · omega
   · have := h2 a ha; omega
 · rintro (h | ⟨a, ha, h⟩)
   · exact (hX b hb).1 h
   · exact (hX b hb).2 a ha h
end
theorem rcontext_any (w : World) (rb ce c d cl : Nat) (E A B L : Option Addr) (SR : Nat → Prop) (s : Lg) (q : Clk) (h : RgIn w rb E ce A c B d L cl SR s) (hb : s.base.length ≤ 1048576) (ha : s.acts.length ≤ 1048576) :
 Calls Tryz.prog 42 #[.pointer (some ⟨rb, 0, none⟩), q.agg] w fun e w' => e = .returned (.int .i64 (s.ctx q)) ∧ Below w.heap.size w w' := by
 have e0 : Below w.heap.size w (w.alloc (.cells q.vals 44)) := balloc (Below.refl _ _)
 have hq := Blk.new w 44 q.vals
 have hX := h.step e0
 have HX := hid hX
 have g1 : (w.alloc (.cells q.vals 44)).cell? ⟨rb, 1, none⟩ = some (.slice E s.base.length ce) := hX.g.cell 1
 have gl := hX.g.lt
 have Hrow := hid (hX.a.row (S := fun _ => True) fun _ _ _ => trivial)
 have Hq := hid hq
 have Hh := hid (fun (x : Actn) W => refHas_any q x.op.rep x.num W)
 have hcx : s.ctx q = s.base.length + hadTo s q s.acts.length := by rw [hadTo_all]; rfl
 have Hcx := hid hcx
 clear h hX hq hcx
 simp only [Clk.agg] at *
 unfold Clk.vals at *
 go_enter Tryz.func42, Tryz.ntmps42
 repeat' (first | (with_reducible refine stop_region 1 ?_) | go_step)
 refine Stop.go ?_
 generalize w.alloc (.cells #[.int .i64 q.c0, .int .i64 q.c1, .int .i64 q.c2, .int .i64 q.c3, .int .i64 q.c4, .int .i64 q.c5, .int .i64 q.c6, .int .i64 q.c7] 44) = X at *
 repeat' (first | go_step)
 go_loopw [5, 6] (fun n i wr => ∃ k : Nat, n = .int .i64 ((s.base.length + hadTo s q k : Nat) : Int) ∧ i = .int .i64 k ∧ k ≤ s.acts.length ∧ Below X.heap.size X wr) (fun _ i _ => s.acts.length - (intOf i).toNat)
 case atStart => exact ⟨0, by simp [hadTo], rfl, Nat.zero_le _, Below.refl _ _⟩
 case round =>
  obtain ⟨k, rfl, rfl, hk, hbr⟩ := hrel
  clear g1 gl
  have g2 : wr.cell? ⟨rb, 2, none⟩ = some (.slice A s.acts.length c) := (HX.out.step hbr).g.cell 2
  have gl := (HX.out.step hbr).g.lt
  by_cases hlt : k < s.acts.length
  · have hbd := hbr.drew
    obtain ⟨b, off, x, rfl, -, hbl, hx, hcell⟩ := (Hrow.out.step hbd).at_ hlt
    have c0 : wr.drew.cell? ⟨b, off + k * 13, none⟩ = some (.int .i64 x.op.kind) := hcell 0 _ rfl
    have c3 : wr.drew.cell? ⟨b, off + k * 13 + 3, none⟩ = some (.int .i64 x.op.rep) := hcell 3 _ rfl
    have c4 : wr.drew.cell? ⟨b, off + k * 13 + 4, none⟩ = some (.int .i64 x.num) := hcell 4 _ rfl
    have hqb := (Hq.out.step hbd)
    obtain ⟨q0, q1, q2, q3, q4, q5, q6, q7⟩ := cl8 (w := wr.drew) (g := w.heap.size) hqb
    have ql := hqb.lt
    have hs := hadTo_snoc (q := q) hx
    have hle := hadTo_le s q k
    have Hs := hid hs
    have Hhx := hid (Hh.out x)
    clear hcell hs hx hqb
    obtain ⟨p, hp⟩ : ∃ p, p = (s.base.length + hadTo s q k : Nat) := ⟨_, rfl⟩
    have hpb : p ≤ 2097152 := by omega
    have Hp := hid hp
    rw [← hp]
    clear hp hle
    by_cases hkd : x.op.kind = 1
    · have hkd' : (x.op.kind == 1) = true := by simpa using hkd
      rcases hhc : hasC q x.op.rep x.num with _ | _
      · rw [hhc] at Hhx
        repeat' (first | ((with_reducible refine region_at 5 ?_); refine wp_region_ordT (fun _ => True) (rgo [0,4,8,12,16,20,24,28,32,36,40,44,48,52,56,60,64,68,72,76,80,84,88,92,96,100,104,108,112,117,120] .nil) (by kernel_rfl) (by kernel_rfl) (by kernel_rfl) rfl rfl ?_) | (go_at_call 52; go_must ((with_reducible refine Calls.mono (Hhx.out _) ?_); rintro _ w3 ⟨rfl, hb3⟩; dsimp only)) | (with_reducible refine Keep.below (by assumption) ?_) | ((with_reducible refine WpO.here ?_); first | (refine WpO.done ?_; refine NoP.normal ?_) | ((first | refine WpO.load (by rfl) (by rfl) (by go_simp; rfl) ?_ | refine WpO.pure (by rfl) (fun w_ => by go_simp; (try go_bits); rfl) ?_); go_frame) | refine WpO.wild ?_) | ((with_reducible refine wildO.here ?_); (refine wildO.go (by rfl) (fun _ _ => ?_))) | go_step)
        go_roundw
        case rel =>
         have h1 := Hs.out
         rw [hhc, Bool.and_false, if_neg (by simp)] at h1
         have h2 := Hp.out
         exact ⟨k + 1, by rw [h1, h2]; rfl, by go_num, by omega, bvia hbd hb3⟩
        case measure => simp [intOf]; omega
      · rw [hhc] at Hhx
        repeat' (first | ((with_reducible refine region_at 5 ?_); refine wp_region_ordT (fun _ => True) (rgo [0,4,8,12,16,20,24,28,32,36,40,44,48,52,56,60,64,68,72,76,80,84,88,92,96,100,104,108,112,117,120] .nil) (by kernel_rfl) (by kernel_rfl) (by kernel_rfl) rfl rfl ?_) | (go_at_call 52; go_must ((with_reducible refine Calls.mono (Hhx.out _) ?_); rintro _ w3 ⟨rfl, hb3⟩; dsimp only)) | (with_reducible refine Keep.below (by assumption) ?_) | ((with_reducible refine WpO.here ?_); first | (refine WpO.done ?_; refine NoP.normal ?_) | ((first | refine WpO.load (by rfl) (by rfl) (by go_simp; rfl) ?_ | refine WpO.pure (by rfl) (fun w_ => by go_simp; (try go_bits); rfl) ?_); go_frame) | refine WpO.wild ?_) | ((with_reducible refine wildO.here ?_); (refine wildO.go (by rfl) (fun _ _ => ?_))) | go_step)
        go_roundw
        case rel =>
         have h1 := Hs.out
         rw [hhc, decide_eq_true hkd, if_pos (show (true && true) = true from rfl)] at h1
         have h2 := Hp.out
         exact ⟨k + 1, by rw [h1, h2]; go_num, by go_num, by omega, bvia hbd hb3⟩
        case measure => simp [intOf]; omega
    · have hkd' : (x.op.kind == 1) = false := by simpa using hkd
      repeat' (first | ((with_reducible refine region_at 5 ?_); refine wp_region_ordT (fun _ => True) (rgo [0,4,8,12,16,20,24,28,32,36,40,44,48,52,56,60,64,68,72,76,80,84,88,92,96,100,104,108,112,117,120] .nil) (by kernel_rfl) (by kernel_rfl) (by kernel_rfl) rfl rfl ?_) | ((with_reducible refine WpO.here ?_); first | (refine WpO.done ?_; refine NoP.normal ?_) | ((first | refine WpO.load (by rfl) (by rfl) (by go_simp; rfl) ?_ | refine WpO.pure (by rfl) (fun w_ => by go_simp; (try go_bits); rfl) ?_ | refine WpO.skip (by rfl) ?_); go_frame)) | go_step)
      go_roundw
      case rel =>
       have h1 := Hs.out
       rw [decide_eq_false hkd, Bool.false_and, if_neg (by simp)] at h1
       have h2 := Hp.out
       exact ⟨k + 1, by rw [h1, h2]; rfl, by go_num, by omega, hbd⟩
      case measure => simp [intOf]; omega
  · obtain rfl : k = s.acts.length := by omega
    rw [← Hcx.out]
    repeat' (first | go_step)
    go_ret
    exact ⟨rfl, bvia e0 hbr⟩
theorem stop_regionIn8 (id : Nat) {F : Fence} {n : Nat} {P : Program} {ops : Array Oper} {b : Bool} {Q : Exit → Act → World → Prop} {a : Act} {w : World} (h : Stop ((Code.region id ops b).wpIn F n P Q a w)) : (Code.region id ops b).wpIn F n P Q a w := by unfold Stop at h; exact h
theorem prefix_at8 {L pre : List El} {x : El} (h : pre ++ [x] <+: L) : L[pre.length]? = some x ∧ pre.length < L.length := by
 obtain ⟨r, rfl⟩ := h
 refine ⟨?_, by simp⟩
 rw [List.append_assoc, List.getElem?_append_right (Nat.le_refl _)]
 simp
theorem form_any (w : World) (gb bm mb c d K : Nat) (A B : Option Addr) (SM : Nat → Prop) (s : Lg) (x : Actn) (h : LgIn w gb bm mb A c B d SM s K) (ha : s.acts.length ≤ 1048576) (hll : s.l.length ≤ 1048576) (hst : s.Stand) (hep : s.Epo) (hnd : (s.l.map El.nm).Nodup) (hx : x.op.In) :
 Calls Tryz.prog 77 #[.pointer (some ⟨gb, 0, none⟩), x.agg] w fun r w' => r = .returned (s.form x).agg ∧ Below w.heap.size w w' := by
 obtain ⟨hX, hY, hZ, e0⟩ := boxes3 w 30 46 37 #[.pointer (some ⟨gb, 0, none⟩)] x.vals #[.int .i64 0, .int .i64 0, .int .i32 0, .int .i64 0]
 have h0 := h.step e0
 have hw0 : (((w.alloc (.cells #[.pointer (some ⟨gb, 0, none⟩)] 30)).alloc (.cells x.vals 46)).alloc (.cells #[.int .i64 0, .int .i64 0, .int .i32 0, .int .i64 0] 37)).heap.size = w.heap.size + 3 := by
  show Array.size (((w.heap.push _).push _).push _) = _
  simp
 have hSM := h.sm
 have hblk : ∀ b, LgBlk gb bm A B SM b → b < w.heap.size := by
  rintro b (hb | rfl | rfl | ⟨y, hy, rfl⟩ | ⟨y, hy, rfl⟩)
  · exact (hSM b hb).1
  · exact h.g.lt
  · exact h.i.lt
  · exact (h.a.block y hy).2
  · exact (h.b.block y hy).2
 have Hblk := hid hblk
 have HSM := hid hSM
 have HO := hid h0
 have HX := hid hX
 have HY := hid hY
 have HZ := hid hZ
 have Hst := hid hst
 have Hep := hid hep
 have Hnd := hid hnd
 have Hx := hid hx
 obtain ⟨f, hf⟩ : ∃ f, f = s.form x := ⟨_, rfl⟩
 rw [← hf]
 have HF := hid hf
 clear h h0 hX hY hZ hst hx hf hep hnd hSM hblk
 simp only [Actn.agg, Clk.agg, Opn.agg, Nm.val, El.agg] at *
 unfold Actn.vals at *
 refine calls_of_marks Tryz.func77 rfl ?_
 simp only [Tryz.ntmps77, List.size_toArray, List.length_cons, List.length_nil, Nat.reduceAdd, Nat.reduceSub, Array.replicate_succ, Array.replicate_zero, List.push_toArray, List.append_toArray, List.nil_append, List.cons_append]
 repeat' (first | (with_reducible refine stop_region 1 ?_) | go_step)
 refine Stop.go ?_
 generalize ((w.alloc (.cells #[.pointer (some ⟨gb, 0, none⟩)] 30)).alloc (.cells #[.int .i64 x.op.kind, .int .i64 x.op.at_, .int .i32 x.op.char, .int .i64 x.op.rep, .int .i64 x.num, .int .i64 x.clk.c0, .int .i64 x.clk.c1, .int .i64 x.clk.c2, .int .i64 x.clk.c3, .int .i64 x.clk.c4, .int .i64 x.clk.c5, .int .i64 x.clk.c6, .int .i64 x.clk.c7] 46)).alloc (.cells #[.int .i64 0, .int .i64 0, .int .i32 0, .int .i64 0] 37) = X at *
 have hmm := @run_makeMap Tryz.prog
 repeat' (first | (with_reducible refine stop_region 3 ?_) | go_step)
 refine Stop.go ?_
 clear hmm
 have eY1 : Below X.heap.size X (X.alloc (.map #[] 0)) := balloc (Below.refl _ _)
 have eY2 : Below X.heap.size X ((X.alloc (.map #[] 0)).alloc (.cells #[.map (some (w.heap.size + 3))] 181)) := balloc eY1
 have eY : Below X.heap.size X (((X.alloc (.map #[] 0)).alloc (.cells #[.map (some (w.heap.size + 3))] 181)).alloc (.cells #[.slice none 0 0] 182)) := balloc eY2
 have sY1 : (X.alloc (.map #[] 0)).heap.size = w.heap.size + 3 + 1 := by rw [← hw0]; exact Array.size_push _
 have sY2 : ((X.alloc (.map #[] 0)).alloc (.cells #[.map (some (w.heap.size + 3))] 181)).heap.size = w.heap.size + 3 + 1 + 1 := by rw [← sY1]; exact Array.size_push _
 have sY : (((X.alloc (.map #[] 0)).alloc (.cells #[.map (some (w.heap.size + 3))] 181)).alloc (.cells #[.slice none 0 0] 182)).heap.size = w.heap.size + 3 + 1 + 1 + 1 := by rw [← sY2]; exact Array.size_push _
 have hnum : IsNum (((X.alloc (.map #[] 0)).alloc (.cells #[.map (some (w.heap.size + 3))] 181)).alloc (.cells #[.slice none 0 0] 182)) (w.heap.size + 3) 0 [] := by
  have h1 := IsNum.made X
  rw [hw0] at h1
  exact h1.heap (Below.block (B := (X.alloc (.map #[] 0)).heap.size) (balloc (balloc (Below.refl _ _))) _ (by rw [sY1]; omega))
 have hpb : Blk (((X.alloc (.map #[] 0)).alloc (.cells #[.map (some (w.heap.size + 3))] 181)).alloc (.cells #[.slice none 0 0] 182)) (w.heap.size + 3 + 1) 181 #[.map (some (w.heap.size + 3))] := by
  have h1 := (Blk.new (X.alloc (.map #[] 0)) 181 #[.map (some (w.heap.size + 3))]).alloc (.cells #[.slice none 0 0] 182)
  rwa [sY1] at h1
 have hcb : Blk (((X.alloc (.map #[] 0)).alloc (.cells #[.map (some (w.heap.size + 3))] 181)).alloc (.cells #[.slice none 0 0] 182)) (w.heap.size + 3 + 1 + 1) 182 #[.slice none 0 0] := by
  have h1 := Blk.new ((X.alloc (.map #[] 0)).alloc (.cells #[.map (some (w.heap.size + 3))] 181)) 182 #[.slice none 0 0]
  rwa [sY2] at h1
 clear eY1 eY2 sY1 sY2
 generalize (((X.alloc (.map #[] 0)).alloc (.cells #[.map (some (w.heap.size + 3))] 181)).alloc (.cells #[.slice none 0 0] 182)) = Y at *
 have g2 : Y.cell? ⟨gb, 2, none⟩ = some (.pointer (some ⟨mb, 0, none⟩)) := (HO.out.step eY).g.cell 2
 have gl := (HO.out.step eY).g.lt
 have l0 : Y.cell? ⟨w.heap.size, 0, none⟩ = some (.pointer (some ⟨gb, 0, none⟩)) := (HX.out.step eY).cell 0
 have ll := (HX.out.step eY).lt
 repeat' (first | (go_at_call 95; go_must ((with_reducible refine Calls.mono (mall_any mb _) ?_); rintro _ _ ⟨rfl, rfl⟩; dsimp only)) | (with_reducible refine stop_block 0 ?_) | go_step)
 refine Stop.go ?_
 have eA : Below Y.heap.size Y (Y.alloc (.cells #[.pointer (some ⟨mb, 0, none⟩)] 52)) := balloc (Below.refl _ _)
 have eZ := bvia eY eA
 have sZ : (Y.alloc (.cells #[.pointer (some ⟨mb, 0, none⟩)] 52)).heap.size = w.heap.size + 3 + 1 + 1 + 1 + 1 := by rw [← sY]; exact Array.size_push _
 have hga := Blk.new Y 52 #[.pointer (some ⟨mb, 0, none⟩)]
 rw [sY] at hga ⊢
 have hnumZ := hnum.heap (eA.block _ hnum.lt)
 have hpbZ := hpb.step eA
 have hcbZ := hcb.step eA
 clear g2 gl l0 ll hnum hpb hcb eA eY sY
 generalize Y.alloc (.cells #[.pointer (some ⟨mb, 0, none⟩)] 52) = Z at *
 have HGZ := hid (HO.out.step eZ)
 have HXZ := hid (HX.out.step eZ)
 have HYZ := hid (HY.out.step eZ)
 have HZZ := hid (HZ.out.step eZ)
 have HPZ := hid hpbZ
 have e1 := bvia e0 eZ
 have HV := hid (fun V (hO : Out (fun b => b = w.heap.size + 3 ∨ b = w.heap.size + 3 + 1 + 1) Z V) => HGZ.out.keep hO.size fun b hb hs => hO.block b hb (by have := Hblk.out b hs; omega))
 obtain ⟨gt, gm, p, T, k1, k2, k3, hTall, -, sb1, sb2, sb3, hgood⟩ := HGZ.out.m
 have Hgood := hid hgood
 have hll' := hll
 have hTl : T.all.length ≤ 1048576 := by rw [hTall]; exact hll
 have hKn := hid (fun V (hO : Out (fun b => b = w.heap.size + 3 ∨ b = w.heap.size + 3 + 1 + 1) Z V) (V' : World) (hb : Below V.heap.size V V') (e : El) (he : e ∈ s.l) => (known_any V' gb bm mb c d K A B SM s e.nm x.clk ((HV.out V hO).step hb) (Hgood.out e he).nm).mono (fun r w' (hr : r = .returned (.bool (decide (e.nm ∈ s.base.map El.nm) || hasC x.clk e.nm.rep e.nm.num)) ∧ Below V'.heap.size V' w') => (show r = .returned (.bool (s.inC x.clk e)) ∧ Below V'.heap.size V' w' from ⟨by rw [hr.1, known_in Hep.out he], hr.2⟩)))
 clear HO HX HY HZ e0 eZ hpbZ hgood
 simp only [Nm.val, El.nm, Clk.agg] at hKn
 unfold Clk.vals at hKn
 refine wp_rangeFuncN_block 3 (gf := 128) (lb := #[.pointer (some ⟨w.heap.size + 3 + 1 + 1 + 1, 0, none⟩)]) rfl (enters_fn Tryz.func128 (by kernel_rfl) rfl)
  (mallSeq T p (w.heap.size + 3 + 1 + 1 + 1) mb gt (.map (some gm)) (fun b => SM b ∧ b ≠ gt) Z hga k1 k2 k3 (by omega)) (fun h k => h.trans k) (fun W l o o' hl h hc => KpM.putObj W l o o' hl h hc) (fun _ => rfl)
  (fun pre V => FI Z V (w.heap.size + 3) (w.heap.size + 3 + 1 + 1) 0 s x.clk pre.length) (fun V => FI Z V (w.heap.size + 3) (w.heap.size + 3 + 1 + 1) 0 s x.clk s.l.length)
  (fun _ A B h hT => h.turn hT (by omega) (by omega)) (fun _ A B h hT => h.turn hT (by omega) (by omega))
  ⟨Out.refl _ _, hnumZ, none, 0, hcbZ, GOwn.nil _ _ _⟩ ?round ?done ?end_
 case round =>
  rintro ll pre e V hll ⟨rc, hrc⟩ hI hG
  obtain ⟨he, hlt⟩ := prefix_at8 (show pre ++ [e] <+: s.l by rw [← hTall]; exact hG)
  simp only [elOne, El.agg, putArgs1, List.setIfInBounds_toArray, List.set_cons_zero, List.set_cons_succ]
  repeat' (first | ((with_reducible refine regionIn_ff ?_); refine wpIn_region_r rfl ?_) | go_step | (with_reducible refine NoO.normal ?_))
  have eW : Below V.heap.size V (V.alloc (.cells #[.int .i64 e.epoch, .int .i64 e.rep, .int .i64 e.num, .int .i32 e.char, .int .i64 e.hides] 113)) := balloc (Below.refl _ _)
  refine ⟨KeepN.of_below eW, KpM.of_below eW, fun W2 hB2 => ?_⟩
  have hI2 := (hI.step eW).begun hB2 hll (by omega)
  have hx2 := hB2.blk (Blk.new V 113 #[.int .i64 e.epoch, .int .i64 e.rep, .int .i64 e.num, .int .i32 e.char, .int .i64 e.hides])
  have hVZ := hI.out.size
  have hxb : Z.heap.size ≤ V.heap.size := hVZ
  generalize V.heap.size = xb at *
  have Hpl := hid (show (pre ++ [e]).length = pre.length + 1 from by simp)
  generalize pre.length = m at *
  have hm : m ≤ 1048576 := by omega
  have hem : e ∈ s.l := List.mem_of_getElem? he
  have htm : ((s.l.take m).map El.nm).length = m := by rw [List.length_map, List.length_take]; omega
  have hfresh : e.nm ∉ (s.l.take m).map El.nm := fun hc => by
   have h1 : s.l.map El.nm = (s.l.take m).map El.nm ++ (s.l.drop m).map El.nm := by rw [← List.map_append, List.take_append_drop]
   have h2 := Hnd.out
   rw [h1, List.nodup_append] at h2
   refine h2.2.2 _ hc e.nm ?_ rfl
   refine List.mem_map.2 ⟨e, List.mem_of_getElem? (i := 0) ?_, rfl⟩
   rw [List.getElem?_drop]
   exact he
  obtain ⟨w4, hput, hn4, hT4⟩ := hI2.num.put e.nm (Hgood.out e hem).nm (by omega) (by omega) hfresh
  rw [htm] at hput
  have hbut := But.of_turned hT4
  obtain ⟨A', c', r1, r2⟩ := hI2.row
  have HO4 : Out (fun b => b = w.heap.size + 3 ∨ b = w.heap.size + 3 + 1 + 1) Z w4 := hI2.out.trans (Out.of_but (S := fun b => b = w.heap.size + 3) hbut rfl) fun b _ h => .inl h
  have r1' : Blk w4 (w.heap.size + 3 + 1 + 1) _ _ := (hbut.block _ r1.lt (by omega)).trans r1
  have r2' : GOwn 4 w4 Z.heap.size A' m c' ((s.l.take m).map (s.inC x.clk)) := r2.keep (S := fun b => b ≠ w.heap.size + 3) (fun b hb hl => hbut.block b hl hb) fun a ha => by have := (r2.block a ha).1; omega
  have hx4 : Blk w4 xb _ _ := (hbut.block _ hx2.lt (by omega)).trans hx2
  have p0 : W2.cell? ⟨w.heap.size + 3 + 1, 0, none⟩ = some (.map (some (w.heap.size + 3))) := (hI2.out.blk HPZ.out (by omega)).cell 0
  have pl := (hI2.out.blk HPZ.out (by omega)).lt
  have x0 : W2.cell? ⟨xb, 0, none⟩ = some (.int .i64 e.epoch) := hx2.cell 0
  have x1 : W2.cell? ⟨xb, 1, none⟩ = some (.int .i64 e.rep) := hx2.cell 1
  have x2 : W2.cell? ⟨xb, 2, none⟩ = some (.int .i64 e.num) := hx2.cell 2
  have xl := hx2.lt
  have c0 : W2.cell? ⟨w.heap.size + 3 + 1 + 1, 0, none⟩ = some (.slice A' m c') := r1.cell 0
  have cl := r1.lt
  have Hn4 := hid hn4
  have HO4' := hid HO4
  have Hr1 := hid r1'
  have Hr2 := hid r2'
  have Hx4 := hid hx4
  have Hbut := hid hbut
  have HI2 := hid (And.intro hI2 r2)
  have He := hid he
  have Hem := hid hem
  clear hn4 HO4 r1' r2' hx4 hbut hI2 r1 r2 hx2 hT4 hfresh htm he hem hB2 hrc eW hI hG
  simp only [Nm.val, El.nm] at hput
  repeat' (first | (with_reducible refine stop_regionIn8 6 ?_) | ((with_reducible refine regionIn_ff ?_); refine wpIn_region_r rfl ?_) | go_step | (with_reducible refine NoO.normal ?_) | gi_step)
  refine Stop.go ?_
  clear p0 pl x0 x1 x2 xl c0 cl hput
  have hlb4 := HO4'.out.blk HXZ.out (by omega)
  have hab4 := HO4'.out.blk HYZ.out (by omega)
  have D4 := drew_below w4
  have ra := hab4.step D4
  obtain ⟨x0, x1, x2, x3, x4, x5, x6, x7, x8, x9, x10, x11, x12⟩ := cl13 (w := w4.drew) (g := w.heap.size + 1) ra; have xl := (ra).lt
  have l0 : w4.drew.cell? ⟨w.heap.size, 0, none⟩ = some (.pointer (some ⟨gb, 0, none⟩)) := (hlb4.step D4).cell 0
  have ll := hlb4.lt
  have c0 : w4.drew.cell? ⟨w.heap.size + 3 + 1 + 1, 0, none⟩ = some (.slice A' m c') := (Hr1.out.step D4).cell 0
  have cl := Hr1.out.lt
  have e0 : w4.drew.cell? ⟨xb, 0, none⟩ = some (.int .i64 e.epoch) := (Hx4.out.step D4).cell 0
  have e1' : w4.drew.cell? ⟨xb, 1, none⟩ = some (.int .i64 e.rep) := (Hx4.out.step D4).cell 1
  have e2 : w4.drew.cell? ⟨xb, 2, none⟩ = some (.int .i64 e.num) := (Hx4.out.step D4).cell 2
  have el := Hx4.out.lt
  have qa : w4.drew.heap[w.heap.size + 1]? = some (.cells #[.int .i64 x.op.kind, .int .i64 x.op.at_, .int .i32 x.op.char, .int .i64 x.op.rep, .int .i64 x.num, .int .i64 x.clk.c0, .int .i64 x.clk.c1, .int .i64 x.clk.c2, .int .i64 x.clk.c3, .int .i64 x.clk.c4, .int .i64 x.clk.c5, .int .i64 x.clk.c6, .int .i64 x.clk.c7] 46 (0, 0)) := ra
  have ql : w4.drew.heap[w.heap.size]? = some (.cells #[.pointer (some ⟨gb, 0, none⟩)] 30 (0, 0)) := hlb4.step D4
  have qc : w4.drew.heap[w.heap.size + 3 + 1 + 1]? = some (.cells #[.slice A' m c'] 182 (0, 0)) := Hr1.out.step D4
  have qx : w4.drew.heap[xb]? = some (.cells #[.int .i64 e.epoch, .int .i64 e.rep, .int .i64 e.num, .int .i32 e.char, .int .i64 e.hides] 113 (0, 0)) := Hx4.out.step D4
  have ha2 : ∀ g, A' = some g → Z.heap.size ≤ g.block := fun g hg => (Hr2.out.block g hg).1
  have ta : ∀ g, A' = some g → g.block ≠ w.heap.size + 1 := fun g hg => by have := ha2 g hg; omega
  have tl : ∀ g, A' = some g → g.block ≠ w.heap.size := fun g hg => by have := ha2 g hg; omega
  have tc : ∀ g, A' = some g → g.block ≠ w.heap.size + 3 + 1 + 1 := fun g hg => by have := ha2 g hg; omega
  have tx : ∀ g, A' = some g → g.block ≠ xb := Hr2.out.ne_blk (by decide) Hx4.out
  have HK := hid (hKn.out w4 HO4'.out w4.drew D4 e Hem.out)
  obtain ⟨v, hv⟩ : ∃ v, v = s.inC x.clk e := ⟨_, rfl⟩
  rw [← hv] at HK
  have Hv := hid hv
  have HD4 := hid D4
  have hZ4 := HO4'.out.size
  clear ra hlb4 hab4 hv D4 ha2
  repeat' (first | ((with_reducible refine regionIn_at 6 ?_); refine wpIn_region_ordT (fun b => ∀ g, A' = some g → g.block ≠ b) rfl (rgo [0,4,8,12,16,20,25,29,33,39] .nil) (by kernel_rfl) (by kernel_rfl) (by kernel_rfl) rfl rfl ?_) | (go_at_call 112; go_must ((with_reducible refine Calls.mono HK.out ?_); rintro _ w5 ⟨rfl, hb5⟩; have eX : Below w5.heap.size w5 (w5.alloc (.cells #[.bool v] 4)) := balloc (Below.refl _ _); have hb45 := bvia (bvia HD4.out hb5) eX; have hA5 := Hr2.out.step hb45; have hrow5 := grow_bool w5 v; have hz5 : Z.heap.size ≤ (w5.alloc (.cells #[.bool v] 4)).heap.size := Nat.le_trans hZ4 hb45.size; dsimp only)) | ((with_reducible refine app_bools_here ?_); refine wp_append_bools Z.heap.size A' _ m c' 1 1 ((s.l.take m).map (s.inC x.clk)) [v] (fun _ => True) (by rfl) (by rfl) hA5 hrow5 hz5 (by omega) ?_; intro A6 c6 w6 hA6 hb6 hsm6 hat6 hz6; have hk6 : KeepT (fun b => ∀ g, A' = some g → g.block ≠ b) _ w6 := ⟨hz6, fun b hb ht => hsm6 b ht hb⟩; have g6 : Blk w6 (w.heap.size + 3 + 1 + 1) _ _ := (hsm6 _ tc (Hr1.out.step hb45).lt).trans (Hr1.out.step hb45); have f6 := g6.frozen 0; have gl6 := g6.lt; have c06 : w6.cell? ⟨w.heap.size + 3 + 1 + 1, 0, none⟩ = some (.slice A' m c') := g6.cell 0) | (with_reducible first | refine Keep.last ?_ | refine Keep.below (by assumption) ?_ | refine Keep.kept (by assumption) ?_) | ((with_reducible refine WpO.here ?_); first | (refine WpO.done ?_; refine NoO.normal ?_) | ((first | refine WpO.loadT (by rfl) (by rfl) (by go_simp; rfl) (by rintro _ _ ⟨⟩; exact ⟨_, _, _, _, _, _, by rfl, by assumption, by assumption⟩) ?_ | refine WpO.pure (by rfl) (fun w_ => by go_simp; (try go_bits); rfl) ?_); go_frame) | refine WpO.wild ?_) | ((with_reducible refine wildO.here ?_); (refine wildO.go (by rfl) (fun _ _ => ?_))) | go_step)
  have szb := Hbut.out.size
  have sz45 := hb45.size
  have hnbl := Hn4.out.lt
  have HO5 := HO4'.out.step8 hb45
  have HO6 : Out (fun b => b = w.heap.size + 3 ∨ b = w.heap.size + 3 + 1 + 1) Z w6 := ⟨hb6.os.trans HO5.os, hb6.tape.trans HO5.tape, hb6.output.trans HO5.output, Nat.le_trans HO5.size hz6, fun k hk hn => (hb6.block k hk).trans (HO5.block k hk hn)⟩
  have HO7 := HO6.trans (Out.setCell (S := fun b => b = w.heap.size + 3 + 1 + 1) (p := ⟨w.heap.size + 3 + 1 + 1, 0, none⟩) rfl (.slice A6 (m + 1) c6)) fun b _ h => .inr h
  have hkk := FI.rounds (V' := w6.setCell ⟨w.heap.size + 3 + 1 + 1, 0, none⟩ (.slice A6 (m + 1) c6)) (nb := w.heap.size + 3) (cb := w.heap.size + 3 + 1 + 1) (S := fun b => SM b ∧ b ≠ gt) HI2.out.2
   (fun k hk h1 h2 h3 => (Below.heap_setCell _ _ _ _ h2).trans ((hsm6 k h3 (by omega)).trans ((hb45.block k (by omega)).trans (Hbut.out.block k hk h1))))
   (by have : (w6.setCell ⟨w.heap.size + 3 + 1 + 1, 0, none⟩ (.slice A6 (m + 1) c6)).heap.size = w6.heap.size := by simp [World.setCell]
       omega) (by omega) (by omega) (fun b hb => by have := (HSM.out b hb.1).1; omega)
  have htk : s.l.take (m + 1) = s.l.take m ++ [e] := by rw [List.take_add_one, He.out]; rfl
  refine ⟨hkk.1, hkk.2, ?_⟩
  dsimp only
  rw [Hpl.out]
  refine ⟨HO7, ?_, A6, c6, g6.set_ 0 _, ?_⟩
  · rw [htk, List.map_append]
    exact Hn4.out.heap ((Below.heap_setCell _ _ _ _ (by show w.heap.size + 3 ≠ w.heap.size + 3 + 1 + 1; omega)).trans ((hb6.block _ (by omega)).trans (hb45.block _ hnbl)))
  · rw [htk, List.map_append]
    have h9 : GOwn 4 w6 Z.heap.size A6 (m + 1) c6 ((s.l.take m).map (s.inC x.clk) ++ [e].map (s.inC x.clk)) := by
     rw [show [e].map (s.inC x.clk) = [v] from by rw [Hv.out]; rfl]
     exact hA6
    exact h9.keep (S := fun b => b ≠ w.heap.size + 3 + 1 + 1) (set_sameT fun hh => hh rfl) fun a ha => by have := (hA6.block a ha).1; omega
 case done =>
  rintro xs V rfl h
  rw [hTall] at h
  exact h
 case end_ =>
  rintro D W hD hI hK
  have hdl := lt_of_heap hK
  obtain ⟨A', c', r1, r2⟩ := hI.row
  have hnumW := hI.num
  rw [List.take_length] at r2 hnumW
  have hlbW := hI.out.blk HXZ.out (by omega)
  have habW := hI.out.blk HYZ.out (by omega)
  have hrzW := hI.out.blk HZZ.out (by omega)
  have hpbW := hI.out.blk HPZ.out (by omega)
  have hgW := HV.out W hI.out
  have hbW : Below w.heap.size w W := ⟨hI.out.os.trans e1.os, hI.out.tape.trans e1.tape, hI.out.output.trans e1.output, Nat.le_trans e1.size hI.out.size, fun k hk => (hI.out.block k (by have := e1.size; omega) (by omega)).trans (e1.block k hk)⟩
  have hWs := hI.out.size
  obtain ⟨x0, x1, x2, x3, x4, x5, x6, x7, x8, x9, x10, x11, x12⟩ := cl13 (w := W) (g := w.heap.size + 1) habW; have xl := (habW).lt
  have l0 : W.cell? ⟨w.heap.size, 0, none⟩ = some (.pointer (some ⟨gb, 0, none⟩)) := hlbW.cell 0
  have ll := hlbW.lt
  have HbW := hid hbW
  have Hr := hid (And.intro r1 r2)
  have Hnum := hid hnumW
  have HlbW := hid hlbW
  have HrzW := hid hrzW
  have HpbW := hid hpbW
  have HgW := hid hgW
  have HK := hid hK
  clear hI HV HXZ HYZ HZZ HPZ HGZ hKn hbW r1 r2 hnumW hlbW hrzW hpbW hgW hK habW k1 k2 k3 sb1 sb2 sb3 e1 hnumZ hcbZ hga hTall hTl
  have hsf := fun (a : Addr) (c : Array Value) (w : World) => run_store Tryz.prog w a (.func (.func 113) #[] c) .plain rfl
  have HBs := hid (fun W => beside_any gb x.clk W)
  simp only [Clk.agg] at HBs
  unfold Clk.vals at HBs
  repeat' (first | (go_at_call 78; go_must ((with_reducible refine Calls.mono (HBs.out _) ?_); rintro _ _ ⟨rfl, rfl⟩; dsimp only)) | (with_reducible refine stop_block 2 ?_) | go_step)
  refine Stop.go ?_
  clear hsf HBs x0 x1 x2 x3 x4 x5 x6 x7 x8 x9 x10 x11 x12 xl l0 ll
  have sA : (W.alloc (.cells #[.func (.func 113) #[] #[.pointer (some ⟨w.heap.size + 3 + 1, 0, none⟩), .pointer (some ⟨w.heap.size, 0, none⟩), .pointer (some ⟨w.heap.size + 3 + 1 + 1, 0, none⟩)]] 136)).heap.size = W.heap.size + 1 := Array.size_push _
  have sB : ((W.alloc (.cells #[.func (.func 113) #[] #[.pointer (some ⟨w.heap.size + 3 + 1, 0, none⟩), .pointer (some ⟨w.heap.size, 0, none⟩), .pointer (some ⟨w.heap.size + 3 + 1 + 1, 0, none⟩)]] 136)).alloc (.cells #[.int .i64 x.op.kind, .int .i64 x.op.at_, .int .i32 x.op.char, .int .i64 x.op.rep] 37)).heap.size = W.heap.size + 1 + 1 := by rw [← sA]; exact Array.size_push _
  obtain ⟨hfb, hob, eAB⟩ := twoBoxes W 136 37 #[.func (.func 113) #[] #[.pointer (some ⟨w.heap.size + 3 + 1, 0, none⟩), .pointer (some ⟨w.heap.size, 0, none⟩), .pointer (some ⟨w.heap.size + 3 + 1 + 1, 0, none⟩)]] #[.int .i64 x.op.kind, .int .i64 x.op.at_, .int .i32 x.op.char, .int .i64 x.op.rep]
  obtain ⟨hl2, hc2, eCD⟩ := twoBoxes ((W.alloc (.cells #[.func (.func 113) #[] #[.pointer (some ⟨w.heap.size + 3 + 1, 0, none⟩), .pointer (some ⟨w.heap.size, 0, none⟩), .pointer (some ⟨w.heap.size + 3 + 1 + 1, 0, none⟩)]] 136)).alloc (.cells #[.int .i64 x.op.kind, .int .i64 x.op.at_, .int .i32 x.op.char, .int .i64 x.op.rep] 37)) 30 44 #[.pointer (some ⟨gb, 0, none⟩)] x.clk.vals
  unfold Clk.vals at hl2 hc2 eCD
  simp only [sB]
  rw [sB] at hl2 hc2
  have hfb := hfb.step eCD
  have hob := hob.step eCD
  have e2 := bvia eAB eCD
  have s2 : ((((W.alloc (.cells #[.func (.func 113) #[] #[.pointer (some ⟨w.heap.size + 3 + 1, 0, none⟩), .pointer (some ⟨w.heap.size, 0, none⟩), .pointer (some ⟨w.heap.size + 3 + 1 + 1, 0, none⟩)]] 136)).alloc (.cells #[.int .i64 x.op.kind, .int .i64 x.op.at_, .int .i32 x.op.char, .int .i64 x.op.rep] 37)).alloc (.cells #[.pointer (some ⟨gb, 0, none⟩)] 30)).alloc (.cells #[.int .i64 x.clk.c0, .int .i64 x.clk.c1, .int .i64 x.clk.c2, .int .i64 x.clk.c3, .int .i64 x.clk.c4, .int .i64 x.clk.c5, .int .i64 x.clk.c6, .int .i64 x.clk.c7] 44)).heap.size = W.heap.size + 1 + 1 + 1 + 1 := by
   rw [← sB]
   show Array.size ((Array.push _ _).push _) = _
   simp
  clear eAB eCD sA sB
  generalize (((W.alloc (.cells #[.func (.func 113) #[] #[.pointer (some ⟨w.heap.size + 3 + 1, 0, none⟩), .pointer (some ⟨w.heap.size, 0, none⟩), .pointer (some ⟨w.heap.size + 3 + 1 + 1, 0, none⟩)]] 136)).alloc (.cells #[.int .i64 x.op.kind, .int .i64 x.op.at_, .int .i32 x.op.char, .int .i64 x.op.rep] 37)).alloc (.cells #[.pointer (some ⟨gb, 0, none⟩)] 30)).alloc (.cells #[.int .i64 x.clk.c0, .int .i64 x.clk.c1, .int .i64 x.clk.c2, .int .i64 x.clk.c3, .int .i64 x.clk.c4, .int .i64 x.clk.c5, .int .i64 x.clk.c6, .int .i64 x.clk.c7] 44) = Z2 at *
  have hmark := (e2.block D hdl).trans HK.out
  have hcbW := Hr.out.1.step e2
  have hrow2 := Hr.out.2.step e2
  have hnum2 := Hnum.out.heap (e2.block _ Hnum.out.lt)
  have hlb2 := HlbW.out.step e2
  have hrz2 := HrzW.out.step e2
  have hpb2 := HpbW.out.step e2
  have hg2 := HgW.out.step e2
  have hb2 := bvia HbW.out e2
  have hA2 : ∀ a, A' = some a → Z.heap.size ≤ a.block ∧ a.block < W.heap.size := fun a ha => Hr.out.2.block a ha
  have hgl2 := HgW.out.g.lt
  have hXlt : ∀ b, BsX (W.heap.size + 1 + 1) (W.heap.size + 1 + 1 + 1) gb A b → b < Z2.heap.size ∧ b ≠ W.heap.size + 1 ∧ ∀ a, A' = some a → b ≠ a.block := by
   have hgb := Hblk.out gb (.inr (.inl rfl))
   rintro b (rfl | rfl | rfl | ⟨a, ha, rfl⟩)
   · exact ⟨by omega, by omega, fun a ha => by have := hA2 a ha; omega⟩
   · exact ⟨by omega, by omega, fun a ha => by have := hA2 a ha; omega⟩
   · exact ⟨by omega, by omega, fun a ha => by have := hA2 a ha; omega⟩
   · have := Hblk.out a.block (.inr (.inr (.inr (.inl ⟨a, ha, rfl⟩))))
     exact ⟨by omega, by omega, fun a ha => by have := hA2 a ha; omega⟩
  have HXlt := hid hXlt
  refine wp_rangeFunc_block 3 (gf := 115) (lb := #[.pointer (some ⟨W.heap.size + 1 + 1, 0, none⟩), .pointer (some ⟨W.heap.size + 1 + 1 + 1, 0, none⟩)]) rfl (enters_fn Tryz.func115 (by kernel_rfl) rfl)
   (besideSeq Z2 _ _ gb bm mb c d K A B SM s x.clk hl2 (by exact hc2) hg2.g hg2.a ha) (fun h k => h.trans k) (fun V l o o' hl h hc => ⟨by simp, fun b hb hlt => World.putObj_heap_other (by have := (hXlt b hb).1; omega)⟩) (fun _ => rfl)
   (fun pre V => F2 Z2 V (W.heap.size + 1) D A' s.l.length c' Z.heap.size ((pre.map Prod.fst).foldl (metStep s) (s.l.map (s.inC x.clk), x.op)))
   (fun V => F2 Z2 V (W.heap.size + 1) D A' s.l.length c' Z.heap.size ((besideC s.acts x.clk).foldl (metStep s) (s.l.map (s.inC x.clk), x.op)))
   (fun _ A B h hT => h.turn hT (by omega) (by omega)) (fun _ A B h hT => h.turn hT (by omega) (by omega))
   ⟨Out.refl _ _, hob, hrow2, hmark⟩ ?round2 ?done2 ?end2
  case round2 =>
   rintro ll pre ⟨y, i0⟩ V hll ⟨rc, hrc⟩ hI hG
   simp only [actNum, Actn.agg, Actn.vals, putArgs2, List.setIfInBounds_toArray, List.set_cons_zero, List.set_cons_succ]
   repeat' (first | ((with_reducible refine regionIn_ff ?_); refine wpIn_region_r rfl ?_) | go_step | (with_reducible refine NoO.normal ?_))
   have eW : Below V.heap.size V (V.alloc (.cells #[.int .i64 y.op.kind, .int .i64 y.op.at_, .int .i32 y.op.char, .int .i64 y.op.rep, .int .i64 y.num, .int .i64 y.clk.c0, .int .i64 y.clk.c1, .int .i64 y.clk.c2, .int .i64 y.clk.c3, .int .i64 y.clk.c4, .int .i64 y.clk.c5, .int .i64 y.clk.c6, .int .i64 y.clk.c7] 46)) := balloc (Below.refl _ _)
   refine ⟨KeepN.of_below eW, KpX.of_below eW, fun W2 hB2 => ?_⟩
   have hI2 := (hI.step eW).begun hB2 hll (by omega)
   have hy2 := hB2.blk (Blk.new V 46 #[.int .i64 y.op.kind, .int .i64 y.op.at_, .int .i32 y.op.char, .int .i64 y.op.rep, .int .i64 y.num, .int .i64 y.clk.c0, .int .i64 y.clk.c1, .int .i64 y.clk.c2, .int .i64 y.clk.c3, .int .i64 y.clk.c4, .int .i64 y.clk.c5, .int .i64 y.clk.c6, .int .i64 y.clk.c7])
   have hVZ : Z2.heap.size ≤ V.heap.size := hI.out.size
   have hmem : (y, i0) ∈ bix s.acts x.clk := by
    obtain ⟨r, hr⟩ := hG
    rw [← hr]
    simp
   have hya : y ∈ s.acts := by
    have h1 := List.mem_map_of_mem (f := Prod.fst) hmem
    rw [bix_fst] at h1
    unfold besideC at h1
    exact (List.mem_filter.1 h1).1
   generalize V.heap.size = yb at *
   have Hsn := hid (show ((pre ++ [(y, i0)]).map Prod.fst).foldl (metStep s) (s.l.map (s.inC x.clk), x.op) = metStep s ((pre.map Prod.fst).foldl (metStep s) (s.l.map (s.inC x.clk), x.op)) y from by rw [List.map_append, List.foldl_append]; rfl)
   have hpl : ((pre.map Prod.fst).foldl (metStep s) (s.l.map (s.inC x.clk), x.op)).1.length = s.l.length := by rw [(foldMet s _ _).1, List.length_map]
   have hpin : ((pre.map Prod.fst).foldl (metStep s) (s.l.map (s.inC x.clk), x.op)).2.In := (foldMet s _ _).2 Hx.out
   generalize (pre.map Prod.fst).foldl (metStep s) (s.l.map (s.inC x.clk), x.op) = P at *
   have y0 : W2.cell? ⟨yb, 0, none⟩ = some (.int .i64 y.op.kind) := hy2.cell 0
   have yl := hy2.lt
   have Hy2 := hid hy2
   have HI2 := hid hI2
   clear hI hG eW hB2 hrc hmem hI2 hy2
   by_cases hkd : y.op.kind = 1
   · have hkd' : (y.op.kind == 1) = true := by simpa using hkd
     obtain ⟨i, hi, hil⟩ := ixOf_of_mem (Hst.out y hya hkd)
     have Hstep := hid (show metStep s P y = (P.1.set i true, Tof P.2 ⟨1, countT P.1 i, 0, y.op.rep⟩) from by unfold metStep; rw [if_pos hkd, hi]; rfl)
     clear hkd
     repeat' (first | (with_reducible refine stop_regionIn8 12 ?_) | ((with_reducible refine regionIn_ff ?_); refine wpIn_region_r rfl ?_) | go_step | (with_reducible refine NoO.normal ?_) | gi_step)
     refine Stop.go ?_
     clear y0 yl
     obtain ⟨g, cur, rfl, -, -, -, -, -, -⟩ := gown_bool HI2.out.row (by omega)
     clear cur
     have hgb2 := (hA2 _ rfl)
     dsimp only at hgb2
     have hO2 := HI2.out.out
     have hnS : ∀ b, b ≠ W.heap.size + 1 → b ≠ g → ¬ (b = W.heap.size + 1 ∨ ∃ a : Addr, some (⟨g, 0, none⟩ : Addr) = some a ∧ b = a.block) := fun b h1 h2 h => by
      rcases h with h | ⟨a, ha, h⟩
      · exact h1 h
      · injection ha with ha
        subst ha
        exact h2 h
     have D2' := drew_below W2
     have hlbV := (hO2.blk hlb2 (hnS _ (by omega) (by omega))).step D2'
     have hpbV := (hO2.blk hpb2 (hnS _ (by omega) (by omega))).step D2'
     have hcbV := (hO2.blk hcbW (hnS _ (by omega) (by omega))).step D2'
     have hfbV := (hO2.blk hfb (hnS _ (by omega) (by omega))).step D2'
     have hgV := (hg2.keep hO2.size fun b hb hs => hO2.block b hb (hnS _ (by have := Hblk.out b hs; omega) (by have := Hblk.out b hs; omega))).step D2'
     have hnumV := (hnum2.heap (hO2.block _ hnum2.lt (hnS _ (by omega) (by omega)))).heap (w' := W2.drew) rfl
     obtain ⟨e, he, hen, -⟩ := ixOf_get hi
     have hin' : (s.l.map El.nm)[i]? = some (s.name y) := by rw [List.getElem?_map, he, ← hen]; rfl
     have hnmI : (s.name y).In := by rw [← hen]; exact (Hgood.out e (List.mem_of_getElem? he)).nm
     have HM1 := hid (met_any W2.drew (w.heap.size + 3 + 1) (w.heap.size + 3) w.heap.size (w.heap.size + 3 + 1 + 1) g gb bm mb c d K (0 + s.l.length) s.l.length c' i Z.heap.size A B SM s P.1 y hpbV hlbV hcbV (HI2.out.row.step D2') hgV hnumV hin' hil hll' hnmI)
     have HT1 := hid (T_any P.2 ⟨1, ((countT P.1 i : Nat) : Int), 0, y.op.rep⟩)
     obtain ⟨F, hF⟩ : ∃ F, F = Tof P.2 ⟨1, ((countT P.1 i : Nat) : Int), 0, y.op.rep⟩ := ⟨_, rfl⟩
     rw [← hF] at HT1 Hstep
     obtain ⟨q, hq⟩ : ∃ q, q = countT P.1 i := ⟨_, rfl⟩
     rw [← hq] at HM1 HT1
     simp only [Actn.agg, Actn.vals, Opn.agg] at HM1 HT1
     have hyd := Hy2.out.step D2'
     obtain ⟨d0, d1, d2, d3, d4, d5, d6, d7, d8, d9, d10, d11, d13⟩ := cl13 (w := W2.drew) (g := yb) hyd; have dyl := (hyd).lt
     have hopd := HI2.out.op.step D2'
     unfold opCells at hopd
     obtain ⟨o0, o1, o2, o3⟩ := cl4 (w := W2.drew) (g := W.heap.size + 1) hopd
     have ol := hopd.lt
     have v0 : W2.drew.cell? ⟨W.heap.size, 0, none⟩ = some (.func (.func 113) #[] #[.pointer (some ⟨w.heap.size + 3 + 1, 0, none⟩), .pointer (some ⟨w.heap.size, 0, none⟩), .pointer (some ⟨w.heap.size + 3 + 1 + 1, 0, none⟩)]) := hfbV.cell 0
     have vl := hfbV.lt
     have qy : W2.drew.heap[yb]? = some (.cells #[.int .i64 y.op.kind, .int .i64 y.op.at_, .int .i32 y.op.char, .int .i64 y.op.rep, .int .i64 y.num, .int .i64 y.clk.c0, .int .i64 y.clk.c1, .int .i64 y.clk.c2, .int .i64 y.clk.c3, .int .i64 y.clk.c4, .int .i64 y.clk.c5, .int .i64 y.clk.c6, .int .i64 y.clk.c7] 46 (0, 0)) := hyd
     have qo : W2.drew.heap[W.heap.size + 1]? = some (.cells #[.int .i64 P.2.kind, .int .i64 P.2.at_, .int .i32 P.2.char, .int .i64 P.2.rep] 37 (0, 0)) := hopd
     have qf : W2.drew.heap[W.heap.size]? = some (.cells #[.func (.func 113) #[] #[.pointer (some ⟨w.heap.size + 3 + 1, 0, none⟩), .pointer (some ⟨w.heap.size, 0, none⟩), .pointer (some ⟨w.heap.size + 3 + 1 + 1, 0, none⟩)]] 136 (0, 0)) := hfbV
     have t1 : W.heap.size + 1 ≠ g := by omega
     have t2 : W.heap.size ≠ g := by omega
     have t3 : yb ≠ g := by omega
     have Hopd := hid hopd
     clear hlbV hpbV hcbV hfbV hgV hnumV he hin' hnmI hyd hopd hF hq hi hO2
     repeat' (first | ((with_reducible refine regionIn_at 12 ?_); refine wpIn_region_ordT (fun b => b ≠ g) rfl (rgo [0,4,8,13,17,23] .nil) (by kernel_rfl) (by kernel_rfl) (by kernel_rfl) rfl rfl ?_) | (go_at_call 113; go_must ((with_reducible refine Calls.mono HM1.out ?_); rintro _ w3 ⟨rfl, hR3, hO3⟩; have hk3 : KeepT (fun b => b ≠ g) W2.drew w3 := ⟨hO3.size, fun b hl hb => hO3.block b hl hb⟩; dsimp only)) | (go_at_call 114; go_must ((with_reducible refine Calls.mono (HT1.out _ hpin) ?_); rintro _ w4 ⟨rfl, hb4⟩; have ho4 := (hO3.blk Hopd.out t1).step hb4; obtain ⟨ql, q0, q1, q2, q3, f0, f1, f2, f3⟩ := bl4 ho4; dsimp only)) | (with_reducible first | refine Keep.last ?_ | refine Keep.below (by assumption) ?_ | refine Keep.kept (by assumption) ?_) | ((with_reducible refine WpO.here ?_); first | (refine WpO.done ?_; refine NoO.normal ?_) | (refine WpO.loadT (by rfl) (by rfl) (by go_simp; rfl) (by rintro _ _ ⟨⟩; exact ⟨_, _, _, _, _, _, by rfl, by assumption, by assumption⟩) ?_; go_frame) | refine WpO.wild ?_) | ((with_reducible refine wildO.here ?_); (refine wildO.go (by rfl) (fun _ _ => ?_))) | go_step)
     obtain ⟨g', cur, e9, -, hgB, -, -, -, -⟩ := gown_bool HI2.out.row (by omega)
     injection e9 with e9
     injection e9 with e9
     subst e9
     have hDg : D ≠ g := fun e9 => by
      have h9 := HI2.out.mark
      rw [e9] at h9
      unfold Blk at hgB
      rw [h9] at hgB
      cases hgB
     have hOW : Out (fun b => b = W.heap.size + 1 ∨ ∃ a : Addr, some (⟨g, 0, none⟩ : Addr) = some a ∧ b = a.block) W2 ((((w4.setCell ⟨W.heap.size + 1, 0, none⟩ (.int .i64 F.kind)).setCell ⟨W.heap.size + 1, 1, none⟩ (.int .i64 F.at_)).setCell ⟨W.heap.size + 1, 2, none⟩ (.int .i32 F.char)).setCell ⟨W.heap.size + 1, 3, none⟩ (.int .i64 F.rep)) := by
      have h1 : Out (fun b => b = W.heap.size + 1 ∨ ∃ a : Addr, some (⟨g, 0, none⟩ : Addr) = some a ∧ b = a.block) W2 w3 := (Out.drew (S := fun b => b = g)).trans hO3 (fun _ _ h => h) |>.trans (Out.refl _ _) (fun _ _ h => h) |> fun h => ⟨h.os, h.tape, h.output, h.size, fun k hk hn => h.block k hk fun e => hn (.inr ⟨_, rfl, e⟩)⟩
      have st : ∀ (U : World) (o : Nat) (v : Value), Out (fun b => b = W.heap.size + 1 ∨ ∃ a : Addr, some (⟨g, 0, none⟩ : Addr) = some a ∧ b = a.block) U (U.setCell ⟨W.heap.size + 1, o, none⟩ v) := fun U o v => Out.setCell (.inl rfl) v
      exact ((((h1.step8 hb4).trans (st _ _ _) fun _ _ h => h).trans (st _ _ _) fun _ _ h => h).trans (st _ _ _) fun _ _ h => h).trans (st _ _ _) fun _ _ h => h
     have hkk := F2.rounds (Z := Z2) (X := BsX (W.heap.size + 1 + 1) (W.heap.size + 1 + 1 + 1) gb A) hOW (by omega) (fun a ha => by have := hA2 a ha; omega) (fun b hb => (HXlt.out b hb).2)
     refine ⟨hkk.1, hkk.2, ?_⟩
     dsimp only
     rw [Hsn.out, Hstep.out]
     refine ⟨HI2.out.out.trans hOW fun _ _ h => h, (((ho4.set_ 0 (.int .i64 F.kind)).set_ 1 (.int .i64 F.at_)).set_ 2 (.int .i32 F.char)).set_ 3 (.int .i64 F.rep), ?_, (hOW.block D (lt_of_heap HI2.out.mark) (hnS D (by omega) hDg)).trans HI2.out.mark⟩
     exact (hR3.step hb4).keep (S := fun b => b ≠ W.heap.size + 1) (fun b hb _ => (Below.heap_setCell _ _ _ _ hb).trans ((Below.heap_setCell _ _ _ _ hb).trans ((Below.heap_setCell _ _ _ _ hb).trans (Below.heap_setCell _ _ _ _ hb)))) fun a ha => by injection ha with ha; subst ha; exact t1.symm
   · have hkd' : (y.op.kind == 1) = false := by simpa using hkd
     have Hstep := hid (show metStep s P y = P from by unfold metStep; rw [if_neg hkd])
     clear hkd
     repeat' (first | ((with_reducible refine regionIn_ff ?_); refine wpIn_region_r rfl ?_) | go_step | (with_reducible refine NoO.normal ?_) | gi_step)
     refine ⟨KeepN.refl _ _, KpX.refl _ _, ?_⟩
     dsimp only
     rw [Hsn.out, Hstep.out]
     exact HI2.out
  case done2 =>
   rintro xs V rfl h
   rwa [bix_fst] at h
  case end2 =>
   rintro D2 V hD2 hI2 hK2
   have hfe : f = ((besideC s.acts x.clk).foldl (metStep s) (s.l.map (s.inC x.clk), x.op)).2 := HF.out
   generalize (besideC s.acts x.clk).foldl (metStep s) (s.l.map (s.inC x.clk), x.op) = P at *
   subst hfe
   have hop := hI2.op
   unfold opCells at hop
   have o0 := hop.cell 0
   have o1 := hop.cell 1
   have o2 := hop.cell 2
   have o3 := hop.cell 3
   have ol := hop.lt
   simp at o0 o1 o2 o3
   have hrzV := hI2.out.blk hrz2 (by rintro (h | ⟨a, ha, h⟩); omega; have := hA2 a ha; omega)
   obtain ⟨zl, z0, z1, z2, z3, f0, f1, f2, f3⟩ := bl4 hrzV
   repeat' (first | go_step)
   have hz := (((hrzV.set_ 0 (.int .i64 P.2.kind)).set_ 1 (.int .i64 P.2.at_)).set_ 2 (.int .i32 P.2.char)).set_ 3 (.int .i64 P.2.rep)
   have hm2 := hI2.mark
   have hne : D ≠ D2 := by omega
   have oth : ∀ b, b ≠ w.heap.size + 1 + 1 → ((((V.setCell ⟨w.heap.size + 1 + 1, 0, none⟩ (.int .i64 P.2.kind)).setCell ⟨w.heap.size + 1 + 1, 1, none⟩ (.int .i64 P.2.at_)).setCell ⟨w.heap.size + 1 + 1, 2, none⟩ (.int .i32 P.2.char)).setCell ⟨w.heap.size + 1 + 1, 3, none⟩ (.int .i64 P.2.rep)).heap[b]? = V.heap[b]? := fun b hb => (Below.heap_setCell _ _ _ _ hb).trans ((Below.heap_setCell _ _ _ _ hb).trans ((Below.heap_setCell _ _ _ _ hb).trans (Below.heap_setCell _ _ _ _ hb)))
   have hbV : Below w.heap.size w ((((V.setCell ⟨w.heap.size + 1 + 1, 0, none⟩ (.int .i64 P.2.kind)).setCell ⟨w.heap.size + 1 + 1, 1, none⟩ (.int .i64 P.2.at_)).setCell ⟨w.heap.size + 1 + 1, 2, none⟩ (.int .i32 P.2.char)).setCell ⟨w.heap.size + 1 + 1, 3, none⟩ (.int .i64 P.2.rep)) := by
    have h1 : Below w.heap.size w V := ⟨hI2.out.os.trans hb2.os, hI2.out.tape.trans hb2.tape, hI2.out.output.trans hb2.output, Nat.le_trans hb2.size hI2.out.size, fun k hk => (hI2.out.block k (by omega) (by rintro (h | ⟨a, ha, h⟩); omega; have := hA2 a ha; omega)).trans (hb2.block k hk)⟩
    refine bset (bset (bset (bset h1 ?_) ?_) ?_) ?_ <;> (show w.heap.size ≤ w.heap.size + 1 + 1; omega)
   have m1 := (oth D2 (by omega)).trans hK2
   have m2 := (oth D (by omega)).trans hm2
   generalize (((V.setCell ⟨w.heap.size + 1 + 1, 0, none⟩ (.int .i64 P.2.kind)).setCell ⟨w.heap.size + 1 + 1, 1, none⟩ (.int .i64 P.2.at_)).setCell ⟨w.heap.size + 1 + 1, 2, none⟩ (.int .i32 P.2.char)).setCell ⟨w.heap.size + 1 + 1, 3, none⟩ (.int .i64 P.2.rep) = V4 at *
   have hz5 : Blk ((V4.putObj D2 (.deferred none)).putObj D (.deferred none)) (w.heap.size + 1 + 1) 37 _ := (World.putObj_heap_other (by omega)).trans ((World.putObj_heap_other (by omega)).trans hz)
   have v0 := hz5.cell 0
   have v1 := hz5.cell 1
   have v2 := hz5.cell 2
   have v3 := hz5.cell 3
   simp at v0 v1 v2 v3
   refine leaves2 (D := D2) (D' := D) m1 m2 hne (v := .agg #[.int .i64 P.2.kind, .int .i64 P.2.at_, .int .i32 P.2.char, .int .i64 P.2.rep]) (by rintro w' rfl; simp [results, Tryz.results77, go_sem, v0, v1, v2, v3]) ⟨rfl, ?_⟩
   exact ⟨hbV.os, hbV.tape, hbV.output, by simpa using hbV.size, fun k hk => (World.putObj_heap_other (by omega)).trans ((World.putObj_heap_other (by omega)).trans (hbV.block k hk))⟩
theorem refuse_any (w : World) (rb ce c d cl : Nat) (E A B L : Option Addr) (SR : Nat → Prop) (s : Lg) (x : Actn) (h : RgIn w rb E ce A c B d L cl SR s) (hb : s.base.length ≤ 1048576) (ha : s.acts.length ≤ 1048576) (hll : s.l.length ≤ 1048576) (hk : s.clk.In) (hst : s.Stand) (hx : x.In) :
 Calls Tryz.prog 104 #[.pointer (some ⟨rb, 0, none⟩), x.agg] w fun e w' => e = .returned (.tuple #[(if s.why x = 0 then s.form x else noOpn).agg, .int .i64 (s.why x)]) ∧ Below w.heap.size w w' := by
 obtain ⟨hX0, hB0, e0⟩ := twoBoxes w 46 37 x.vals #[.int .i64 0, .int .i64 0, .int .i32 0, .int .i64 0]
 have h0 := h.step e0
 have HX := hid hX0
 have HB := hid hB0
 have HG := hid h0
 have HR := hid (fun W => refRightOp_any x.op W)
 have HV := hid (fun W => refValid_any x.clk W)
 have HH := hid (fun W => refHas_any s.clk x.op.rep x.num W)
 have HY := hid (fun W => refReady_any s.clk x W hk)
 have HC := hid (fun W (hbb : Below ((w.alloc (.cells x.vals 46)).alloc (.cells #[.int .i64 0, .int .i64 0, .int .i32 0, .int .i64 0] 37)).heap.size ((w.alloc (.cells x.vals 46)).alloc (.cells #[.int .i64 0, .int .i64 0, .int .i32 0, .int .i64 0] 37)) W) => rcontext_any W rb ce c d cl E A B L SR s x.clk (h0.step hbb) hb ha)
 have HFm := hid (fun W (hbb : Below ((w.alloc (.cells x.vals 46)).alloc (.cells #[.int .i64 0, .int .i64 0, .int .i32 0, .int .i64 0] 37)).heap.size ((w.alloc (.cells x.vals 46)).alloc (.cells #[.int .i64 0, .int .i64 0, .int .i32 0, .int .i64 0] 37)) W) => rform_any W rb ce c d cl E A B L SR s x (h0.step hbb) hb ha hll hst hx.op)
 have HO := hid (fun W => refValidOp_any x.op (s.ctx x.clk) W)
 have hnum : -9223372036854775808 ≤ x.num ∧ x.num ≤ 9223372036854775807 := hx.num
 obtain ⟨v, hv⟩ : ∃ v, v = s.why x := ⟨_, rfl⟩
 rw [← hv]
 unfold Lg.why at hv
 have Hv := hid hv
 obtain ⟨p, hp⟩ : ∃ p, p = (if v = 0 then s.form x else noOpn) := ⟨_, rfl⟩
 rw [← hp]
 have Hp := hid hp
 clear h h0 hX0 hB0 hv hp hb ha hk hx hst hll
 obtain ⟨f, hf⟩ : ∃ f, f = s.form x := ⟨_, rfl⟩
 rw [← hf] at HFm Hp
 clear hf
 simp only [Actn.agg, Opn.agg, Clk.agg] at *
 unfold Actn.vals Clk.vals at *
 go_enter Tryz.func104, Tryz.ntmps104
 repeat' (first | (with_reducible refine stop_region 1 ?_) | go_step)
 refine Stop.go ?_
 generalize (w.alloc (.cells #[.int .i64 x.op.kind, .int .i64 x.op.at_, .int .i32 x.op.char, .int .i64 x.op.rep, .int .i64 x.num, .int .i64 x.clk.c0, .int .i64 x.clk.c1, .int .i64 x.clk.c2, .int .i64 x.clk.c3, .int .i64 x.clk.c4, .int .i64 x.clk.c5, .int .i64 x.clk.c6, .int .i64 x.clk.c7] 46)).alloc (.cells #[.int .i64 0, .int .i64 0, .int .i32 0, .int .i64 0] 37) = X at *
 have D := Below.refl X.heap.size X
 have hy := HX.out.step D
 obtain ⟨x0, x1, x2, x3, x4, x5, x6, x7, x8, x9, x10, x11, x12⟩ := cl13 (w := X) (g := w.heap.size) hy; have xl := (hy).lt
 repeat' (first | (with_reducible refine stop_region 2 ?_) | go_step)
 refine Stop.go ?_
 clear x0 x1 x2 x3 x4 x5 x6 x7 x8 x9 x10 x11 x12 xl
 clear D hy
 have D := drew_below X
 have hy := HX.out.step D
 obtain ⟨x0, x1, x2, x3, x4, x5, x6, x7, x8, x9, x10, x11, x12⟩ := cl13 (w := X.drew) (g := w.heap.size) hy; have xl := (hy).lt
 have Hnum := hid hnum
 clear hnum
 rcases hr : rightOp x.op with _ | _
 · rw [hr] at HR
   have Hr := hid hr
   clear hr
   repeat' (first | ((with_reducible refine region_at 2 ?_); refine wp_region_ordT (fun _ => True) (rgo [0,4,9,12,16,20,24,28,32,36,40,44,49,52,56,60,64,68,72,76,80,84,88,92,96,100] .nil) (by kernel_rfl) (by kernel_rfl) (by kernel_rfl) rfl rfl ?_) | (go_at_call 108; go_must ((with_reducible refine Calls.mono (HR.out _) ?_); rintro _ w1 ⟨rfl, hb1⟩; have D1 := bvia D hb1; have hy := HX.out.step D1; clear x0 x1 x2 x3 x4 x5 x6 x7 x8 x9 x10 x11 x12 xl; obtain ⟨x0, x1, x2, x3, x4, x5, x6, x7, x8, x9, x10, x11, x12⟩ := cl13 (w := w1) (g := w.heap.size) hy; have xl := (hy).lt; dsimp only)) | (with_reducible refine stop_region 3 ?_) | (with_reducible refine Keep.below (by assumption) ?_) | ((with_reducible refine WpO.here ?_); first | (refine WpO.done ?_; refine NoP.normal ?_) | ((first | refine WpO.load (by rfl) (by rfl) (by go_simp; rfl) ?_ | refine WpO.pure (by rfl) (fun w_ => by go_simp; (try go_bits); rfl) ?_ | refine WpO.skip (by rfl) ?_); go_frame) | refine WpO.wild ?_) | ((with_reducible refine wildO.here ?_); (refine wildO.go (by rfl) (fun _ _ => ?_))) | go_step)
   refine Stop.go ?_
   have hz := HB.out.step D1
   obtain ⟨zl, z0, z1, z2, z3, f0, f1, f2, f3⟩ := bl4 hz
   repeat' (first | go_step)
   have hz4 := (((hz.set_ 0 (.int .i64 noOpn.kind)).set_ 1 (.int .i64 noOpn.at_)).set_ 2 (.int .i32 noOpn.char)).set_ 3 (.int .i64 noOpn.rep)
   have v0 := hz4.cell 0
   have v1 := hz4.cell 1
   have v2 := hz4.cell 2
   have v3 := hz4.cell 3
   simp [noOpn] at v0 v1 v2 v3
   have hvv : v = 6 := by rw [Hv.out]; exact if_pos (.inl Hr.out)
   refine bodyPost_ret (v := .tuple #[.agg #[.int .i64 noOpn.kind, .int .i64 noOpn.at_, .int .i32 noOpn.char, .int .i64 noOpn.rep], .int .i64 6]) (by simp [results, Tryz.results104, go_sem, noOpn, v0, v1, v2, v3]) rfl ⟨?_, ?_⟩
   · rw [Hp.out, hvv]
     rfl
   · have hfin := bvia e0 D1
     refine bset (bset (bset (bset hfin ?_) ?_) ?_) ?_ <;> (show w.heap.size ≤ w.heap.size + 1; omega)
 · rw [hr] at HR
   have Hr := hid hr
   obtain ⟨k, hk, hk8⟩ := rightOp_rep8 hr
   have hk' : (k : Int) < 8 := by omega
   clear hr
   rw [hk] at HR HH
   simp only [hk] at HY HO HFm
   by_cases hn : x.num < 1
   · repeat' (first | ((with_reducible refine region_at 2 ?_); refine wp_region_ordT (fun _ => True) (rgo [0,4,9,12,16,20,24,28,32,36,40,44,49,52,56,60,64,68,72,76,80,84,88,92,96,100] .nil) (by kernel_rfl) (by kernel_rfl) (by kernel_rfl) rfl rfl ?_) | (go_at_call 108; go_must ((with_reducible refine Calls.mono (HR.out _) ?_); rintro _ w1 ⟨rfl, hb1⟩; have D1 := bvia D hb1; have hy := HX.out.step D1; clear x0 x1 x2 x3 x4 x5 x6 x7 x8 x9 x10 x11 x12 xl; obtain ⟨x0, x1, x2, x3, x4, x5, x6, x7, x8, x9, x10, x11, x12⟩ := cl13 (w := w1) (g := w.heap.size) hy; have xl := (hy).lt; dsimp only)) | (with_reducible refine stop_region 3 ?_) | (with_reducible refine Keep.below (by assumption) ?_) | ((with_reducible refine WpO.here ?_); first | (refine WpO.done ?_; refine NoP.normal ?_) | ((first | refine WpO.load (by rfl) (by rfl) (by go_simp; rfl) ?_ | refine WpO.pure (by rfl) (fun w_ => by go_simp; (try go_bits); rfl) ?_ | refine WpO.skip (by rfl) ?_); go_frame) | refine WpO.wild ?_) | ((with_reducible refine wildO.here ?_); (refine wildO.go (by rfl) (fun _ _ => ?_))) | go_step)
     refine Stop.go ?_
     have hz := HB.out.step D1
     obtain ⟨zl, z0, z1, z2, z3, f0, f1, f2, f3⟩ := bl4 hz
     repeat' (first | go_step)
     have hz4 := (((hz.set_ 0 (.int .i64 noOpn.kind)).set_ 1 (.int .i64 noOpn.at_)).set_ 2 (.int .i32 noOpn.char)).set_ 3 (.int .i64 noOpn.rep)
     have v0 := hz4.cell 0
     have v1 := hz4.cell 1
     have v2 := hz4.cell 2
     have v3 := hz4.cell 3
     simp [noOpn] at v0 v1 v2 v3
     have hvv : v = 6 := by rw [Hv.out]; exact if_pos (.inr (.inl hn))
     refine bodyPost_ret (v := .tuple #[.agg #[.int .i64 noOpn.kind, .int .i64 noOpn.at_, .int .i32 noOpn.char, .int .i64 noOpn.rep], .int .i64 6]) (by simp [results, Tryz.results104, go_sem, noOpn, v0, v1, v2, v3]) rfl ⟨?_, ?_⟩
     · rw [Hp.out, hvv]
       rfl
     · have hfin := bvia e0 D1
       refine bset (bset (bset (bset hfin ?_) ?_) ?_) ?_ <;> (show w.heap.size ≤ w.heap.size + 1; omega)
   · have hn0 := Hnum.out
     rcases hva : validC x.clk with _ | _
     · rw [hva] at HV
       have Hva := hid hva
       clear hva hn0
       repeat' (first | ((with_reducible refine region_at 2 ?_); refine wp_region_ordT (fun _ => True) (rgo [0,4,9,12,16,20,24,28,32,36,40,44,49,52,56,60,64,68,72,76,80,84,88,92,96,100] .nil) (by kernel_rfl) (by kernel_rfl) (by kernel_rfl) rfl rfl ?_) | (go_at_call 108; go_must ((with_reducible refine Calls.mono (HR.out _) ?_); rintro _ w1 ⟨rfl, hb1⟩; have D1 := bvia D hb1; have hy := HX.out.step D1; clear x0 x1 x2 x3 x4 x5 x6 x7 x8 x9 x10 x11 x12 xl; obtain ⟨x0, x1, x2, x3, x4, x5, x6, x7, x8, x9, x10, x11, x12⟩ := cl13 (w := w1) (g := w.heap.size) hy; have xl := (hy).lt; dsimp only)) | (go_at_call 136; go_must ((with_reducible refine Calls.mono (HV.out _) ?_); rintro _ w2 ⟨rfl, hb2⟩; have D2 := bvia D1 hb2; have hy := HX.out.step D2; clear x0 x1 x2 x3 x4 x5 x6 x7 x8 x9 x10 x11 x12 xl; obtain ⟨x0, x1, x2, x3, x4, x5, x6, x7, x8, x9, x10, x11, x12⟩ := cl13 (w := w2) (g := w.heap.size) hy; have xl := (hy).lt; (try have xk : w2.cell? ⟨w.heap.size, 5 + k, none⟩ = some (.int .i64 (x.clk.get k)) := (hy.cell (5 + k)).trans (x.vals_clk hk8)); dsimp only)) | (with_reducible refine stop_region 3 ?_) | (with_reducible refine Keep.below (by assumption) ?_) | ((with_reducible refine WpO.here ?_); first | (refine WpO.done ?_; refine NoP.normal ?_) | ((first | refine WpO.load (by rfl) (by rfl) (by go_simp; rfl) ?_ | refine WpO.pure (by rfl) (fun w_ => by go_simp; (try go_bits); rfl) ?_ | refine WpO.skip (by rfl) ?_); go_frame) | refine WpO.wild ?_) | ((with_reducible refine wildO.here ?_); (refine wildO.go (by rfl) (fun _ _ => ?_))) | go_step)
       refine Stop.go ?_
       have hz := HB.out.step D2
       obtain ⟨zl, z0, z1, z2, z3, f0, f1, f2, f3⟩ := bl4 hz
       repeat' (first | go_step)
       have hz4 := (((hz.set_ 0 (.int .i64 noOpn.kind)).set_ 1 (.int .i64 noOpn.at_)).set_ 2 (.int .i32 noOpn.char)).set_ 3 (.int .i64 noOpn.rep)
       have v0 := hz4.cell 0
       have v1 := hz4.cell 1
       have v2 := hz4.cell 2
       have v3 := hz4.cell 3
       simp [noOpn] at v0 v1 v2 v3
       have hvv : v = 6 := by rw [Hv.out]; exact if_pos (.inr (.inr (.inl Hva.out)))
       refine bodyPost_ret (v := .tuple #[.agg #[.int .i64 noOpn.kind, .int .i64 noOpn.at_, .int .i32 noOpn.char, .int .i64 noOpn.rep], .int .i64 6]) (by simp [results, Tryz.results104, go_sem, noOpn, v0, v1, v2, v3]) rfl ⟨?_, ?_⟩
       · rw [Hp.out, hvv]
         rfl
       · have hfin := bvia e0 D2
         refine bset (bset (bset (bset hfin ?_) ?_) ?_) ?_ <;> (show w.heap.size ≤ w.heap.size + 1; omega)
     · rw [hva] at HV
       have Hva := hid hva
       clear hva
       have hkt : x.op.rep.toNat = k := by rw [hk]; rfl
       by_cases hc : x.clk.get k = x.num - 1
       · have hcd : (x.clk.get k != x.num - 1) = false := by simpa using hc
         have Hc1 := hid (show ¬ (rightOp x.op = false ∨ x.num < 1 ∨ validC x.clk = false ∨ x.clk.get x.op.rep.toNat ≠ x.num - 1) by
          rintro (h | h | h | h)
          · rw [Hr.out] at h; cases h
          · exact hn h
          · rw [Hva.out] at h; cases h
          · rw [hkt] at h; exact h hc)
         clear hc hkt
         repeat' (first | ((with_reducible refine region_at 2 ?_); refine wp_region_ordT (fun _ => True) (rgo [0,4,9,12,16,20,24,28,32,36,40,44,49,52,56,60,64,68,72,76,80,84,88,92,96,100] .nil) (by kernel_rfl) (by kernel_rfl) (by kernel_rfl) rfl rfl ?_) | (go_at_call 108; go_must ((with_reducible refine Calls.mono (HR.out _) ?_); rintro _ w1 ⟨rfl, hb1⟩; have D1 := bvia D hb1; have hy := HX.out.step D1; clear x0 x1 x2 x3 x4 x5 x6 x7 x8 x9 x10 x11 x12 xl; obtain ⟨x0, x1, x2, x3, x4, x5, x6, x7, x8, x9, x10, x11, x12⟩ := cl13 (w := w1) (g := w.heap.size) hy; have xl := (hy).lt; dsimp only)) | (go_at_call 136; go_must ((with_reducible refine Calls.mono (HV.out _) ?_); rintro _ w2 ⟨rfl, hb2⟩; have D2 := bvia D1 hb2; have hy := HX.out.step D2; clear x0 x1 x2 x3 x4 x5 x6 x7 x8 x9 x10 x11 x12 xl; obtain ⟨x0, x1, x2, x3, x4, x5, x6, x7, x8, x9, x10, x11, x12⟩ := cl13 (w := w2) (g := w.heap.size) hy; have xl := (hy).lt; (try have xk : w2.cell? ⟨w.heap.size, 5 + k, none⟩ = some (.int .i64 (x.clk.get k)) := (hy.cell (5 + k)).trans (x.vals_clk hk8)); dsimp only)) | (with_reducible refine stop_region 4 ?_) | (with_reducible refine Keep.below (by assumption) ?_) | ((with_reducible refine WpO.here ?_); first | (refine WpO.done ?_; refine NoP.normal ?_) | ((first | refine WpO.load (by rfl) (by rfl) (by go_simp; rfl) ?_ | refine WpO.pure (by rfl) (fun w_ => by go_simp; (try go_bits); rfl) ?_); go_frame) | refine WpO.wild ?_) | ((with_reducible refine wildO.here ?_); (refine wildO.go (by rfl) (fun _ _ => ?_))) | go_step)
         refine Stop.go ?_
         have D4 := bvia D2 (drew_below w2)
         clear x0 x1 x2 x3 x4 x5 x6 x7 x8 x9 x10 x11 x12 xl
         clear hy hcd hn0 hn D1 D hb1 hb2 HV HR
         have hy := HX.out.step D4
         have hg := (HG.out.step D4).g
         obtain ⟨x0, x1, x2, x3, x4, x5, x6, x7, x8, x9, x10, x11, x12⟩ := cl13 (w := w2.drew) (g := w.heap.size) hy; have xl := (hy).lt
         have g4 : w2.drew.cell? ⟨rb, 4, none⟩ = some (.int .i64 s.clk.c0) := (hg).cell 4; have g5 : w2.drew.cell? ⟨rb, 5, none⟩ = some (.int .i64 s.clk.c1) := (hg).cell 5; have g6 : w2.drew.cell? ⟨rb, 6, none⟩ = some (.int .i64 s.clk.c2) := (hg).cell 6; have g7 : w2.drew.cell? ⟨rb, 7, none⟩ = some (.int .i64 s.clk.c3) := (hg).cell 7; have g8 : w2.drew.cell? ⟨rb, 8, none⟩ = some (.int .i64 s.clk.c4) := (hg).cell 8; have g9 : w2.drew.cell? ⟨rb, 9, none⟩ = some (.int .i64 s.clk.c5) := (hg).cell 9; have g10 : w2.drew.cell? ⟨rb, 10, none⟩ = some (.int .i64 s.clk.c6) := (hg).cell 10; have g11 : w2.drew.cell? ⟨rb, 11, none⟩ = some (.int .i64 s.clk.c7) := (hg).cell 11; have gl := (hg).lt
         clear hg xk
         rcases hh : hasC s.clk x.op.rep x.num with _ | _
         · have Hh := hid hh
           rw [hk] at hh
           rw [hh] at HH
           clear hh
           repeat' (first | ((with_reducible refine region_at 4 ?_); refine wp_region_order (rgl [0,4,8,12,16,20,24,29,32]) (by kernel_rfl) (by kernel_rfl) (by kernel_rfl) rfl rfl ?_) | (go_at_call 52; go_must ((with_reducible refine Calls.mono (HH.out _) ?_); rintro _ w3 ⟨rfl, hb3⟩; have D3 := bvia D4 hb3; dsimp only)) | (with_reducible refine stop_region 6 ?_) | (with_reducible refine Keep.below (by assumption) ?_) | ((with_reducible refine WpH.here ?_); first | (refine WpH.nil ?_; refine NoP.normal ?_) | ((first | refine WpH.load (by rfl) (by rfl) (by go_simp; rfl) ?_ | refine WpH.pure (by rfl) (fun w_ => by go_simp; (try go_bits); rfl) ?_); go_frame) | (refine WpH.wild1 (by rfl) (fun _ _ => ?_))) | go_step)
           refine Stop.go ?_
           have D6 := bvia D3 (drew_below w3)
           clear x0 x1 x2 x3 x4 x5 x6 x7 x8 x9 x10 x11 x12 xl
           clear hy g4 g5 g6 g7 g8 g9 g10 g11 gl D4 hb3 HH
           have hy := HX.out.step D6
           have hg := (HG.out.step D6).g
           obtain ⟨x0, x1, x2, x3, x4, x5, x6, x7, x8, x9, x10, x11, x12⟩ := cl13 (w := w3.drew) (g := w.heap.size) hy; have xl := (hy).lt
           have g4 : w3.drew.cell? ⟨rb, 4, none⟩ = some (.int .i64 s.clk.c0) := (hg).cell 4; have g5 : w3.drew.cell? ⟨rb, 5, none⟩ = some (.int .i64 s.clk.c1) := (hg).cell 5; have g6 : w3.drew.cell? ⟨rb, 6, none⟩ = some (.int .i64 s.clk.c2) := (hg).cell 6; have g7 : w3.drew.cell? ⟨rb, 7, none⟩ = some (.int .i64 s.clk.c3) := (hg).cell 7; have g8 : w3.drew.cell? ⟨rb, 8, none⟩ = some (.int .i64 s.clk.c4) := (hg).cell 8; have g9 : w3.drew.cell? ⟨rb, 9, none⟩ = some (.int .i64 s.clk.c5) := (hg).cell 9; have g10 : w3.drew.cell? ⟨rb, 10, none⟩ = some (.int .i64 s.clk.c6) := (hg).cell 10; have g11 : w3.drew.cell? ⟨rb, 11, none⟩ = some (.int .i64 s.clk.c7) := (hg).cell 11; have gl := (hg).lt
           clear hg
           rcases hrd : readyC s.clk x with _ | _
           · rw [hrd] at HY
             have Hrd := hid hrd
             clear hrd
             repeat' (first | ((with_reducible refine region_at 6 ?_); refine wp_region_order (rgl [0,4,8,12,16,21,24,28]) (by kernel_rfl) (by kernel_rfl) (by kernel_rfl) rfl rfl ?_) | (go_at_call 88; go_must ((with_reducible refine Calls.mono (HY.out _) ?_); rintro _ w5 ⟨rfl, hb5⟩; have D5 := bvia D6 hb5; dsimp only)) | (with_reducible refine stop_region 7 ?_) | (with_reducible refine Keep.below (by assumption) ?_) | ((with_reducible refine WpH.here ?_); first | (refine WpH.nil ?_; refine NoP.normal ?_) | ((first | refine WpH.load (by rfl) (by rfl) (by go_simp; rfl) ?_ | refine WpH.pure (by rfl) (fun w_ => by go_simp; (try go_bits); rfl) ?_); go_frame) | (refine WpH.wild1 (by rfl) (fun _ _ => ?_))) | go_step)
             refine Stop.go ?_
             have hz := HB.out.step D5
             obtain ⟨zl, z0, z1, z2, z3, f0, f1, f2, f3⟩ := bl4 hz
             repeat' (first | go_step)
             have hz4 := (((hz.set_ 0 (.int .i64 noOpn.kind)).set_ 1 (.int .i64 noOpn.at_)).set_ 2 (.int .i32 noOpn.char)).set_ 3 (.int .i64 noOpn.rep)
             have v0 := hz4.cell 0
             have v1 := hz4.cell 1
             have v2 := hz4.cell 2
             have v3 := hz4.cell 3
             simp [noOpn] at v0 v1 v2 v3
             have hvv : v = 8 := by rw [Hv.out]; exact (if_neg Hc1.out).trans ((if_neg (by rw [Hh.out]; simp)).trans (if_pos Hrd.out))
             refine bodyPost_ret (v := .tuple #[.agg #[.int .i64 noOpn.kind, .int .i64 noOpn.at_, .int .i32 noOpn.char, .int .i64 noOpn.rep], .int .i64 8]) (by simp [results, Tryz.results104, go_sem, noOpn, v0, v1, v2, v3]) rfl ⟨?_, ?_⟩
             · rw [Hp.out, hvv]
               rfl
             · have hfin := bvia e0 D5
               refine bset (bset (bset (bset hfin ?_) ?_) ?_) ?_ <;> (show w.heap.size ≤ w.heap.size + 1; omega)
           · rw [hrd] at HY
             have Hrd := hid hrd
             clear hrd
             repeat' (first | ((with_reducible refine region_at 6 ?_); refine wp_region_order (rgl [0,4,8,12,16,21,24,28]) (by kernel_rfl) (by kernel_rfl) (by kernel_rfl) rfl rfl ?_) | (go_at_call 88; go_must ((with_reducible refine Calls.mono (HY.out _) ?_); rintro _ w5 ⟨rfl, hb5⟩; have D5 := bvia D6 hb5; dsimp only)) | (with_reducible refine stop_region 8 ?_) | (with_reducible refine Keep.below (by assumption) ?_) | ((with_reducible refine WpH.here ?_); first | (refine WpH.nil ?_; refine NoP.normal ?_) | ((first | refine WpH.load (by rfl) (by rfl) (by go_simp; rfl) ?_ | refine WpH.pure (by rfl) (fun w_ => by go_simp; (try go_bits); rfl) ?_); go_frame) | (refine WpH.wild1 (by rfl) (fun _ _ => ?_))) | go_step)
             refine Stop.go ?_
             have D8 := bvia D5 (drew_below w5)
             clear x0 x1 x2 x3 x4 x5 x6 x7 x8 x9 x10 x11 x12 xl
             clear hy g4 g5 g6 g7 g8 g9 g10 g11 gl D6 hb5 HY
             have hy := HX.out.step D8
             obtain ⟨x0, x1, x2, x3, x4, x5, x6, x7, x8, x9, x10, x11, x12⟩ := cl13 (w := w5.drew) (g := w.heap.size) hy; have xl := (hy).lt
             rcases hvo : validOp x.op (s.ctx x.clk) with _ | _
             · rw [hvo] at HO
               have Hvo := hid hvo
               clear hvo
               repeat' (first | ((with_reducible refine region_at 8 ?_); refine wp_region_order (rgl [0,4,8,12,16,21,25,28,32]) (by kernel_rfl) (by kernel_rfl) (by kernel_rfl) rfl rfl ?_) | (go_at_call 42; go_must ((with_reducible refine Calls.mono (HC.out _ D8) ?_); rintro _ w6 ⟨rfl, hb6⟩; have D7 := bvia D8 hb6; dsimp only)) | (go_at_call 137; go_must ((with_reducible refine Calls.mono (HO.out _) ?_); rintro _ w7 ⟨rfl, hb7⟩; have D9 := bvia D7 hb7; dsimp only)) | (with_reducible refine stop_region 9 ?_) | (with_reducible refine Keep.below (by assumption) ?_) | ((with_reducible refine WpH.here ?_); first | (refine WpH.nil ?_; refine NoP.normal ?_) | ((first | refine WpH.load (by rfl) (by rfl) (by go_simp; rfl) ?_ | refine WpH.pure (by rfl) (fun w_ => by go_simp; (try go_bits); rfl) ?_); go_frame) | (refine WpH.wild1 (by rfl) (fun _ _ => ?_))) | go_step)
               refine Stop.go ?_
               have hz := HB.out.step D9
               obtain ⟨zl, z0, z1, z2, z3, f0, f1, f2, f3⟩ := bl4 hz
               repeat' (first | go_step)
               have hz4 := (((hz.set_ 0 (.int .i64 noOpn.kind)).set_ 1 (.int .i64 noOpn.at_)).set_ 2 (.int .i32 noOpn.char)).set_ 3 (.int .i64 noOpn.rep)
               have v0 := hz4.cell 0
               have v1 := hz4.cell 1
               have v2 := hz4.cell 2
               have v3 := hz4.cell 3
               simp [noOpn] at v0 v1 v2 v3
               have hvv : v = 2 := by rw [Hv.out]; exact (if_neg Hc1.out).trans ((if_neg (by rw [Hh.out]; simp)).trans ((if_neg (by rw [Hrd.out]; simp)).trans (if_pos Hvo.out)))
               refine bodyPost_ret (v := .tuple #[.agg #[.int .i64 noOpn.kind, .int .i64 noOpn.at_, .int .i32 noOpn.char, .int .i64 noOpn.rep], .int .i64 2]) (by simp [results, Tryz.results104, go_sem, noOpn, v0, v1, v2, v3]) rfl ⟨?_, ?_⟩
               · rw [Hp.out, hvv]
                 rfl
               · have hfin := bvia e0 D9
                 refine bset (bset (bset (bset hfin ?_) ?_) ?_) ?_ <;> (show w.heap.size ≤ w.heap.size + 1; omega)
             · rw [hvo] at HO
               have Hvo := hid hvo
               clear hvo
               repeat' (first | ((with_reducible refine region_at 8 ?_); refine wp_region_order (rgl [0,4,8,12,16,21,25,28,32]) (by kernel_rfl) (by kernel_rfl) (by kernel_rfl) rfl rfl ?_) | (go_at_call 42; go_must ((with_reducible refine Calls.mono (HC.out _ D8) ?_); rintro _ w6 ⟨rfl, hb6⟩; have D7 := bvia D8 hb6; dsimp only)) | (go_at_call 137; go_must ((with_reducible refine Calls.mono (HO.out _) ?_); rintro _ w7 ⟨rfl, hb7⟩; have D9 := bvia D7 hb7; dsimp only)) | (with_reducible refine stop_region 10 ?_) | (with_reducible refine Keep.below (by assumption) ?_) | ((with_reducible refine WpH.here ?_); first | (refine WpH.nil ?_; refine NoP.normal ?_) | ((first | refine WpH.load (by rfl) (by rfl) (by go_simp; rfl) ?_ | refine WpH.pure (by rfl) (fun w_ => by go_simp; (try go_bits); rfl) ?_); go_frame) | (refine WpH.wild1 (by rfl) (fun _ _ => ?_))) | go_step)
               refine Stop.go ?_
               clear x0 x1 x2 x3 x4 x5 x6 x7 x8 x9 x10 x11 x12 xl
               clear hy
               have hy := HX.out.step D9
               obtain ⟨x0, x1, x2, x3, x4, x5, x6, x7, x8, x9, x10, x11, x12⟩ := cl13 (w := w7) (g := w.heap.size) hy; have xl := (hy).lt
               repeat' (first | (go_at_call 138; go_must ((with_reducible refine Calls.mono (HFm.out _ D9) ?_); rintro _ w8 ⟨rfl, hb8⟩; have D10 := bvia D9 hb8; have hz := HB.out.step D10; obtain ⟨zl, z0, z1, z2, z3, f0, f1, f2, f3⟩ := bl4 hz; dsimp only)) | go_step)
               have hz := HB.out.step D10
               have hz4 := (((hz.set_ 0 (.int .i64 f.kind)).set_ 1 (.int .i64 f.at_)).set_ 2 (.int .i32 f.char)).set_ 3 (.int .i64 f.rep)
               have v0 := hz4.cell 0
               have v1 := hz4.cell 1
               have v2 := hz4.cell 2
               have v3 := hz4.cell 3
               simp [noOpn] at v0 v1 v2 v3
               have hvv : v = 0 := by rw [Hv.out]; exact (if_neg Hc1.out).trans ((if_neg (by rw [Hh.out]; simp)).trans ((if_neg (by rw [Hrd.out]; simp)).trans (if_neg (by rw [Hvo.out]; simp))))
               refine bodyPost_ret (v := .tuple #[.agg #[.int .i64 f.kind, .int .i64 f.at_, .int .i32 f.char, .int .i64 f.rep], .int .i64 0]) (by simp [results, Tryz.results104, go_sem, noOpn, v0, v1, v2, v3]) rfl ⟨?_, ?_⟩
               · rw [Hp.out, hvv]
                 rfl
               · have hfin := bvia e0 D10
                 refine bset (bset (bset (bset hfin ?_) ?_) ?_) ?_ <;> (show w.heap.size ≤ w.heap.size + 1; omega)
         · have Hh := hid hh
           rw [hk] at hh
           rw [hh] at HH
           clear hh
           repeat' (first | ((with_reducible refine region_at 4 ?_); refine wp_region_order (rgl [0,4,8,12,16,20,24,29,32]) (by kernel_rfl) (by kernel_rfl) (by kernel_rfl) rfl rfl ?_) | (go_at_call 52; go_must ((with_reducible refine Calls.mono (HH.out _) ?_); rintro _ w3 ⟨rfl, hb3⟩; have D3 := bvia D4 hb3; dsimp only)) | (with_reducible refine stop_region 5 ?_) | (with_reducible refine Keep.below (by assumption) ?_) | ((with_reducible refine WpH.here ?_); first | (refine WpH.nil ?_; refine NoP.normal ?_) | ((first | refine WpH.load (by rfl) (by rfl) (by go_simp; rfl) ?_ | refine WpH.pure (by rfl) (fun w_ => by go_simp; (try go_bits); rfl) ?_); go_frame) | (refine WpH.wild1 (by rfl) (fun _ _ => ?_))) | go_step)
           refine Stop.go ?_
           have hz := HB.out.step D3
           obtain ⟨zl, z0, z1, z2, z3, f0, f1, f2, f3⟩ := bl4 hz
           repeat' (first | go_step)
           have hz4 := (((hz.set_ 0 (.int .i64 noOpn.kind)).set_ 1 (.int .i64 noOpn.at_)).set_ 2 (.int .i32 noOpn.char)).set_ 3 (.int .i64 noOpn.rep)
           have v0 := hz4.cell 0
           have v1 := hz4.cell 1
           have v2 := hz4.cell 2
           have v3 := hz4.cell 3
           simp [noOpn] at v0 v1 v2 v3
           have hvv : v = 9 := by rw [Hv.out]; exact (if_neg Hc1.out).trans (if_pos Hh.out)
           refine bodyPost_ret (v := .tuple #[.agg #[.int .i64 noOpn.kind, .int .i64 noOpn.at_, .int .i32 noOpn.char, .int .i64 noOpn.rep], .int .i64 9]) (by simp [results, Tryz.results104, go_sem, noOpn, v0, v1, v2, v3]) rfl ⟨?_, ?_⟩
           · rw [Hp.out, hvv]
             rfl
           · have hfin := bvia e0 D3
             refine bset (bset (bset (bset hfin ?_) ?_) ?_) ?_ <;> (show w.heap.size ≤ w.heap.size + 1; omega)
       · have hcd : (x.clk.get k != x.num - 1) = true := by simpa using hc
         have Hc := hid (show x.clk.get x.op.rep.toNat ≠ x.num - 1 by rw [hkt]; exact hc)
         clear hc hkt
         repeat' (first | ((with_reducible refine region_at 2 ?_); refine wp_region_ordT (fun _ => True) (rgo [0,4,9,12,16,20,24,28,32,36,40,44,49,52,56,60,64,68,72,76,80,84,88,92,96,100] .nil) (by kernel_rfl) (by kernel_rfl) (by kernel_rfl) rfl rfl ?_) | (go_at_call 108; go_must ((with_reducible refine Calls.mono (HR.out _) ?_); rintro _ w1 ⟨rfl, hb1⟩; have D1 := bvia D hb1; have hy := HX.out.step D1; clear x0 x1 x2 x3 x4 x5 x6 x7 x8 x9 x10 x11 x12 xl; obtain ⟨x0, x1, x2, x3, x4, x5, x6, x7, x8, x9, x10, x11, x12⟩ := cl13 (w := w1) (g := w.heap.size) hy; have xl := (hy).lt; dsimp only)) | (go_at_call 136; go_must ((with_reducible refine Calls.mono (HV.out _) ?_); rintro _ w2 ⟨rfl, hb2⟩; have D2 := bvia D1 hb2; have hy := HX.out.step D2; clear x0 x1 x2 x3 x4 x5 x6 x7 x8 x9 x10 x11 x12 xl; obtain ⟨x0, x1, x2, x3, x4, x5, x6, x7, x8, x9, x10, x11, x12⟩ := cl13 (w := w2) (g := w.heap.size) hy; have xl := (hy).lt; (try have xk : w2.cell? ⟨w.heap.size, 5 + k, none⟩ = some (.int .i64 (x.clk.get k)) := (hy.cell (5 + k)).trans (x.vals_clk hk8)); dsimp only)) | (with_reducible refine stop_region 3 ?_) | (with_reducible refine Keep.below (by assumption) ?_) | ((with_reducible refine WpO.here ?_); first | (refine WpO.done ?_; refine NoP.normal ?_) | ((first | refine WpO.load (by rfl) (by rfl) (by go_simp; rfl) ?_ | refine WpO.pure (by rfl) (fun w_ => by go_simp; (try go_bits); rfl) ?_); go_frame) | refine WpO.wild ?_) | ((with_reducible refine wildO.here ?_); (refine wildO.go (by rfl) (fun _ _ => ?_))) | go_step)
         refine Stop.go ?_
         have hz := HB.out.step D2
         obtain ⟨zl, z0, z1, z2, z3, f0, f1, f2, f3⟩ := bl4 hz
         repeat' (first | go_step)
         have hz4 := (((hz.set_ 0 (.int .i64 noOpn.kind)).set_ 1 (.int .i64 noOpn.at_)).set_ 2 (.int .i32 noOpn.char)).set_ 3 (.int .i64 noOpn.rep)
         have v0 := hz4.cell 0
         have v1 := hz4.cell 1
         have v2 := hz4.cell 2
         have v3 := hz4.cell 3
         simp [noOpn] at v0 v1 v2 v3
         have hvv : v = 6 := by rw [Hv.out]; exact if_pos (.inr (.inr (.inr Hc.out)))
         refine bodyPost_ret (v := .tuple #[.agg #[.int .i64 noOpn.kind, .int .i64 noOpn.at_, .int .i32 noOpn.char, .int .i64 noOpn.rep], .int .i64 6]) (by simp [results, Tryz.results104, go_sem, noOpn, v0, v1, v2, v3]) rfl ⟨?_, ?_⟩
         · rw [Hp.out, hvv]
           rfl
         · have hfin := bvia e0 D2
           refine bset (bset (bset (bset hfin ?_) ?_) ?_) ?_ <;> (show w.heap.size ≤ w.heap.size + 1; omega)
end Go.Proofs.YteggpddlkkjmjaaGreatDoor
