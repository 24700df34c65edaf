/- Part of a proof: what functions of the program compute. Conditions: as each theorem says. -/
import Derived.Maps.RangeWalk
import Derived.Test.YteggpddlkkjmjaaGreatDoorQ48
set_option linter.unusedSimpArgs false
set_option linter.unusedVariables false
set_option maxHeartbeats 4000000
set_option maxRecDepth 100000
namespace Go.Proofs.YteggpddlkkjmjaaGreatDoor
open Go Go.RowKit
variable {a : Nat → Addr}
structure Lg.Fine (s : Lg) (K : Nat) : Prop where
 base : s.base.length ≤ 1048576
 acts : s.acts.length ≤ 1048576
 forms : s.forms.length ≤ 1048576
 l : s.l.length ≤ 1048576
 clk : s.clk.In
 st : s.Stand
 epo : s.Epo
 nd : (s.l.map El.nm).Nodup
 calm : Calm 900000 s.l
 ep : I64 s.ep
 k : K ≤ 1099511627775
theorem Lg.Fine.fits {s : Lg} {K : Nat} (h : s.Fine K) : s.Fits K := ⟨h.l, h.acts, h.forms, h.k, h.calm⟩
theorem Lg.why_le (s : Lg) (x : Actn) : s.why x ≤ 13 := by
 unfold Lg.why
 repeat' split
 all_goals omega
theorem Tof_fold_rep (s : Lg) : ∀ (L : List Actn) (p : List Bool × Opn), (L.foldl (metStep s) p).2.rep = p.2.rep
 | [], p => rfl
 | y :: L, p => by
  rw [List.foldl_cons, Tof_fold_rep s L]
  unfold metStep
  split
  · exact Tof_rep _ _
  · rfl
theorem form_rep (s : Lg) (x : Actn) : (s.form x).rep = x.op.rep := Tof_fold_rep s _ _
def Lg.takeCode (s : Lg) (x : Actn) : Nat := if s.why x = 0 then whyOf s.l (s.form x) (s.name x) else s.why x
def Lg.takeCh (s : Lg) (x : Actn) : List Lk := ⟨({ data := #[104, 105, 115, 116, 111, 114, 121] } : ByteArray), ({ data := #[84, 97, 107, 101] } : ByteArray), atOf x.num⟩ :: (if s.why x = 0 then chOf (s.form x) (whyOf s.l (s.form x) (s.name x)) else [])
def Lg.takeOf (s : Lg) (x : Actn) : Lg := if s.why x = 0 then s.deliver x (s.form x) else s
def Lg.formOf (s : Lg) (x : Actn) : Opn := if s.takeCode x = 0 then s.form x else noOpn
def Lg.issueCode (s : Lg) (o : Opn) : Nat := whyOf s.l o (s.name (s.actOf o))
def Lg.issueCh (s : Lg) (o : Opn) : List Lk := ⟨({ data := #[104, 105, 115, 116, 111, 114, 121] } : ByteArray), ({ data := #[73, 115, 115, 117, 101] } : ByteArray), atOf o.at_⟩ :: chOf o (s.issueCode o)
def Lg.issueOf (s : Lg) (o : Opn) : Lg := s.deliver (s.actOf o) o
def Lg.issued (s : Lg) (o : Opn) : Actn := if s.issueCode o = 0 then s.actOf o else noActn
theorem LogAt.step {w w' : World} {S : Nat → Prop} {gb K : Nat} {s : Lg} (h : LogAt w S gb s K) (hb : Below w.heap.size w w') : LogAt w' S gb s K := by
 obtain ⟨bm, mb, A, c, B, d, SM, h1, h2⟩ := h
 exact ⟨bm, mb, A, c, B, d, SM, h1.step hb, h2⟩
theorem LogAt.more {w : World} {S S' : Nat → Prop} {gb K : Nat} {s : Lg} (h : LogAt w S gb s K) (hs : ∀ b, S b → S' b) : LogAt w S' gb s K := by
 obtain ⟨bm, mb, A, c, B, d, SM, h1, h2⟩ := h
 exact ⟨bm, mb, A, c, B, d, SM, h1, fun b hb => hs b (h2 b hb)⟩
theorem LogAt.monoK {w : World} {S : Nat → Prop} {gb K K' : Nat} {s : Lg} (h : LogAt w S gb s K) (hk : K ≤ K') : LogAt w S gb s K' := by
 obtain ⟨bm, mb, A, c, B, d, SM, h1, h2⟩ := h
 exact ⟨bm, mb, A, c, B, d, SM, h1.monoK hk, h2⟩
theorem LgIn.blk_lt {w : World} {gb bm mb c d K : Nat} {A B : Option Addr} {SM : Nat → Prop} {s : Lg} (h : LgIn w gb bm mb A c B d SM s K) : ∀ b, LgBlk gb bm A B SM b → b < w.heap.size := by
 rintro b (hb | rfl | rfl | ⟨y, hy, rfl⟩ | ⟨y, hy, rfl⟩)
 · exact (h.sm b hb).1
 · exact h.g.lt
 · exact h.i.lt
 · exact (h.a.block y hy).2
 · exact (h.b.block y hy).2
theorem LogAt.cut {w : World} {S : Nat → Prop} {gb K : Nat} {s : Lg} (h : LogAt w S gb s K) : LogAt w (fun b => S b ∧ b < w.heap.size) gb s K := by
 obtain ⟨bm, mb, A, c, B, d, SM, h1, h2⟩ := h
 exact ⟨bm, mb, A, c, B, d, SM, h1, fun b hb => ⟨h2 b hb, h1.blk_lt b hb⟩⟩
theorem LogAt.keep {w w' : World} {S : Nat → Prop} {gb K : Nat} {s : Lg} (h : LogAt w S gb s K) (hz : w.heap.size ≤ w'.heap.size) (hk : ∀ b, b < w.heap.size → S b → w'.heap[b]? = w.heap[b]?) : LogAt w' S gb s K := by
 obtain ⟨bm, mb, A, c, B, d, SM, h1, h2⟩ := h
 exact ⟨bm, mb, A, c, B, d, SM, h1.keep hz fun b hb hs => hk b hb (h2 b hs), h2⟩
theorem RLogAt.step {w w' : World} {S : Nat → Prop} {rb : Nat} {s : Lg} (h : RLogAt w S rb s) (hb : Below w.heap.size w w') : RLogAt w' S rb s := by
 obtain ⟨E, ce, A, c, B, d, L, cl, SR, h1, h2⟩ := h
 exact ⟨E, ce, A, c, B, d, L, cl, SR, h1.step hb, h2⟩
theorem RLogAt.more {w : World} {S S' : Nat → Prop} {rb : Nat} {s : Lg} (h : RLogAt w S rb s) (hs : ∀ b, S b → S' b) : RLogAt w S' rb s := by
 obtain ⟨E, ce, A, c, B, d, L, cl, SR, h1, h2⟩ := h
 exact ⟨E, ce, A, c, B, d, L, cl, SR, h1, fun b hb => hs b (h2 b hb)⟩
theorem RgIn.blk_lt {w : World} {rb ce c d cl : Nat} {E A B L : Option Addr} {SR : Nat → Prop} {s : Lg} (h : RgIn w rb E ce A c B d L cl SR s) : ∀ b, RgBlk rb A B SR b → b < w.heap.size := by
 rintro b (hb | rfl | ⟨y, hy, rfl⟩ | ⟨y, hy, rfl⟩)
 · exact (h.sr b hb).1
 · exact h.g.lt
 · exact (h.a.block y hy).2
 · exact (h.b.block y hy).2
theorem RLogAt.cut {w : World} {S : Nat → Prop} {rb : Nat} {s : Lg} (h : RLogAt w S rb s) : RLogAt w (fun b => S b ∧ b < w.heap.size) rb s := by
 obtain ⟨E, ce, A, c, B, d, L, cl, SR, h1, h2⟩ := h
 exact ⟨E, ce, A, c, B, d, L, cl, SR, h1, fun b hb => ⟨h2 b hb, h1.blk_lt b hb⟩⟩
theorem RLogAt.keep {w w' : World} {S : Nat → Prop} {rb : Nat} {s : Lg} (h : RLogAt w S rb s) (hz : w.heap.size ≤ w'.heap.size) (hk : ∀ b, b < w.heap.size → S b → w'.heap[b]? = w.heap[b]?) : RLogAt w' S rb s := by
 obtain ⟨E, ce, A, c, B, d, L, cl, SR, h1, h2⟩ := h
 exact ⟨E, ce, A, c, B, d, L, cl, SR, h1.keep hz fun b hb hs => hk b hb (h2 b hs), h2⟩
theorem deliver_nay {s : Lg} {x : Actn} {f : Opn} (h : whyOf s.l f (s.name x) ≠ 0) : s.deliver x f = s := by
 unfold Lg.deliver
 rw [if_neg h]
theorem deliver_step (w : World) (gb K : Nat) (S S' : Nat → Prop) (s : Lg) (x : Actn) (f : Opn) (h : LogAt w S gb s K) (hz : s.Fits K) (hn : (s.name x).In) (hr : x.op.rep = f.rep) (hs : Sents w S' a) :
 Calls Tryz.prog 65 #[.pointer (some ⟨gb, 0, none⟩), x.agg, f.agg] w fun e w' => ∃ v, e = .returned v ∧ ErrAns w' (Fr w S') a (chOf f (whyOf s.l f (s.name x))) (whyOf s.l f (s.name x)) v ∧ LogAt w' (Fr w S) gb (s.deliver x f) (K + 1) ∧ Out S w w' := by
 obtain ⟨bm, mb, A, c, B, d, SM, h1, h2⟩ := h
 by_cases hw : whyOf s.l f (s.name x) = 0
 · refine (deliver_ok w gb bm mb c d K A B SM S s x f h1 h2 hz hn hr hw).mono ?_
   rintro e w' ⟨rfl, k1, k2⟩
   exact ⟨_, rfl, .inl ⟨hw, rfl⟩, k1, k2⟩
 · refine (deliver_no (a := a) w gb bm mb c d K A B SM S' s x f h1 hz hn hs hw).mono ?_
   rintro e w' ⟨v, rfl, k1, k2⟩
   rw [deliver_nay hw]
   exact ⟨v, rfl, .inr k1, (LogAt.monoK ⟨bm, mb, A, c, B, d, SM, h1.step k2, h2⟩ (Nat.le_succ K)).more fun b hb => .inl hb, Out.of_below k2⟩
theorem rdeliver_step (w : World) (rb : Nat) (S : Nat → Prop) (s : Lg) (x : Actn) (f : Opn) (h : RLogAt w S rb s) (hz : s.l.length ≤ 1048576 ∧ s.acts.length ≤ 1048576 ∧ s.forms.length ≤ 1048576) (hc : Calm 1000000 s.l) (hr : x.op.rep = f.rep) :
 Calls Tryz.prog 105 #[.pointer (some ⟨rb, 0, none⟩), x.agg, f.agg] w fun e w' => ∃ v, e = .returned v ∧ NoAns w' (fun b => w.heap.size ≤ b) (chOf f (whyOf s.l f (s.name x))) (whyOf s.l f (s.name x)) v ∧ RLogAt w' (Fr w S) rb (s.deliver x f) ∧ Out S w w' := by
 obtain ⟨E, ce, A, c, B, d, L, cl, SR, h1, h2⟩ := h
 by_cases hw : whyOf s.l f (s.name x) = 0
 · refine (rdeliver_ok w rb ce c d cl E A B L SR S s x f h1 h2 hz hc hr hw).mono ?_
   rintro e w' ⟨rfl, k1, k2⟩
   exact ⟨_, rfl, .inl ⟨hw, rfl⟩, k1, k2⟩
 · refine (rdeliver_no w rb ce c d cl E A B L SR s x f h1 hz.1 hc hw).mono ?_
   rintro e w' ⟨v, rfl, k1, k2⟩
   rw [deliver_nay hw]
   exact ⟨v, rfl, .inr k1, ⟨E, ce, A, c, B, d, L, cl, SR, h1.step k2, fun b hb => .inl (h2 b hb)⟩, Out.of_below k2⟩
end Go.Proofs.YteggpddlkkjmjaaGreatDoor
namespace Go.Proofs.YteggpddlkkjmjaaGreatDoor
open Go Go.RowKit
variable {a : Nat → Addr}
theorem why_le13 (l : List El) (o : Opn) (id : Nm) : whyOf l o id ≤ 13 := by
 rcases why_cases l o id with ⟨h1, -⟩ | ⟨h1, -⟩ | ⟨h1, -⟩ | ⟨h1, -⟩ <;> omega
def no3 (x y z : Value) : List (Nat × Value) := [(0, x), (1, y), (2, z)]
theorem no_at {w w1 w2 : World} {ch : List Lk} {code : Nat} {v : Value} {b c : Nat} {l m : List (Nat × Value)} (hb : b < w1.heap.size) (hc : c < w1.heap.size) (hw : w.heap.size ≤ w1.heap.size) (h : IsNo w2 (fun b => w1.heap.size ≤ b) ch code v) : IsNo (setsAt b l (setsAt c m w2)) (fun b => w.heap.size ≤ b) ch code v :=
 (h.keepS (w' := setsAt b l (setsAt c m w2)) (by rw [setsAt_size, setsAt_size]; exact Nat.le_refl _) fun k hk _ => (setsAt_heap l _ (by have hk' : w1.heap.size ≤ k := hk; omega)).trans (setsAt_heap m _ (by have hk' : w1.heap.size ≤ k := hk; omega))).moreS fun k hk => Nat.le_trans hw hk
theorem rplace_step (w : World) (rb K : Nat) (S : Nat → Prop) (s : Lg) (x : Actn) (h : RLogAt w S rb s) (hf : s.Fine K) (hx : x.In) :
 Calls Tryz.prog 68 #[.pointer (some ⟨rb, 0, none⟩), x.agg] w fun e w' => ∃ v, e = .returned (.tuple #[(if s.why x = 0 then s.form x else noOpn).agg, v]) ∧ NoAns w' (fun b => w.heap.size ≤ b) [⟨({ data := #[104, 105, 115, 116, 111, 114, 121] } : ByteArray), ({ data := #[80, 108, 97, 99, 101] } : ByteArray), atOf x.num⟩] (s.why x) v ∧ Below w.heap.size w w' := by
 obtain ⟨E, ce, A, c, B, d, L, cl, SR, h, -⟩ := h
 obtain ⟨hX, hB, hN, e0⟩ := boxes3 w 46 37 62 x.vals #[.int .i64 0, .int .i64 0, .int .i32 0, .int .i64 0] #[.int .i64 0, .slice none 0 0, .slice none 0 0]
 have h0 := h.step e0
 have HR := hid (fun W (hb : Below ((((w.alloc (.cells x.vals 46)).alloc (.cells #[.int .i64 0, .int .i64 0, .int .i32 0, .int .i64 0] 37)).alloc (.cells #[.int .i64 0, .slice none 0 0, .slice none 0 0] 62))).heap.size ((((w.alloc (.cells x.vals 46)).alloc (.cells #[.int .i64 0, .int .i64 0, .int .i32 0, .int .i64 0] 37)).alloc (.cells #[.int .i64 0, .slice none 0 0, .slice none 0 0] 62))) W) => refuse_any W rb ce c d cl E A B L SR s x (h0.step hb) hf.base hf.acts hf.l hf.clk hf.st hx)
 have HX := hid hX
 have HB := hid hB
 have HN := hid hN
 have hwl := s.why_le x
 clear h h0 hX hB hN hf hx
 obtain ⟨n, hn⟩ : ∃ n, n = s.why x := ⟨_, rfl⟩
 rw [← hn] at HR hwl ⊢
 obtain ⟨f, hf⟩ : ∃ f, f = s.form x := ⟨_, rfl⟩
 rw [← hf] at HR ⊢
 clear hn hf
 by_cases hz : n = 0
 · subst hz
   rw [if_pos rfl] at HR ⊢
   simp only [Actn.agg, Opn.agg] at *
   unfold Actn.vals at *
   go_enter Tryz.func68, Tryz.ntmps68
   repeat' (first | (with_reducible refine stop_region 1 ?_) | go_step)
   refine Stop.go ?_
   generalize (((w.alloc (.cells #[.int .i64 x.op.kind, .int .i64 x.op.at_, .int .i32 x.op.char, .int .i64 x.op.rep, .int .i64 x.num, .int .i64 x.clk.c0, .int .i64 x.clk.c1, .int .i64 x.clk.c2, .int .i64 x.clk.c3, .int .i64 x.clk.c4, .int .i64 x.clk.c5, .int .i64 x.clk.c6, .int .i64 x.clk.c7] 46)).alloc (.cells #[.int .i64 0, .int .i64 0, .int .i32 0, .int .i64 0] 37)).alloc (.cells #[.int .i64 0, .slice none 0 0, .slice none 0 0] 62)) = X at *
   have hy := HX.out
   obtain ⟨x0, x1, x2, x3, x4, x5, x6, x7, x8, x9, x10, x11, x12⟩ := cl13 (w := X) (g := w.heap.size) hy; have xl := (hy).lt
   repeat' (first | (go_at_call 104; go_must ((with_reducible refine Calls.mono (HR.out _ (Below.refl _ _)) ?_); rintro _ w1 ⟨rfl, hb1⟩; dsimp only)) | (with_reducible refine stop_region 2 ?_) | go_step)
   refine Stop.go ?_
   clear x0 x1 x2 x3 x4 x5 x6 x7 x8 x9 x10 x11 x12 xl
   clear hy
   have eF : Below w1.heap.size w1 (w1.alloc (.cells #[.int .i64 f.kind, .int .i64 f.at_, .int .i32 f.char, .int .i64 f.rep] 37)) := balloc (Below.refl _ _)
   have hfb := Blk.new w1 37 #[.int .i64 f.kind, .int .i64 f.at_, .int .i32 f.char, .int .i64 f.rep]
   have hb2 := bvia hb1 eF
   generalize w1.alloc (.cells #[.int .i64 f.kind, .int .i64 f.at_, .int .i32 f.char, .int .i64 f.rep] 37) = X2 at *
   generalize w1.heap.size = fb at *
   obtain ⟨o0, o1, o2, o3⟩ := cl4 (w := X2) (g := fb) hfb
   have ol := hfb.lt
   have hz := HB.out.step hb2; have hq := HN.out.step hb2; obtain ⟨zl, z0, z1, z2, z3, f0, f1, f2, f3⟩ := bl4 hz; obtain ⟨ql, q0, q1, q2, r0, r1, r2⟩ := bl3 hq
   repeat' (first | go_step)
   have hz4 := (hz.sets (op4 f)).keep (S := fun b => b ≠ w.heap.size + 1 + 1) (by show w.heap.size + 1 ≠ w.heap.size + 1 + 1; omega) (Same.sets (b := w.heap.size + 1 + 1) (no3 (.int .i64 0) (.slice none 0 0) (.slice none 0 0)) fun hh => hh rfl)
   have hq3 := (hq.keep (S := fun b => b ≠ w.heap.size + 1) (by show w.heap.size + 1 + 1 ≠ w.heap.size + 1; omega) (Same.sets (b := w.heap.size + 1) (op4 f) fun hh => hh rfl)).sets (no3 (.int .i64 0) (.slice none 0 0) (.slice none 0 0))
   have v0 := hz4.cell 0
   have v1 := hz4.cell 1
   have v2 := hz4.cell 2
   have v3 := hz4.cell 3
   have n0 := hq3.cell 0
   have n1 := hq3.cell 1
   have n2 := hq3.cell 2
   simp [op4, no3, noOpn] at v0 v1 v2 v3 n0 n1 n2
   refine bodyPost_ret (w := setsAt (w.heap.size + 1 + 1) (no3 (.int .i64 0) (.slice none 0 0) (.slice none 0 0)) (setsAt (w.heap.size + 1) (op4 f) X2)) (v := .tuple #[.agg #[.int .i64 f.kind, .int .i64 f.at_, .int .i32 f.char, .int .i64 f.rep], .agg #[(.int .i64 0), (.slice none 0 0), (.slice none 0 0)]]) (by simp [op4, no3, noOpn, results, Tryz.results68, go_sem, v0, v1, v2, v3, n0, n1, n2]) rfl ?_
   exact ⟨_, rfl, .inl ⟨rfl, rfl⟩, Below.sets _ (Below.sets _ (bvia e0 hb2) (by omega)) (by omega)⟩
 · rw [if_neg hz] at HR ⊢
   have hz0 : ((n : Int) != 0) = true := by simp; omega
   have HSy := hid (fun W => say_any ({ data := #[104, 105, 115, 116, 111, 114, 121] } : ByteArray) ({ data := #[80, 108, 97, 99, 101] } : ByteArray) x.num n (by omega) hwl (fun _ => False) W)
   simp only [Actn.agg, Opn.agg] at *
   unfold Actn.vals at *
   clear hz
   go_enter Tryz.func68, Tryz.ntmps68
   repeat' (first | (with_reducible refine stop_region 1 ?_) | go_step)
   refine Stop.go ?_
   generalize (((w.alloc (.cells #[.int .i64 x.op.kind, .int .i64 x.op.at_, .int .i32 x.op.char, .int .i64 x.op.rep, .int .i64 x.num, .int .i64 x.clk.c0, .int .i64 x.clk.c1, .int .i64 x.clk.c2, .int .i64 x.clk.c3, .int .i64 x.clk.c4, .int .i64 x.clk.c5, .int .i64 x.clk.c6, .int .i64 x.clk.c7] 46)).alloc (.cells #[.int .i64 0, .int .i64 0, .int .i32 0, .int .i64 0] 37)).alloc (.cells #[.int .i64 0, .slice none 0 0, .slice none 0 0] 62)) = X at *
   have hy := HX.out
   obtain ⟨x0, x1, x2, x3, x4, x5, x6, x7, x8, x9, x10, x11, x12⟩ := cl13 (w := X) (g := w.heap.size) hy; have xl := (hy).lt
   repeat' (first | (go_at_call 104; go_must ((with_reducible refine Calls.mono (HR.out _ (Below.refl _ _)) ?_); rintro _ w1 ⟨rfl, hb1⟩; dsimp only)) | (with_reducible refine stop_region 2 ?_) | go_step)
   refine Stop.go ?_
   clear x0 x1 x2 x3 x4 x5 x6 x7 x8 x9 x10 x11 x12 xl
   clear hy
   have eF : Below w1.heap.size w1 (w1.alloc (.cells #[.int .i64 noOpn.kind, .int .i64 noOpn.at_, .int .i32 noOpn.char, .int .i64 noOpn.rep] 37)) := balloc (Below.refl _ _)
   have hb2 := bvia hb1 eF
   generalize w1.alloc (.cells #[.int .i64 noOpn.kind, .int .i64 noOpn.at_, .int .i32 noOpn.char, .int .i64 noOpn.rep] 37) = X2 at *
   have hy := HX.out.step hb2
   obtain ⟨x0, x1, x2, x3, x4, x5, x6, x7, x8, x9, x10, x11, x12⟩ := cl13 (w := X2) (g := w.heap.size) hy; have xl := (hy).lt
   repeat' (first | (go_at_call 57; go_must ((with_reducible refine Calls.mono (HSy.out _) ?_); rintro _ w2 ⟨v, rfl, hE, hb3⟩; obtain ⟨hc1, A1, m1, d1, B1, k1, rfl, hr1, hr2⟩ := hE; have hz := (HB.out.step hb2).step hb3; have hq := (HN.out.step hb2).step hb3; obtain ⟨zl, z0, z1, z2, z3, f0, f1, f2, f3⟩ := bl4 hz; obtain ⟨ql, q0, q1, q2, r0, r1, r2⟩ := bl3 hq; dsimp only)) | go_step)
   have hz4 := (hz.sets (op4 noOpn)).keep (S := fun b => b ≠ w.heap.size + 1 + 1) (by show w.heap.size + 1 ≠ w.heap.size + 1 + 1; omega) (Same.sets (b := w.heap.size + 1 + 1) (no3 (.int .i64 n) (.slice A1 m1 d1) (.slice B1 1 k1)) fun hh => hh rfl)
   have hq3 := (hq.keep (S := fun b => b ≠ w.heap.size + 1) (by show w.heap.size + 1 + 1 ≠ w.heap.size + 1; omega) (Same.sets (b := w.heap.size + 1) (op4 noOpn) fun hh => hh rfl)).sets (no3 (.int .i64 n) (.slice A1 m1 d1) (.slice B1 1 k1))
   have v0 := hz4.cell 0
   have v1 := hz4.cell 1
   have v2 := hz4.cell 2
   have v3 := hz4.cell 3
   have n0 := hq3.cell 0
   have n1 := hq3.cell 1
   have n2 := hq3.cell 2
   simp [op4, no3, noOpn] at v0 v1 v2 v3 n0 n1 n2
   refine bodyPost_ret (w := setsAt (w.heap.size + 1 + 1) (no3 (.int .i64 n) (.slice A1 m1 d1) (.slice B1 1 k1)) (setsAt (w.heap.size + 1) (op4 noOpn) w2)) (v := .tuple #[.agg #[.int .i64 noOpn.kind, .int .i64 noOpn.at_, .int .i32 noOpn.char, .int .i64 noOpn.rep], .agg #[(.int .i64 n), (.slice A1 m1 d1), (.slice B1 1 k1)]]) (by simp [op4, no3, noOpn, results, Tryz.results68, go_sem, v0, v1, v2, v3, n0, n1, n2]) rfl ?_
   refine ⟨_, rfl, .inr ?_, Below.sets _ (Below.sets _ (bvia e0 (bvia hb2 hb3)) (by omega)) (by omega)⟩
   have hl1 := (HN.out.step hb2).lt
   refine no_at (w1 := X2) hl1 (by omega) (bvia e0 hb2).size (IsNo.moreS (S := Fr X2 fun _ => False) ⟨hc1, A1, m1, d1, B1, k1, rfl, hr1, hr2⟩ fun b hb => by rcases hb with hb | hb; exact hb.elim; exact hb)
theorem rlog_box {w X W : World} {S : Nat → Prop} {rb b c : Nat} {s : Lg} {l m : List (Nat × Value)} (h : RLogAt W (Fr X fun b => S b ∧ b < w.heap.size) rb s) (hb : b < X.heap.size) (hc : c < X.heap.size) (h1 : w.heap.size ≤ b) (h2 : w.heap.size ≤ c) : RLogAt (setsAt b l (setsAt c m W)) (Fr w S) rb s := by
 refine (h.keep (by rw [setsAt_size, setsAt_size]; exact Nat.le_refl _) fun k hk hs => ?_).more fun k hk => ?_
 · have hne : k ≠ b ∧ k ≠ c := by
    rcases hs with hs | hs
    · have := hs.2; omega
    · have hs' : X.heap.size ≤ k := hs; omega
   exact (setsAt_heap l _ hne.1).trans (setsAt_heap m _ hne.2)
 · rcases hk with hk | hk
   · exact .inl hk.1
   · have hs' : X.heap.size ≤ k := hk
     exact .inr (by show w.heap.size ≤ k; omega)
theorem rtake_step (w : World) (rb K : Nat) (S : Nat → Prop) (s : Lg) (x : Actn) (h : RLogAt w S rb s) (hf : s.Fine K) (hx : x.In) :
 Calls Tryz.prog 69 #[.pointer (some ⟨rb, 0, none⟩), x.agg] w fun e w' => ∃ v, e = .returned (.tuple #[(s.formOf x).agg, v]) ∧ NoAns w' (fun b => w.heap.size ≤ b) (s.takeCh x) (s.takeCode x) v ∧ RLogAt w' (Fr w S) rb (s.takeOf x) ∧ Out S w w' := by
 have HL := hid h.cut
 have hL0 := h.cut
 obtain ⟨E, ce, A, c, B, d, L, cl, SR, h, -⟩ := h
 obtain ⟨hX, hB, hN, e0⟩ := boxes3 w 46 37 62 x.vals #[.int .i64 0, .int .i64 0, .int .i32 0, .int .i64 0] #[.int .i64 0, .slice none 0 0, .slice none 0 0]
 have h0 := h.step e0
 have hLX := hL0.step e0
 have HR := hid (fun W (hb : Below ((((w.alloc (.cells x.vals 46)).alloc (.cells #[.int .i64 0, .int .i64 0, .int .i32 0, .int .i64 0] 37)).alloc (.cells #[.int .i64 0, .slice none 0 0, .slice none 0 0] 62))).heap.size ((((w.alloc (.cells x.vals 46)).alloc (.cells #[.int .i64 0, .int .i64 0, .int .i32 0, .int .i64 0] 37)).alloc (.cells #[.int .i64 0, .slice none 0 0, .slice none 0 0] 62))) W) => refuse_any W rb ce c d cl E A B L SR s x (h0.step hb) hf.base hf.acts hf.l hf.clk hf.st hx)
 have HD := hid (fun W (hb : Below ((((w.alloc (.cells x.vals 46)).alloc (.cells #[.int .i64 0, .int .i64 0, .int .i32 0, .int .i64 0] 37)).alloc (.cells #[.int .i64 0, .slice none 0 0, .slice none 0 0] 62))).heap.size ((((w.alloc (.cells x.vals 46)).alloc (.cells #[.int .i64 0, .int .i64 0, .int .i32 0, .int .i64 0] 37)).alloc (.cells #[.int .i64 0, .slice none 0 0, .slice none 0 0] 62))) W) => rdeliver_step W rb (fun b => S b ∧ b < w.heap.size) s x (s.form x) (hLX.step hb) ⟨hf.l, hf.acts, hf.forms⟩ (fun e he => by have := hf.calm e he; constructor <;> omega) (form_rep s x).symm)
 have HX := hid hX
 have HB := hid hB
 have HN := hid hN
 have hwl := s.why_le x
 by_cases hz : s.why x = 0
 · have Hcode := hid (show s.takeCode x = whyOf s.l (s.form x) (s.name x) from if_pos hz)
   have Hch := hid (show s.takeCh x = ⟨({ data := #[104, 105, 115, 116, 111, 114, 121] } : ByteArray), ({ data := #[84, 97, 107, 101] } : ByteArray), atOf x.num⟩ :: chOf (s.form x) (whyOf s.l (s.form x) (s.name x)) by unfold Lg.takeCh; rw [if_pos hz])
   have Hof := hid (show s.takeOf x = s.deliver x (s.form x) from if_pos hz)
   have Hform := hid (show s.formOf x = if whyOf s.l (s.form x) (s.name x) = 0 then s.form x else noOpn by unfold Lg.formOf; rw [Hcode.out])
   rw [hz, if_pos rfl] at HR
   clear h h0 hX hB hN hf hx hL0 hLX hz hwl
   rw [Hcode.out, Hch.out, Hof.out, Hform.out]
   obtain ⟨f, hf⟩ : ∃ f, f = s.form x := ⟨_, rfl⟩
   rw [← hf] at HR HD ⊢
   clear hf Hcode Hch Hof Hform
   have hcl : (chOf f (whyOf s.l f (s.name x))).length ≤ 1073741824 := chOf_length _ _
   have hc13 : whyOf s.l f (s.name x) ≤ 13 := why_le13 _ _ _
   obtain ⟨n, hn⟩ : ∃ n, n = whyOf s.l f (s.name x) := ⟨_, rfl⟩
   rw [← hn] at HD hcl hc13 ⊢
   clear hn
   obtain ⟨s', hs'⟩ : ∃ s', s' = s.deliver x f := ⟨_, rfl⟩
   rw [← hs'] at HD ⊢
   clear hs'
   obtain ⟨P, hP⟩ : ∃ P, P = (if n = 0 then f else noOpn) := ⟨_, rfl⟩
   rw [← hP]
   have HP := hid hP
   clear hP
   simp only [Actn.agg, Opn.agg] at *
   unfold Actn.vals at *
   go_enter Tryz.func69, Tryz.ntmps69
   repeat' (first | (with_reducible refine stop_region 1 ?_) | go_step)
   refine Stop.go ?_
   generalize (((w.alloc (.cells #[.int .i64 x.op.kind, .int .i64 x.op.at_, .int .i32 x.op.char, .int .i64 x.op.rep, .int .i64 x.num, .int .i64 x.clk.c0, .int .i64 x.clk.c1, .int .i64 x.clk.c2, .int .i64 x.clk.c3, .int .i64 x.clk.c4, .int .i64 x.clk.c5, .int .i64 x.clk.c6, .int .i64 x.clk.c7] 46)).alloc (.cells #[.int .i64 0, .int .i64 0, .int .i32 0, .int .i64 0] 37)).alloc (.cells #[.int .i64 0, .slice none 0 0, .slice none 0 0] 62)) = X at *
   have hXl := HN.out.lt
   have hy := HX.out
   obtain ⟨x0, x1, x2, x3, x4, x5, x6, x7, x8, x9, x10, x11, x12⟩ := cl13 (w := X) (g := w.heap.size) hy; have xl := (hy).lt
   repeat' (first | (go_at_call 104; go_must ((with_reducible refine Calls.mono (HR.out _ (Below.refl _ _)) ?_); rintro _ w1 ⟨rfl, hb1⟩; dsimp only)) | (with_reducible refine stop_region 4 ?_) | go_step)
   refine Stop.go ?_
   clear x0 x1 x2 x3 x4 x5 x6 x7 x8 x9 x10 x11 x12 xl
   clear hy
   have eF : Below w1.heap.size w1 (w1.alloc (.cells #[.int .i64 f.kind, .int .i64 f.at_, .int .i32 f.char, .int .i64 f.rep] 37)) := balloc (Below.refl _ _)
   have hfb := Blk.new w1 37 #[.int .i64 f.kind, .int .i64 f.at_, .int .i32 f.char, .int .i64 f.rep]
   have hb2 := bvia hb1 eF
   have hfX : X.heap.size ≤ w1.heap.size := hb1.size
   generalize w1.alloc (.cells #[.int .i64 f.kind, .int .i64 f.at_, .int .i32 f.char, .int .i64 f.rep] 37) = X2 at *
   generalize w1.heap.size = fb at *
   have hw2 := (bvia e0 hb2).size
   have hy := HX.out.step hb2
   obtain ⟨x0, x1, x2, x3, x4, x5, x6, x7, x8, x9, x10, x11, x12⟩ := cl13 (w := X2) (g := w.heap.size) hy; have xl := (hy).lt
   obtain ⟨o0, o1, o2, o3⟩ := cl4 (w := X2) (g := fb) hfb
   have ol := hfb.lt
   have Hy := hid hy
   have Hfb := hid hfb
   clear hy hfb
   repeat' (first | (go_at_call 105; go_must ((with_reducible refine Calls.mono (HD.out _ hb2) ?_); rintro _ w6 ⟨v, rfl, hE, hL6, hO6⟩; (rcases hE with ⟨hc, hv⟩ | ⟨hc1, A1, m1, d1, B1, k1, rfl, hr1, hr2⟩ <;> try (have hv' : v = .agg #[.int .i64 0, .slice none 0 0, .slice none 0 0] := hv; clear hv; subst hv')); all_goals dsimp only)) | (with_reducible refine stop_region 5 ?_) | go_step)
   all_goals refine Stop.go ?_
   · subst hc
     clear x0 x1 x2 x3 x4 x5 x6 x7 x8 x9 x10 x11 x12 xl
     clear o0 o1 o2 o3 ol
     have eN : Below w6.heap.size w6 (w6.alloc (.cells #[.int .i64 0, .slice none 0 0, .slice none 0 0] 62)) := balloc (Below.refl _ _)
     have hnb := Blk.new w6 62 #[.int .i64 0, .slice none 0 0, .slice none 0 0]
     have hfb6 := (hO6.blk Hfb.out (by rintro ⟨-, h⟩; omega)).step eN
     have hr6 := (hO6.blk (HB.out.step hb2) (by rintro ⟨-, h⟩; omega)).step eN
     have hn6 := (hO6.blk (HN.out.step hb2) (by rintro ⟨-, h⟩; omega)).step eN
     have hO : Out S w (w6.alloc (.cells #[.int .i64 0, .slice none 0 0, .slice none 0 0] 62)) := ((Out.of_below (S := S) (bvia e0 hb2)).trans hO6 fun _ _ h => h.1).step8 eN
     have hw6 := hO6.size
     have hX2l := (HN.out.step hb2).lt
     have hL7 := hL6.step eN
     have hns := eN.size
     generalize w6.alloc (.cells #[.int .i64 0, .slice none 0 0, .slice none 0 0] 62) = W7 at *
     have hnl := hnb.lt
     have nn0 : W7.cell? ⟨w6.heap.size, 0, none⟩ = some (.int .i64 0) := hnb.cell 0
     obtain ⟨o0, o1, o2, o3⟩ := cl4 (w := W7) (g := fb) hfb6
     have ol := hfb6.lt
     have hz := hr6; have hq := hn6; obtain ⟨zl, z0, z1, z2, z3, f0, f1, f2, f3⟩ := bl4 hz; obtain ⟨ql, q0, q1, q2, r0, r1, r2⟩ := bl3 hq
     repeat' (first | go_step)
     have hz4 := (hz.sets (op4 f)).keep (S := fun b => b ≠ w.heap.size + 1 + 1) (by show w.heap.size + 1 ≠ w.heap.size + 1 + 1; omega) (Same.sets (b := w.heap.size + 1 + 1) (no3 (.int .i64 0) (.slice none 0 0) (.slice none 0 0)) fun hh => hh rfl)
     have hq3 := (hq.keep (S := fun b => b ≠ w.heap.size + 1) (by show w.heap.size + 1 + 1 ≠ w.heap.size + 1; omega) (Same.sets (b := w.heap.size + 1) (op4 f) fun hh => hh rfl)).sets (no3 (.int .i64 0) (.slice none 0 0) (.slice none 0 0))
     have v0 := hz4.cell 0
     have v1 := hz4.cell 1
     have v2 := hz4.cell 2
     have v3 := hz4.cell 3
     have n0 := hq3.cell 0
     have n1 := hq3.cell 1
     have n2 := hq3.cell 2
     simp [op4, no3, noOpn] at v0 v1 v2 v3 n0 n1 n2
     refine bodyPost_ret (w := setsAt (w.heap.size + 1 + 1) (no3 (.int .i64 0) (.slice none 0 0) (.slice none 0 0)) (setsAt (w.heap.size + 1) (op4 f) W7)) (v := .tuple #[.agg #[.int .i64 f.kind, .int .i64 f.at_, .int .i32 f.char, .int .i64 f.rep], .agg #[(.int .i64 0), (.slice none 0 0), (.slice none 0 0)]]) (by simp [op4, no3, noOpn, results, Tryz.results69, go_sem, v0, v1, v2, v3, n0, n1, n2]) rfl ?_
     refine ⟨noNone, by rw [HP.out, if_pos rfl]; rfl, .inl ⟨rfl, rfl⟩, ?_, (hO.sets _ (by omega)).sets _ (by omega)⟩
     exact rlog_box hL7 hX2l (by omega) (by omega) (by omega)
   · have hn0 : n ≠ 0 := by omega
     have hz0 : ((n : Int) != 0) = true := by simp; omega
     clear x0 x1 x2 x3 x4 x5 x6 x7 x8 x9 x10 x11 x12 xl
     clear o0 o1 o2 o3 ol
     have eN : Below w6.heap.size w6 (w6.alloc (.cells #[.int .i64 n, .slice A1 m1 d1, .slice B1 1 k1] 62)) := balloc (Below.refl _ _)
     have hnb := Blk.new w6 62 #[.int .i64 n, .slice A1 m1 d1, .slice B1 1 k1]
     have hy6 := (hO6.blk Hy.out (by rintro ⟨-, h⟩; omega)).step eN
     have hr6 := (hO6.blk (HB.out.step hb2) (by rintro ⟨-, h⟩; omega)).step eN
     have hn6 := (hO6.blk (HN.out.step hb2) (by rintro ⟨-, h⟩; omega)).step eN
     have hO : Out S w (w6.alloc (.cells #[.int .i64 n, .slice A1 m1 d1, .slice B1 1 k1] 62)) := ((Out.of_below (S := S) (bvia e0 hb2)).trans hO6 fun _ _ h => h.1).step8 eN
     have hw6 := hO6.size
     have hX2l := (HN.out.step hb2).lt
     have hL7 := hL6.step eN
     have hr1 := hr1.step eN
     have hr2 := hr2.step eN
     have hm1 : m1 ≤ 1073741824 := by rw [← hr1.1]; exact hcl
     have hns := eN.size
     clear eN
     generalize w6.alloc (.cells #[.int .i64 n, .slice A1 m1 d1, .slice B1 1 k1] 62) = W7 at *
     have hnl := hnb.lt
     have nn0 : W7.cell? ⟨w6.heap.size, 0, none⟩ = some (.int .i64 n) := hnb.cell 0
     have nn1 : W7.cell? ⟨w6.heap.size, 1, none⟩ = some (.slice A1 m1 d1) := hnb.cell 1
     have nn2 : W7.cell? ⟨w6.heap.size, 2, none⟩ = some (.slice B1 1 k1) := hnb.cell 2
     obtain ⟨x0, x1, x2, x3, x4, x5, x6, x7, x8, x9, x10, x11, x12⟩ := cl13 (w := W7) (g := w.heap.size) hy6; have xl := (hy6).lt
     have HW := hid (wrap_any ({ data := #[104, 105, 115, 116, 111, 114, 121] } : ByteArray) ({ data := #[84, 97, 107, 101] } : ByteArray) x.num n hc1 hc13 A1 m1 d1 B1 k1 _ W7 hr1 hr2 hm1)
     repeat' (first | (go_at_call 59; go_must ((with_reducible refine Calls.mono HW.out ?_); rintro _ w8 ⟨v, rfl, hE, hb8⟩; obtain ⟨hc2, A2, m2, d2, B2, k2, rfl, hs1, hs2⟩ := hE; have hz := hr6.step hb8; have hq := hn6.step hb8; obtain ⟨zl, z0, z1, z2, z3, f0, f1, f2, f3⟩ := bl4 hz; obtain ⟨ql, q0, q1, q2, r0, r1, r2⟩ := bl3 hq; dsimp only)) | go_step)
     have hz4 := (hz.sets (op4 noOpn)).keep (S := fun b => b ≠ w.heap.size + 1 + 1) (by show w.heap.size + 1 ≠ w.heap.size + 1 + 1; omega) (Same.sets (b := w.heap.size + 1 + 1) (no3 (.int .i64 n) (.slice A2 m2 d2) (.slice B2 1 k2)) fun hh => hh rfl)
     have hq3 := (hq.keep (S := fun b => b ≠ w.heap.size + 1) (by show w.heap.size + 1 + 1 ≠ w.heap.size + 1; omega) (Same.sets (b := w.heap.size + 1) (op4 noOpn) fun hh => hh rfl)).sets (no3 (.int .i64 n) (.slice A2 m2 d2) (.slice B2 1 k2))
     have v0 := hz4.cell 0
     have v1 := hz4.cell 1
     have v2 := hz4.cell 2
     have v3 := hz4.cell 3
     have n0 := hq3.cell 0
     have n1 := hq3.cell 1
     have n2 := hq3.cell 2
     simp [op4, no3, noOpn] at v0 v1 v2 v3 n0 n1 n2
     refine bodyPost_ret (w := setsAt (w.heap.size + 1 + 1) (no3 (.int .i64 n) (.slice A2 m2 d2) (.slice B2 1 k2)) (setsAt (w.heap.size + 1) (op4 noOpn) w8)) (v := .tuple #[.agg #[.int .i64 noOpn.kind, .int .i64 noOpn.at_, .int .i32 noOpn.char, .int .i64 noOpn.rep], .agg #[(.int .i64 n), (.slice A2 m2 d2), (.slice B2 1 k2)]]) (by simp [op4, no3, noOpn, results, Tryz.results69, go_sem, v0, v1, v2, v3, n0, n1, n2]) rfl ?_
     refine ⟨_, by rw [HP.out, if_neg hn0], .inr ?_, ?_, ((hO.step8 hb8).sets _ (by omega)).sets _ (by omega)⟩
     · refine no_at (w1 := X2) hX2l (by omega) hw2 (IsNo.moreS (S := Fr W7 fun b => X2.heap.size ≤ b) ⟨hc2, A2, m2, d2, B2, k2, rfl, hs1, hs2⟩ fun b hb => by
        rcases hb with hb | hb
        · exact hb
        · have hb' : W7.heap.size ≤ b := hb
          show X2.heap.size ≤ b
          omega)
     · exact rlog_box (hL7.step hb8) hX2l (by omega) (by omega) (by omega)
 · have Hcode := hid (show s.takeCode x = s.why x from if_neg hz)
   have Hch := hid (show s.takeCh x = [⟨({ data := #[104, 105, 115, 116, 111, 114, 121] } : ByteArray), ({ data := #[84, 97, 107, 101] } : ByteArray), atOf x.num⟩] by unfold Lg.takeCh; rw [if_neg hz])
   have Hof := hid (show s.takeOf x = s from if_neg hz)
   have Hform := hid (show s.formOf x = noOpn by unfold Lg.formOf; rw [Hcode.out, if_neg hz])
   rw [Hcode.out, Hch.out, Hof.out, Hform.out]
   clear Hcode Hch Hof Hform
   obtain ⟨n, hn⟩ : ∃ n, n = s.why x := ⟨_, rfl⟩
   rw [← hn] at HR hwl hz ⊢
   rw [if_neg hz] at HR
   have hz0 : ((n : Int) != 0) = true := by simp; omega
   have HSy := hid (fun W => say_any ({ data := #[104, 105, 115, 116, 111, 114, 121] } : ByteArray) ({ data := #[84, 97, 107, 101] } : ByteArray) x.num n (by omega) hwl (fun _ => False) W)
   clear h h0 hX hB hN hf hx hL0 hLX hn HD
   simp only [Actn.agg, Opn.agg] at *
   unfold Actn.vals at *
   clear hz
   go_enter Tryz.func69, Tryz.ntmps69
   repeat' (first | (with_reducible refine stop_region 1 ?_) | go_step)
   refine Stop.go ?_
   generalize (((w.alloc (.cells #[.int .i64 x.op.kind, .int .i64 x.op.at_, .int .i32 x.op.char, .int .i64 x.op.rep, .int .i64 x.num, .int .i64 x.clk.c0, .int .i64 x.clk.c1, .int .i64 x.clk.c2, .int .i64 x.clk.c3, .int .i64 x.clk.c4, .int .i64 x.clk.c5, .int .i64 x.clk.c6, .int .i64 x.clk.c7] 46)).alloc (.cells #[.int .i64 0, .int .i64 0, .int .i32 0, .int .i64 0] 37)).alloc (.cells #[.int .i64 0, .slice none 0 0, .slice none 0 0] 62)) = X at *
   have hy := HX.out
   obtain ⟨x0, x1, x2, x3, x4, x5, x6, x7, x8, x9, x10, x11, x12⟩ := cl13 (w := X) (g := w.heap.size) hy; have xl := (hy).lt
   repeat' (first | (go_at_call 104; go_must ((with_reducible refine Calls.mono (HR.out _ (Below.refl _ _)) ?_); rintro _ w1 ⟨rfl, hb1⟩; dsimp only)) | (with_reducible refine stop_region 2 ?_) | go_step)
   refine Stop.go ?_
   clear x0 x1 x2 x3 x4 x5 x6 x7 x8 x9 x10 x11 x12 xl
   clear hy
   have eF : Below w1.heap.size w1 (w1.alloc (.cells #[.int .i64 noOpn.kind, .int .i64 noOpn.at_, .int .i32 noOpn.char, .int .i64 noOpn.rep] 37)) := balloc (Below.refl _ _)
   have hb2 := bvia hb1 eF
   generalize w1.alloc (.cells #[.int .i64 noOpn.kind, .int .i64 noOpn.at_, .int .i32 noOpn.char, .int .i64 noOpn.rep] 37) = X2 at *
   have hy := HX.out.step hb2
   obtain ⟨x0, x1, x2, x3, x4, x5, x6, x7, x8, x9, x10, x11, x12⟩ := cl13 (w := X2) (g := w.heap.size) hy; have xl := (hy).lt
   repeat' (first | (go_at_call 57; go_must ((with_reducible refine Calls.mono (HSy.out _) ?_); rintro _ w2 ⟨v, rfl, hE, hb3⟩; obtain ⟨hc1, A1, m1, d1, B1, k1, rfl, hr1, hr2⟩ := hE; have hz := (HB.out.step hb2).step hb3; have hq := (HN.out.step hb2).step hb3; obtain ⟨zl, z0, z1, z2, z3, f0, f1, f2, f3⟩ := bl4 hz; obtain ⟨ql, q0, q1, q2, r0, r1, r2⟩ := bl3 hq; dsimp only)) | go_step)
   have hz4 := (hz.sets (op4 noOpn)).keep (S := fun b => b ≠ w.heap.size + 1 + 1) (by show w.heap.size + 1 ≠ w.heap.size + 1 + 1; omega) (Same.sets (b := w.heap.size + 1 + 1) (no3 (.int .i64 n) (.slice A1 m1 d1) (.slice B1 1 k1)) fun hh => hh rfl)
   have hq3 := (hq.keep (S := fun b => b ≠ w.heap.size + 1) (by show w.heap.size + 1 + 1 ≠ w.heap.size + 1; omega) (Same.sets (b := w.heap.size + 1) (op4 noOpn) fun hh => hh rfl)).sets (no3 (.int .i64 n) (.slice A1 m1 d1) (.slice B1 1 k1))
   have v0 := hz4.cell 0
   have v1 := hz4.cell 1
   have v2 := hz4.cell 2
   have v3 := hz4.cell 3
   have n0 := hq3.cell 0
   have n1 := hq3.cell 1
   have n2 := hq3.cell 2
   simp [op4, no3, noOpn] at v0 v1 v2 v3 n0 n1 n2
   refine bodyPost_ret (w := setsAt (w.heap.size + 1 + 1) (no3 (.int .i64 n) (.slice A1 m1 d1) (.slice B1 1 k1)) (setsAt (w.heap.size + 1) (op4 noOpn) w2)) (v := .tuple #[.agg #[.int .i64 noOpn.kind, .int .i64 noOpn.at_, .int .i32 noOpn.char, .int .i64 noOpn.rep], .agg #[(.int .i64 n), (.slice A1 m1 d1), (.slice B1 1 k1)]]) (by simp [op4, no3, noOpn, results, Tryz.results69, go_sem, v0, v1, v2, v3, n0, n1, n2]) rfl ?_
   have hbb := Below.sets (b := w.heap.size + 1 + 1) (no3 (.int .i64 n) (.slice A1 m1 d1) (.slice B1 1 k1)) (Below.sets (b := w.heap.size + 1) (op4 noOpn) (bvia e0 (bvia hb2 hb3)) (by omega)) (by omega)
   refine ⟨_, rfl, .inr ?_, (HL.out.step hbb).more fun b hb => .inl hb.1, Out.of_below hbb⟩
   have hl1 := (HN.out.step hb2).lt
   refine no_at (w1 := X2) hl1 (by omega) (bvia e0 hb2).size (IsNo.moreS (S := Fr X2 fun _ => False) ⟨hc1, A1, m1, d1, B1, k1, rfl, hr1, hr2⟩ fun b hb => by rcases hb with hb | hb; exact hb.elim; exact hb)
end Go.Proofs.YteggpddlkkjmjaaGreatDoor
namespace Go.Proofs.YteggpddlkkjmjaaGreatDoor
open Go Go.RowKit
variable {a : Nat → Addr}
theorem set4_out {S : Nat → Prop} {w w1 : World} {b : Nat} {u0 u1 u2 u3 : Value} (h : Out S w w1) (hb : w.heap.size ≤ b) : Out S w ((((w1.setCell ⟨b, 0, none⟩ u0).setCell ⟨b, 1, none⟩ u1).setCell ⟨b, 2, none⟩ u2).setCell ⟨b, 3, none⟩ u3) :=
 (((h.new hb _).new hb _).new hb _).new hb _
theorem set4_below {base : Nat} {w w1 : World} {b : Nat} {u0 u1 u2 u3 : Value} (h : Below base w w1) (hb : base ≤ b) : Below base w ((((w1.setCell ⟨b, 0, none⟩ u0).setCell ⟨b, 1, none⟩ u1).setCell ⟨b, 2, none⟩ u2).setCell ⟨b, 3, none⟩ u3) :=
 (((h.setCell hb _).setCell hb _).setCell hb _).setCell hb _
theorem set4_same {T : Nat → Prop} {w1 : World} {b : Nat} {u0 u1 u2 u3 : Value} (hb : ¬ T b) : Same T w1 ((((w1.setCell ⟨b, 0, none⟩ u0).setCell ⟨b, 1, none⟩ u1).setCell ⟨b, 2, none⟩ u2).setCell ⟨b, 3, none⟩ u3) := fun k hk _ => by
 have hn : k ≠ b := fun e => hb (e ▸ hk)
 exact (Below.heap_setCell _ _ _ _ hn).trans ((Below.heap_setCell _ _ _ _ hn).trans ((Below.heap_setCell _ _ _ _ hn).trans (Below.heap_setCell _ _ _ _ hn)))
theorem not_err0 {w : World} {S : Nat → Prop} : ∀ (ch : List Lk) (v : Value), ¬ IsErr w S a ch 0 v := fun ch => by
 induction ch with
 | nil => rintro v ⟨h, _⟩; omega
 | cons l r ih => rintro v ⟨_, _, _, _, _, h⟩; exact ih _ h
theorem place_step (w : World) (gb K : Nat) (S S' : Nat → Prop) (s : Lg) (x : Actn) (h : LogAt w S gb s K) (hf : s.Fine K) (hx : x.In) (hs : Sents w S' a) (hlow : ∀ b, S' b → b < w.heap.size) :
 Calls Tryz.prog 66 #[.pointer (some ⟨gb, 0, none⟩), x.agg] w fun e w' => ∃ v, e = .returned (.tuple #[(if s.why x = 0 then s.form x else noOpn).agg, v]) ∧ ErrAns w' (Fr w S') a [⟨({ data := #[104, 105, 115, 116, 111, 114, 121] } : ByteArray), ({ data := #[80, 108, 97, 99, 101] } : ByteArray), atOf x.num⟩] (s.why x) v ∧ Below w.heap.size w w' := by
 obtain ⟨bm, mb, A, c, B, d, SM, h, -⟩ := h
 obtain ⟨hX, hB, e0⟩ := twoBoxes w 46 37 x.vals #[.int .i64 0, .int .i64 0, .int .i32 0, .int .i64 0]
 have h0 := h.step e0
 have hs0 := hs.step e0
 have HR := hid (fun W (hb : Below ((w.alloc (.cells x.vals 46)).alloc (.cells #[.int .i64 0, .int .i64 0, .int .i32 0, .int .i64 0] 37)).heap.size ((w.alloc (.cells x.vals 46)).alloc (.cells #[.int .i64 0, .int .i64 0, .int .i32 0, .int .i64 0] 37)) W) => refused8_any (a := a) W gb bm mb c d K A B SM S' s x (h0.step hb) hf.base hf.acts hf.clk hx (hs0.step hb))
 have HF := hid (fun W (hb : Below ((w.alloc (.cells x.vals 46)).alloc (.cells #[.int .i64 0, .int .i64 0, .int .i32 0, .int .i64 0] 37)).heap.size ((w.alloc (.cells x.vals 46)).alloc (.cells #[.int .i64 0, .int .i64 0, .int .i32 0, .int .i64 0] 37)) W) => form_any W gb bm mb c d K A B SM s x (h0.step hb) hf.acts hf.l hf.st hf.epo hf.nd hx.op)
 have HX := hid hX
 have HB := hid hB
 have hwl := s.why_le x
 clear h h0 hX hB hs hs0 hf hx
 obtain ⟨n, hn⟩ : ∃ n, n = s.why x := ⟨_, rfl⟩
 rw [← hn] at HR hwl ⊢
 obtain ⟨f, hf⟩ : ∃ f, f = s.form x := ⟨_, rfl⟩
 rw [← hf] at HF ⊢
 clear hn hf
 by_cases hz : n = 0
 · subst hz
   rw [if_pos rfl]
   simp only [whyV, if_true] at HR
   simp only [Actn.agg, Opn.agg] at *
   unfold Actn.vals at *
   go_enter Tryz.func66, Tryz.ntmps66
   repeat' (first | (with_reducible refine stop_region 1 ?_) | go_step)
   refine Stop.go ?_
   generalize (w.alloc (.cells #[.int .i64 x.op.kind, .int .i64 x.op.at_, .int .i32 x.op.char, .int .i64 x.op.rep, .int .i64 x.num, .int .i64 x.clk.c0, .int .i64 x.clk.c1, .int .i64 x.clk.c2, .int .i64 x.clk.c3, .int .i64 x.clk.c4, .int .i64 x.clk.c5, .int .i64 x.clk.c6, .int .i64 x.clk.c7] 46)).alloc (.cells #[.int .i64 0, .int .i64 0, .int .i32 0, .int .i64 0] 37) = X at *
   have hy := HX.out
   obtain ⟨x0, x1, x2, x3, x4, x5, x6, x7, x8, x9, x10, x11, x12⟩ := cl13 (w := X) (g := w.heap.size) hy; have xl := (hy).lt
   repeat' (first | (go_at_call 76; go_must ((with_reducible refine Calls.mono (HR.out _ (Below.refl _ _)) ?_); rintro _ w1 ⟨rfl, hb1⟩; have hy1 := HX.out.step hb1; clear x0 x1 x2 x3 x4 x5 x6 x7 x8 x9 x10 x11 x12 xl; obtain ⟨x0, x1, x2, x3, x4, x5, x6, x7, x8, x9, x10, x11, x12⟩ := cl13 (w := w1) (g := w.heap.size) hy1; have xl := (hy1).lt; dsimp only)) | (go_at_call 77; go_must ((with_reducible refine Calls.mono (HF.out _ hb1) ?_); rintro _ w2 ⟨rfl, hb2⟩; have hz := (HB.out.step hb1).step hb2; obtain ⟨zl, z0, z1, z2, z3, f0, f1, f2, f3⟩ := bl4 hz; dsimp only)) | go_step)
   have hz4 := (((hz.set_ 0 (.int .i64 f.kind)).set_ 1 (.int .i64 f.at_)).set_ 2 (.int .i32 f.char)).set_ 3 (.int .i64 f.rep)
   have v0 := hz4.cell 0
   have v1 := hz4.cell 1
   have v2 := hz4.cell 2
   have v3 := hz4.cell 3
   simp [noOpn] at v0 v1 v2 v3
   refine bodyPost_ret (v := .tuple #[.agg #[.int .i64 f.kind, .int .i64 f.at_, .int .i32 f.char, .int .i64 f.rep], .nilIface]) (by simp [results, Tryz.results66, go_sem, noOpn, v0, v1, v2, v3]) rfl ?_
   exact ⟨_, rfl, .inl ⟨rfl, rfl⟩, set4_below (bvia e0 (bvia hb1 hb2)) (Nat.le_succ _)⟩
 · rw [if_neg hz]
   simp only [whyV, if_neg hz] at HR
   have HN := hid (fun W => new_err (S := S') (a := a) ({ data := #[104, 105, 115, 116, 111, 114, 121] } : ByteArray) ({ data := #[80, 108, 97, 99, 101] } : ByteArray) x.num [] n (reason (a n)) W ⟨by omega, hwl, rfl⟩)
   simp only [Actn.agg, Opn.agg, reason] at *
   unfold Actn.vals at *
   go_enter Tryz.func66, Tryz.ntmps66
   repeat' (first | (with_reducible refine stop_region 1 ?_) | go_step)
   refine Stop.go ?_
   generalize (w.alloc (.cells #[.int .i64 x.op.kind, .int .i64 x.op.at_, .int .i32 x.op.char, .int .i64 x.op.rep, .int .i64 x.num, .int .i64 x.clk.c0, .int .i64 x.clk.c1, .int .i64 x.clk.c2, .int .i64 x.clk.c3, .int .i64 x.clk.c4, .int .i64 x.clk.c5, .int .i64 x.clk.c6, .int .i64 x.clk.c7] 46)).alloc (.cells #[.int .i64 0, .int .i64 0, .int .i32 0, .int .i64 0] 37) = X at *
   have hy := HX.out
   obtain ⟨x0, x1, x2, x3, x4, x5, x6, x7, x8, x9, x10, x11, x12⟩ := cl13 (w := X) (g := w.heap.size) hy; have xl := (hy).lt
   repeat' (first | (go_at_call 76; go_must ((with_reducible refine Calls.mono (HR.out _ (Below.refl _ _)) ?_); rintro _ w1 ⟨rfl, hb1⟩; have hy1 := HX.out.step hb1; clear x0 x1 x2 x3 x4 x5 x6 x7 x8 x9 x10 x11 x12 xl; obtain ⟨x0, x1, x2, x3, x4, x5, x6, x7, x8, x9, x10, x11, x12⟩ := cl13 (w := w1) (g := w.heap.size) hy1; have xl := (hy1).lt; dsimp only)) | (go_at_call 51; go_must ((with_reducible refine Calls.mono (HN.out _) ?_); rintro _ w2 ⟨v, rfl, hE, hb2⟩; have hz := (HB.out.step hb1).step hb2; obtain ⟨zl, z0, z1, z2, z3, f0, f1, f2, f3⟩ := bl4 hz; dsimp only)) | go_step)
   have hz4 := (((hz.set_ 0 (.int .i64 noOpn.kind)).set_ 1 (.int .i64 noOpn.at_)).set_ 2 (.int .i32 noOpn.char)).set_ 3 (.int .i64 noOpn.rep)
   have v0 := hz4.cell 0
   have v1 := hz4.cell 1
   have v2 := hz4.cell 2
   have v3 := hz4.cell 3
   simp [noOpn] at v0 v1 v2 v3
   refine bodyPost_ret (v := .tuple #[.agg #[.int .i64 noOpn.kind, .int .i64 noOpn.at_, .int .i32 noOpn.char, .int .i64 noOpn.rep], v]) (by simp [results, Tryz.results66, go_sem, noOpn, v0, v1, v2, v3]) rfl ?_
   have hbb := bvia hb1 hb2
   have hsz := (bvia e0 hb1).size
   refine ⟨v, rfl, .inr ?_, set4_below (bvia e0 hbb) (Nat.le_succ _)⟩
   refine (hE.keep (S := Fr w1 S') ?_).more fun b _ hh => hh.imp id fun h' => by have h2 : w1.heap.size ≤ b := h'; show w.heap.size ≤ b; omega
   refine set4_same fun hh => ?_
   rcases hh with hh | hh
   · have := hlow _ hh; omega
   · have h2 : w1.heap.size ≤ w.heap.size + 1 := hh
     have := (HB.out.step hb1).lt
     omega
theorem take_step (w : World) (gb K : Nat) (S S' : Nat → Prop) (s : Lg) (x : Actn) (h : LogAt w S gb s K) (hf : s.Fine K) (hx : x.In) (hs : Sents w S' a) (hlow : ∀ b, S' b → b < w.heap.size) :
 Calls Tryz.prog 37 #[.pointer (some ⟨gb, 0, none⟩), x.agg] w fun e w' => ∃ v, e = .returned (.tuple #[(s.formOf x).agg, v]) ∧ ErrAns w' (Fr w S') a (s.takeCh x) (s.takeCode x) v ∧ LogAt w' (Fr w S) gb (s.takeOf x) (K + 1) ∧ Out S w w' := by
 have HL := hid h.cut
 have hL0 := h.cut
 obtain ⟨bm, mb, A, c, B, d, SM, h, -⟩ := h
 obtain ⟨hX, hB, e0⟩ := twoBoxes w 46 37 x.vals #[.int .i64 0, .int .i64 0, .int .i32 0, .int .i64 0]
 have h0 := h.step e0
 have hs0 := hs.step e0
 have hLX := hL0.step e0
 have hfit := hf.fits
 have HR := hid (fun W (hb : Below ((w.alloc (.cells x.vals 46)).alloc (.cells #[.int .i64 0, .int .i64 0, .int .i32 0, .int .i64 0] 37)).heap.size ((w.alloc (.cells x.vals 46)).alloc (.cells #[.int .i64 0, .int .i64 0, .int .i32 0, .int .i64 0] 37)) W) => refused8_any (a := a) W gb bm mb c d K A B SM S' s x (h0.step hb) hf.base hf.acts hf.clk hx (hs0.step hb))
 have HF := hid (fun W (hb : Below ((w.alloc (.cells x.vals 46)).alloc (.cells #[.int .i64 0, .int .i64 0, .int .i32 0, .int .i64 0] 37)).heap.size ((w.alloc (.cells x.vals 46)).alloc (.cells #[.int .i64 0, .int .i64 0, .int .i32 0, .int .i64 0] 37)) W) => form_any W gb bm mb c d K A B SM s x (h0.step hb) hf.acts hf.l hf.st hf.epo hf.nd hx.op)
 have HD := hid (fun W (hb : Below ((w.alloc (.cells x.vals 46)).alloc (.cells #[.int .i64 0, .int .i64 0, .int .i32 0, .int .i64 0] 37)).heap.size ((w.alloc (.cells x.vals 46)).alloc (.cells #[.int .i64 0, .int .i64 0, .int .i32 0, .int .i64 0] 37)) W) => deliver_step (a := a) W gb K (fun b => S b ∧ b < w.heap.size) S' s x (s.form x) (hLX.step hb) hfit ⟨hf.ep, hx.op.rep, hx.num⟩ (form_rep s x).symm (hs0.step hb))
 have HX := hid hX
 have HB := hid hB
 have hwl := s.why_le x
 by_cases hz : s.why x = 0
 · have Hcode := hid (show s.takeCode x = whyOf s.l (s.form x) (s.name x) from if_pos hz)
   have Hch := hid (show s.takeCh x = ⟨({ data := #[104, 105, 115, 116, 111, 114, 121] } : ByteArray), ({ data := #[84, 97, 107, 101] } : ByteArray), atOf x.num⟩ :: chOf (s.form x) (whyOf s.l (s.form x) (s.name x)) by unfold Lg.takeCh; rw [if_pos hz])
   have Hof := hid (show s.takeOf x = s.deliver x (s.form x) from if_pos hz)
   have Hform := hid (show s.formOf x = if whyOf s.l (s.form x) (s.name x) = 0 then s.form x else noOpn by unfold Lg.formOf; rw [Hcode.out])
   rw [hz] at HR
   simp only [whyV, if_true] at HR
   clear h h0 hX hB hs hs0 hf hx hL0 hLX hfit hz hwl
   rw [Hcode.out, Hch.out, Hof.out, Hform.out]
   obtain ⟨f, hf⟩ : ∃ f, f = s.form x := ⟨_, rfl⟩
   rw [← hf] at HF HD ⊢
   clear hf Hcode Hch Hof Hform
   obtain ⟨n, hn⟩ : ∃ n, n = whyOf s.l f (s.name x) := ⟨_, rfl⟩
   rw [← hn] at HD ⊢
   clear hn
   obtain ⟨s', hs'⟩ : ∃ s', s' = s.deliver x f := ⟨_, rfl⟩
   rw [← hs'] at HD ⊢
   clear hs'
   obtain ⟨P, hP⟩ : ∃ P, P = (if n = 0 then f else noOpn) := ⟨_, rfl⟩
   rw [← hP]
   have HP := hid hP
   clear hP
   simp only [Actn.agg, Opn.agg] at *
   unfold Actn.vals at *
   go_enter Tryz.func37, Tryz.ntmps37
   repeat' (first | (with_reducible refine stop_region 1 ?_) | go_step)
   refine Stop.go ?_
   generalize (w.alloc (.cells #[.int .i64 x.op.kind, .int .i64 x.op.at_, .int .i32 x.op.char, .int .i64 x.op.rep, .int .i64 x.num, .int .i64 x.clk.c0, .int .i64 x.clk.c1, .int .i64 x.clk.c2, .int .i64 x.clk.c3, .int .i64 x.clk.c4, .int .i64 x.clk.c5, .int .i64 x.clk.c6, .int .i64 x.clk.c7] 46)).alloc (.cells #[.int .i64 0, .int .i64 0, .int .i32 0, .int .i64 0] 37) = X at *
   have hy := HX.out
   obtain ⟨x0, x1, x2, x3, x4, x5, x6, x7, x8, x9, x10, x11, x12⟩ := cl13 (w := X) (g := w.heap.size) hy; have xl := (hy).lt
   repeat' (first | (go_at_call 76; go_must ((with_reducible refine Calls.mono (HR.out _ (Below.refl _ _)) ?_); rintro _ w1 ⟨rfl, hb1⟩; dsimp only)) | (with_reducible refine stop_region 3 ?_) | go_step)
   refine Stop.go ?_
   clear x0 x1 x2 x3 x4 x5 x6 x7 x8 x9 x10 x11 x12 xl
   clear hy
   have eF : Below w1.heap.size w1 (w1.alloc (.cells #[.int .i64 0, .int .i64 0, .int .i32 0, .int .i64 0] 37)) := balloc (Below.refl _ _)
   have hfb := Blk.new w1 37 #[.int .i64 0, .int .i64 0, .int .i32 0, .int .i64 0]
   have hb2 := bvia hb1 eF
   have hw1 := (bvia e0 hb1).size
   clear eF
   generalize w1.alloc (.cells #[.int .i64 0, .int .i64 0, .int .i32 0, .int .i64 0] 37) = X2 at *
   have hXs := HB.out.lt
   have hfbX : X.heap.size ≤ w1.heap.size := hb1.size
   generalize w1.heap.size = fb at *
   have hy := HX.out.step hb2
   obtain ⟨x0, x1, x2, x3, x4, x5, x6, x7, x8, x9, x10, x11, x12⟩ := cl13 (w := X2) (g := w.heap.size) hy; have xl := (hy).lt
   repeat' (first | (go_at_call 77; go_must ((with_reducible refine Calls.mono (HF.out _ hb2) ?_); rintro _ w3 ⟨rfl, hb3⟩; have hz := hfb.step hb3; obtain ⟨zl, z0, z1, z2, z3, f0, f1, f2, f3⟩ := bl4 hz; dsimp only)) | (with_reducible refine stop_region 5 ?_) | go_step)
   refine Stop.go ?_
   have hfb5 := (((hz.set_ 0 (.int .i64 f.kind)).set_ 1 (.int .i64 f.at_)).set_ 2 (.int .i32 f.char)).set_ 3 (.int .i64 f.rep)
   have hb5 := set4_below (u0 := .int .i64 f.kind) (u1 := .int .i64 f.at_) (u2 := .int .i32 f.char) (u3 := .int .i64 f.rep) (bvia hb2 hb3) hfbX
   clear hz z0 z1 z2 z3 f0 f1 f2 f3 zl hb3 hb2 hfb hb1
   clear x0 x1 x2 x3 x4 x5 x6 x7 x8 x9 x10 x11 x12 xl
   clear hy
   generalize (((w3.setCell ⟨fb, 0, none⟩ (.int .i64 f.kind)).setCell ⟨fb, 1, none⟩ (.int .i64 f.at_)).setCell ⟨fb, 2, none⟩ (.int .i32 f.char)).setCell ⟨fb, 3, none⟩ (.int .i64 f.rep) = W5 at *
   have hy := HX.out.step hb5
   have hr5 := HB.out.step hb5
   have Hy := hid hy
   have Hr5 := hid hr5
   have Hfb5 := hid hfb5
   obtain ⟨x0, x1, x2, x3, x4, x5, x6, x7, x8, x9, x10, x11, x12⟩ := cl13 (w := W5) (g := w.heap.size) hy; have xl := (hy).lt
   obtain ⟨q0, q1, q2, q3⟩ := cl4 (w := W5) (g := fb) hfb5
   have ql := hfb5.lt
   have hw5 := (bvia e0 hb5).size
   clear hfb5 hy hr5
   repeat' (first | (go_at_call 65; go_must ((with_reducible refine Calls.mono (HD.out _ hb5) ?_); rintro _ w6 ⟨v, rfl, hE, hL6, hO6⟩; dsimp only)) | (with_reducible refine stop_region 6 ?_) | go_step)
   refine Stop.go ?_
   clear x0 x1 x2 x3 x4 x5 x6 x7 x8 x9 x10 x11 x12 xl
   clear q0 q1 q2 q3 ql
   have hy6 := hO6.blk Hy.out (by rintro ⟨-, h⟩; omega)
   have hfb6 := hO6.blk Hfb5.out (by rintro ⟨-, h⟩; omega)
   have hr6 := hO6.blk Hr5.out (by rintro ⟨-, h⟩; omega)
   have hO : Out S w w6 := (Out.of_below (S := S) (bvia e0 hb5)).trans hO6 fun _ _ h => h.1
   have hw6 := hO6.size
   rcases hE with ⟨hc, rfl⟩ | hE
   · subst hc
     obtain ⟨q0, q1, q2, q3⟩ := cl4 (w := w6) (g := fb) hfb6
     have ql := hfb6.lt
     have hz := hr6; obtain ⟨zl, z0, z1, z2, z3, f0, f1, f2, f3⟩ := bl4 hz
     repeat' (first | go_step)
     have hz4 := (((hz.set_ 0 (.int .i64 f.kind)).set_ 1 (.int .i64 f.at_)).set_ 2 (.int .i32 f.char)).set_ 3 (.int .i64 f.rep)
     have v0 := hz4.cell 0
     have v1 := hz4.cell 1
     have v2 := hz4.cell 2
     have v3 := hz4.cell 3
     simp [noOpn] at v0 v1 v2 v3
     refine bodyPost_ret (v := .tuple #[.agg #[.int .i64 f.kind, .int .i64 f.at_, .int .i32 f.char, .int .i64 f.rep], .nilIface]) (by simp [results, Tryz.results37, go_sem, noOpn, v0, v1, v2, v3]) rfl ?_
     refine ⟨_, by rw [HP.out, if_pos rfl], .inl ⟨rfl, rfl⟩, ?_, set4_out hO (Nat.le_succ _)⟩
     refine (hL6.keep (S := fun b => Fr W5 (fun b => S b ∧ b < w.heap.size) b) (by simp [World.setCell]) fun b hb hs => set4_same (T := fun b => Fr W5 (fun b => S b ∧ b < w.heap.size) b) (fun hh => ?_) b hs hb).more fun b hb => ?_
     · rcases hh with ⟨-, hh⟩ | hh
       · omega
       · have h2 : W5.heap.size ≤ w.heap.size + 1 := hh
         have := Hr5.out.lt
         omega
     · rcases hb with hb | hb
       · exact .inl hb.1
       · have h2 : W5.heap.size ≤ b := hb
         exact .inr (by show w.heap.size ≤ b; omega)
   · have hn0 : n ≠ 0 := fun hn => by
      subst hn
      exact not_err0 _ _ hE
     have HN := hid (new_err ({ data := #[104, 105, 115, 116, 111, 114, 121] } : ByteArray) ({ data := #[84, 97, 107, 101] } : ByteArray) x.num _ n v w6 hE)
     obtain ⟨tv, xv, rfl⟩ := hE.notNil
     obtain ⟨x0, x1, x2, x3, x4, x5, x6, x7, x8, x9, x10, x11, x12⟩ := cl13 (w := w6) (g := w.heap.size) hy6; have xl := (hy6).lt
     repeat' (first | (go_at_call 51; go_must ((with_reducible refine Calls.mono HN.out ?_); rintro _ w7 ⟨v, rfl, hE7, hb7⟩; have hz := hr6.step hb7; obtain ⟨zl, z0, z1, z2, z3, f0, f1, f2, f3⟩ := bl4 hz; dsimp only)) | go_step)
     have hz4 := (((hz.set_ 0 (.int .i64 noOpn.kind)).set_ 1 (.int .i64 noOpn.at_)).set_ 2 (.int .i32 noOpn.char)).set_ 3 (.int .i64 noOpn.rep)
     have v0 := hz4.cell 0
     have v1 := hz4.cell 1
     have v2 := hz4.cell 2
     have v3 := hz4.cell 3
     simp [noOpn] at v0 v1 v2 v3
     refine bodyPost_ret (v := .tuple #[.agg #[.int .i64 noOpn.kind, .int .i64 noOpn.at_, .int .i32 noOpn.char, .int .i64 noOpn.rep], v]) (by simp [results, Tryz.results37, go_sem, noOpn, v0, v1, v2, v3]) rfl ?_
     have hO7 : Out S w w7 := hO.trans (Out.of_below (S := S) hb7) fun _ _ h => h
     have hw7 := hb7.size
     refine ⟨_, by rw [HP.out, if_neg hn0], .inr ?_, ?_, set4_out hO7 (Nat.le_succ _)⟩
     · refine (hE7.keep (S := Fr w6 (Fr W5 S')) ?_).more fun b _ hh => ?_
       · refine set4_same fun hh => ?_
         rcases hh with (hh | hh) | hh
         · have := hlow _ hh; omega
         · have h2 : W5.heap.size ≤ w.heap.size + 1 := hh
           have := Hr5.out.lt
           omega
         · have h2 : w6.heap.size ≤ w.heap.size + 1 := hh
           have := hr6.lt
           omega
       · rcases hh with (hh | hh) | hh
         · exact .inl hh
         · have h2 : W5.heap.size ≤ b := hh
           exact .inr (by show w.heap.size ≤ b; omega)
         · have h2 : w6.heap.size ≤ b := hh
           exact .inr (by show w.heap.size ≤ b; omega)
     · refine ((hL6.step hb7).keep (S := fun b => Fr W5 (fun b => S b ∧ b < w.heap.size) b) (by simp [World.setCell]) fun b hb hs => set4_same (T := fun b => Fr W5 (fun b => S b ∧ b < w.heap.size) b) (fun hh => ?_) b hs hb).more fun b hb => ?_
       · rcases hh with ⟨-, hh⟩ | hh
         · omega
         · have h2 : W5.heap.size ≤ w.heap.size + 1 := hh
           have := Hr5.out.lt
           omega
       · rcases hb with hb | hb
         · exact .inl hb.1
         · have h2 : W5.heap.size ≤ b := hb
           exact .inr (by show w.heap.size ≤ b; omega)
 · have Hcode := hid (show s.takeCode x = s.why x from if_neg hz)
   have Hch := hid (show s.takeCh x = [⟨({ data := #[104, 105, 115, 116, 111, 114, 121] } : ByteArray), ({ data := #[84, 97, 107, 101] } : ByteArray), atOf x.num⟩] by unfold Lg.takeCh; rw [if_neg hz])
   have Hof := hid (show s.takeOf x = s from if_neg hz)
   have Hform := hid (show s.formOf x = noOpn by unfold Lg.formOf; rw [Hcode.out, if_neg hz])
   rw [Hcode.out, Hch.out, Hof.out, Hform.out]
   clear Hcode Hch Hof Hform
   obtain ⟨n, hn⟩ : ∃ n, n = s.why x := ⟨_, rfl⟩
   rw [← hn] at HR hwl hz ⊢
   simp only [whyV, if_neg hz] at HR
   have HN := hid (fun W => new_err (S := S') (a := a) ({ data := #[104, 105, 115, 116, 111, 114, 121] } : ByteArray) ({ data := #[84, 97, 107, 101] } : ByteArray) x.num [] n (reason (a n)) W ⟨by omega, hwl, rfl⟩)
   have HLX := hid hLX
   clear h h0 hX hB hs hs0 hf hx hL0 hLX hfit hn HF HD
   simp only [Actn.agg, Opn.agg, reason] at *
   unfold Actn.vals at *
   go_enter Tryz.func37, Tryz.ntmps37
   repeat' (first | (with_reducible refine stop_region 1 ?_) | go_step)
   refine Stop.go ?_
   generalize (w.alloc (.cells #[.int .i64 x.op.kind, .int .i64 x.op.at_, .int .i32 x.op.char, .int .i64 x.op.rep, .int .i64 x.num, .int .i64 x.clk.c0, .int .i64 x.clk.c1, .int .i64 x.clk.c2, .int .i64 x.clk.c3, .int .i64 x.clk.c4, .int .i64 x.clk.c5, .int .i64 x.clk.c6, .int .i64 x.clk.c7] 46)).alloc (.cells #[.int .i64 0, .int .i64 0, .int .i32 0, .int .i64 0] 37) = X at *
   have hy := HX.out
   obtain ⟨x0, x1, x2, x3, x4, x5, x6, x7, x8, x9, x10, x11, x12⟩ := cl13 (w := X) (g := w.heap.size) hy; have xl := (hy).lt
   repeat' (first | (go_at_call 76; go_must ((with_reducible refine Calls.mono (HR.out _ (Below.refl _ _)) ?_); rintro _ w1 ⟨rfl, hb1⟩; dsimp only)) | (with_reducible refine stop_region 3 ?_) | go_step)
   refine Stop.go ?_
   clear x0 x1 x2 x3 x4 x5 x6 x7 x8 x9 x10 x11 x12 xl
   clear hy
   have eF : Below w1.heap.size w1 (w1.alloc (.cells #[.int .i64 0, .int .i64 0, .int .i32 0, .int .i64 0] 37)) := balloc (Below.refl _ _)
   have hb2 := bvia hb1 eF
   have hw1 := (bvia e0 hb1).size
   generalize w1.alloc (.cells #[.int .i64 0, .int .i64 0, .int .i32 0, .int .i64 0] 37) = X2 at *
   have hy := HX.out.step hb2
   obtain ⟨x0, x1, x2, x3, x4, x5, x6, x7, x8, x9, x10, x11, x12⟩ := cl13 (w := X2) (g := w.heap.size) hy; have xl := (hy).lt
   repeat' (first | (go_at_call 51; go_must ((with_reducible refine Calls.mono (HN.out _) ?_); rintro _ w2 ⟨v, rfl, hE, hb3⟩; have hz := (HB.out.step hb2).step hb3; obtain ⟨zl, z0, z1, z2, z3, f0, f1, f2, f3⟩ := bl4 hz; dsimp only)) | go_step)
   have hz4 := (((hz.set_ 0 (.int .i64 noOpn.kind)).set_ 1 (.int .i64 noOpn.at_)).set_ 2 (.int .i32 noOpn.char)).set_ 3 (.int .i64 noOpn.rep)
   have v0 := hz4.cell 0
   have v1 := hz4.cell 1
   have v2 := hz4.cell 2
   have v3 := hz4.cell 3
   simp [noOpn] at v0 v1 v2 v3
   refine bodyPost_ret (v := .tuple #[.agg #[.int .i64 noOpn.kind, .int .i64 noOpn.at_, .int .i32 noOpn.char, .int .i64 noOpn.rep], v]) (by simp [results, Tryz.results37, go_sem, noOpn, v0, v1, v2, v3]) rfl ?_
   have hbb := bvia hb2 hb3
   have hX2 := eF.size
   refine ⟨v, rfl, .inr ?_, ?_, Out.of_below (set4_below (bvia e0 hbb) (Nat.le_succ _))⟩
   · refine (hE.keep (S := Fr X2 S') ?_).more fun b _ hh => hh.imp id fun h' => by have h2 : X2.heap.size ≤ b := h'; show w.heap.size ≤ b; omega
     refine set4_same fun hh => ?_
     rcases hh with hh | hh
     · have := hlow _ hh; omega
     · have h2 : X2.heap.size ≤ w.heap.size + 1 := hh
       have := (HB.out.step hb2).lt
       omega
   · exact ((HL.out.step (set4_below (bvia e0 hbb) (Nat.le_succ _))).monoK (Nat.le_succ K)).more fun b hb => .inl hb.1
end Go.Proofs.YteggpddlkkjmjaaGreatDoor
namespace Go.Proofs.YteggpddlkkjmjaaGreatDoor
open Go Go.RowKit
variable {a : Nat → Addr}
theorem rissue_step (w : World) (rb K : Nat) (S : Nat → Prop) (s : Lg) (o : Opn) (h : RLogAt w S rb s) (hf : s.Fine K) (hx : o.In) (hck : ∀ k, k < 8 → s.clk.get k ≤ 2097152) :
 Calls Tryz.prog 75 #[.pointer (some ⟨rb, 0, none⟩), o.agg] w fun e w' => ∃ v, e = .returned (.tuple #[(s.issued o).agg, v]) ∧ NoAns w' (fun b => w.heap.size ≤ b) (s.issueCh o) (s.issueCode o) v ∧ RLogAt w' (Fr w S) rb (s.issueOf o) ∧ Out S w w' := by
 have HL := hid h.cut
 have hL0 := h.cut
 obtain ⟨E, ce, A, c, B, d, L, cl, SR, h, -⟩ := h
 obtain ⟨hX, hB, hN, e0⟩ := boxes3 w 37 46 62 #[.int .i64 o.kind, .int .i64 o.at_, .int .i32 o.char, .int .i64 o.rep] #[.int .i64 0, .int .i64 0, .int .i32 0, .int .i64 0, .int .i64 0, .int .i64 0, .int .i64 0, .int .i64 0, .int .i64 0, .int .i64 0, .int .i64 0, .int .i64 0, .int .i64 0] #[.int .i64 0, .slice none 0 0, .slice none 0 0]
 have h0 := h.step e0
 have hLX := hL0.step e0
 have HG := hid h0
 have HR := hid (fun W => refRightOp_any o W)
 have HD := hid (fun W (hb : Below (((w.alloc (.cells #[.int .i64 o.kind, .int .i64 o.at_, .int .i32 o.char, .int .i64 o.rep] 37)).alloc (.cells #[.int .i64 0, .int .i64 0, .int .i32 0, .int .i64 0, .int .i64 0, .int .i64 0, .int .i64 0, .int .i64 0, .int .i64 0, .int .i64 0, .int .i64 0, .int .i64 0, .int .i64 0] 46)).alloc (.cells #[.int .i64 0, .slice none 0 0, .slice none 0 0] 62)).heap.size (((w.alloc (.cells #[.int .i64 o.kind, .int .i64 o.at_, .int .i32 o.char, .int .i64 o.rep] 37)).alloc (.cells #[.int .i64 0, .int .i64 0, .int .i32 0, .int .i64 0, .int .i64 0, .int .i64 0, .int .i64 0, .int .i64 0, .int .i64 0, .int .i64 0, .int .i64 0, .int .i64 0, .int .i64 0] 46)).alloc (.cells #[.int .i64 0, .slice none 0 0, .slice none 0 0] 62)) W) => rdeliver_step W rb (fun b => S b ∧ b < w.heap.size) s (s.actOf o) o (hLX.step hb) ⟨hf.l, hf.acts, hf.forms⟩ (fun e he => by have := hf.calm e he; constructor <;> omega) rfl)
 have HX := hid hX
 have HB := hid hB
 have HN := hid hN
 have Hck := hid hck
 have Hclk := hid hf.clk
 clear h h0 hX hB hN hf hx hL0 hLX hck
 have hcl : (chOf o (whyOf s.l o (s.name (s.actOf o)))).length ≤ 1073741824 := chOf_length _ _
 have hc13 : whyOf s.l o (s.name (s.actOf o)) ≤ 13 := why_le13 _ _ _
 obtain ⟨n, hn⟩ : ∃ n, n = s.issueCode o := ⟨_, rfl⟩
 have hn' : n = whyOf s.l o (s.name (s.actOf o)) := hn
 rw [← hn'] at HD hcl hc13
 obtain ⟨s', hs'⟩ : ∃ s', s' = s.issueOf o := ⟨_, rfl⟩
 have hs'' : s' = s.deliver (s.actOf o) o := hs'
 rw [← hs''] at HD
 obtain ⟨P, hP⟩ : ∃ P, P = s.issued o := ⟨_, rfl⟩
 have Hch := hid (show s.issueCh o = ⟨({ data := #[104, 105, 115, 116, 111, 114, 121] } : ByteArray), ({ data := #[73, 115, 115, 117, 101] } : ByteArray), atOf o.at_⟩ :: chOf o n by unfold Lg.issueCh; rw [← hn])
 have HP := hid (show P = if n = 0 then s.actOf o else noActn by rw [hP, hn]; rfl)
 rw [← hn, ← hs', ← hP, Hch.out]
 clear hn hn' hs' hs'' hP Hch
 obtain ⟨y, hy⟩ : ∃ y, y = s.actOf o := ⟨_, rfl⟩
 rw [← hy] at HD HP
 have Hy := hid hy
 clear hy
 simp only [Actn.agg, Opn.agg] at *
 unfold Actn.vals at *
 go_enter Tryz.func75, Tryz.ntmps75
 repeat' (first | (with_reducible refine stop_region 1 ?_) | go_step)
 refine Stop.go ?_
 generalize ((w.alloc (.cells #[.int .i64 o.kind, .int .i64 o.at_, .int .i32 o.char, .int .i64 o.rep] 37)).alloc (.cells #[.int .i64 0, .int .i64 0, .int .i32 0, .int .i64 0, .int .i64 0, .int .i64 0, .int .i64 0, .int .i64 0, .int .i64 0, .int .i64 0, .int .i64 0, .int .i64 0, .int .i64 0] 46)).alloc (.cells #[.int .i64 0, .slice none 0 0, .slice none 0 0] 62) = X at *
 have hxd := HX.out.step (drew_below X)
 have hgd := (HG.out.step (drew_below X)).g
 obtain ⟨o0, o1, o2, o3⟩ := cl4 (w := X.drew) (g := w.heap.size) hxd; have ol := (hxd).lt
 have g4 : X.drew.cell? ⟨rb, 4, none⟩ = some (.int .i64 s.clk.c0) := (hgd).cell 4; have g5 : X.drew.cell? ⟨rb, 5, none⟩ = some (.int .i64 s.clk.c1) := (hgd).cell 5; have g6 : X.drew.cell? ⟨rb, 6, none⟩ = some (.int .i64 s.clk.c2) := (hgd).cell 6; have g7 : X.drew.cell? ⟨rb, 7, none⟩ = some (.int .i64 s.clk.c3) := (hgd).cell 7; have g8 : X.drew.cell? ⟨rb, 8, none⟩ = some (.int .i64 s.clk.c4) := (hgd).cell 8; have g9 : X.drew.cell? ⟨rb, 9, none⟩ = some (.int .i64 s.clk.c5) := (hgd).cell 9; have g10 : X.drew.cell? ⟨rb, 10, none⟩ = some (.int .i64 s.clk.c6) := (hgd).cell 10; have g11 : X.drew.cell? ⟨rb, 11, none⟩ = some (.int .i64 s.clk.c7) := (hgd).cell 11; have gl := (hgd).lt
 repeat' (first | ((with_reducible refine region_at 1 ?_); refine wp_region_order (rgl [0,4,8,12,16,20,25,31]) (by kernel_rfl) (by kernel_rfl) (by kernel_rfl) rfl rfl ?_) | (with_reducible refine Keep.allocD ?_) | (with_reducible refine stop_region 2 ?_) | (with_reducible refine Keep.last ?_) | ((with_reducible refine WpH.here ?_); first | (refine WpH.nil ?_; refine NoP.normal ?_) | ((first | refine WpH.load (by rfl) (by rfl) (by go_simp; rfl) ?_ | refine WpH.pure (by rfl) (fun w_ => by go_simp; (try go_bits); rfl) ?_); go_frame) | (refine WpH.wild1 (by rfl) (fun _ _ => ?_))) | go_step)
 refine Stop.go ?_
 have eA : Below X.heap.size X (X.alloc (.cells #[.int .i64 o.kind, .int .i64 o.at_, .int .i32 o.char, .int .i64 o.rep, .int .i64 0, .int .i64 s.clk.c0, .int .i64 s.clk.c1, .int .i64 s.clk.c2, .int .i64 s.clk.c3, .int .i64 s.clk.c4, .int .i64 s.clk.c5, .int .i64 s.clk.c6, .int .i64 s.clk.c7] 46)).drew := (balloc (Below.refl _ _)).drew
 have hab : Blk (X.alloc (.cells #[.int .i64 o.kind, .int .i64 o.at_, .int .i32 o.char, .int .i64 o.rep, .int .i64 0, .int .i64 s.clk.c0, .int .i64 s.clk.c1, .int .i64 s.clk.c2, .int .i64 s.clk.c3, .int .i64 s.clk.c4, .int .i64 s.clk.c5, .int .i64 s.clk.c6, .int .i64 s.clk.c7] 46)).drew X.heap.size 46 #[.int .i64 o.kind, .int .i64 o.at_, .int .i32 o.char, .int .i64 o.rep, .int .i64 0, .int .i64 s.clk.c0, .int .i64 s.clk.c1, .int .i64 s.clk.c2, .int .i64 s.clk.c3, .int .i64 s.clk.c4, .int .i64 s.clk.c5, .int .i64 s.clk.c6, .int .i64 s.clk.c7] := (Blk.new X 46 #[.int .i64 o.kind, .int .i64 o.at_, .int .i32 o.char, .int .i64 o.rep, .int .i64 0, .int .i64 s.clk.c0, .int .i64 s.clk.c1, .int .i64 s.clk.c2, .int .i64 s.clk.c3, .int .i64 s.clk.c4, .int .i64 s.clk.c5, .int .i64 s.clk.c6, .int .i64 s.clk.c7]).drew
 clear o0 o1 o2 o3 ol
 clear hxd hgd g4 g5 g6 g7 g8 g9 g10 g11 gl
 generalize (X.alloc (.cells #[.int .i64 o.kind, .int .i64 o.at_, .int .i32 o.char, .int .i64 o.rep, .int .i64 0, .int .i64 s.clk.c0, .int .i64 s.clk.c1, .int .i64 s.clk.c2, .int .i64 s.clk.c3, .int .i64 s.clk.c4, .int .i64 s.clk.c5, .int .i64 s.clk.c6, .int .i64 s.clk.c7] 46)).drew = Y at *
 have hXl := HN.out.lt
 rcases hr : rightOp o with _ | _
 · rw [hr] at HR
   have hyv : y = ⟨o, 0, s.clk⟩ := by rw [Hy.out]; unfold Lg.actOf; rw [hr]; rfl
   clear Hy
   subst hyv
   dsimp only at HD
   have hox := HX.out.step eA
   obtain ⟨o0, o1, o2, o3⟩ := cl4 (w := Y) (g := w.heap.size) hox; have ol := (hox).lt
   repeat' (first | (go_at_call 108; go_must ((with_reducible refine Calls.mono (HR.out _) ?_); rintro _ Z ⟨rfl, hbR⟩; dsimp only)) | (with_reducible refine stop_region 4 ?_) | go_step)
   refine Stop.go ?_
   have hbZ := bvia eA hbR
   have hab := hab.step hbR
   clear o0 o1 o2 o3 ol
   clear eA hbR hox
   have hox := HX.out.step hbZ
   obtain ⟨o0, o1, o2, o3⟩ := cl4 (w := Z) (g := w.heap.size) hox; have ol := (hox).lt
   obtain ⟨a0, a1, a2, a3, a4, a5, a6, a7, a8, a9, a10, a11, a12⟩ := cl13 (w := Z) (g := X.heap.size) hab; have al := (hab).lt
   have hwZ := (bvia e0 hbZ).size
   have hrZ := HB.out.step hbZ
   have hnZ := HN.out.step hbZ
   repeat' (first | (go_at_call 105; go_must ((with_reducible refine Calls.mono (HD.out _ hbZ) ?_); rintro _ w6 ⟨v, rfl, hE, hL6, hO6⟩; (rcases hE with ⟨hc, hv⟩ | ⟨hc1, A1, m1, d1, B1, k1, rfl, hr1, hr2⟩ <;> try (have hv' : v = .agg #[.int .i64 0, .slice none 0 0, .slice none 0 0] := hv; clear hv; subst hv')); all_goals dsimp only)) | (with_reducible refine stop_region 5 ?_) | go_step)
   all_goals refine Stop.go ?_
   · subst hc
     clear o0 o1 o2 o3 ol
     clear a0 a1 a2 a3 a4 a5 a6 a7 a8 a9 a10 a11 a12 al
     have eN : Below w6.heap.size w6 (w6.alloc (.cells #[.int .i64 0, .slice none 0 0, .slice none 0 0] 62)) := balloc (Below.refl _ _)
     have hnb := Blk.new w6 62 #[.int .i64 0, .slice none 0 0, .slice none 0 0]
     have hab6 := (hO6.blk hab (by rintro ⟨-, h⟩; omega)).step eN
     have hr6 := (hO6.blk hrZ (by rintro ⟨-, h⟩; omega)).step eN
     have hn6 := (hO6.blk hnZ (by rintro ⟨-, h⟩; omega)).step eN
     have hO : Out S w (w6.alloc (.cells #[.int .i64 0, .slice none 0 0, .slice none 0 0] 62)) := ((Out.of_below (S := S) (bvia e0 hbZ)).trans hO6 fun _ _ h => h.1).step8 eN
     have hw6 := hO6.size
     have hX2l := hnZ.lt
     have hL7 := hL6.step eN
     have hns := eN.size
     generalize w6.alloc (.cells #[.int .i64 0, .slice none 0 0, .slice none 0 0] 62) = W7 at *
     have hnl := hnb.lt
     have nn0 : W7.cell? ⟨w6.heap.size, 0, none⟩ = some (.int .i64 0) := hnb.cell 0
     obtain ⟨a0, a1, a2, a3, a4, a5, a6, a7, a8, a9, a10, a11, a12⟩ := cl13 (w := W7) (g := X.heap.size) hab6; have al := (hab6).lt
     have hz := hr6; have hq := hn6; obtain ⟨zl, z0, z1, z2, z3, z4, z5, z6, z7, z8, z9, z10, z11, z12, f0, f1, f2, f3, f4, f5, f6, f7, f8, f9, f10, f11, f12⟩ := bl13 hz; obtain ⟨ql, q0, q1, q2, r0, r1, r2⟩ := bl3 hq
     repeat' (first | go_step)
     have hz4 := (hz.sets (act13 ⟨o, 0, s.clk⟩)).keep (S := fun b => b ≠ w.heap.size + 1 + 1) (by show w.heap.size + 1 ≠ w.heap.size + 1 + 1; omega) (Same.sets (b := w.heap.size + 1 + 1) (no3 (.int .i64 0) (.slice none 0 0) (.slice none 0 0)) fun hh => hh rfl)
     have hq3 := (hq.keep (S := fun b => b ≠ w.heap.size + 1) (by show w.heap.size + 1 + 1 ≠ w.heap.size + 1; omega) (Same.sets (b := w.heap.size + 1) (act13 ⟨o, 0, s.clk⟩) fun hh => hh rfl)).sets (no3 (.int .i64 0) (.slice none 0 0) (.slice none 0 0))
     have v0 := hz4.cell 0
     have v1 := hz4.cell 1
     have v2 := hz4.cell 2
     have v3 := hz4.cell 3
     have v4 := hz4.cell 4
     have v5 := hz4.cell 5
     have v6 := hz4.cell 6
     have v7 := hz4.cell 7
     have v8 := hz4.cell 8
     have v9 := hz4.cell 9
     have v10 := hz4.cell 10
     have v11 := hz4.cell 11
     have v12 := hz4.cell 12
     have n0 := hq3.cell 0
     have n1 := hq3.cell 1
     have n2 := hq3.cell 2
     simp [act13, no3, noActn, noOpn, Clk.zero] at v0 v1 v2 v3 v4 v5 v6 v7 v8 v9 v10 v11 v12 n0 n1 n2
     refine bodyPost_ret (w := setsAt (w.heap.size + 1 + 1) (no3 (.int .i64 0) (.slice none 0 0) (.slice none 0 0)) (setsAt (w.heap.size + 1) (act13 ⟨o, 0, s.clk⟩) W7)) (v := .tuple #[.agg #[.int .i64 o.kind, .int .i64 o.at_, .int .i32 o.char, .int .i64 o.rep, .int .i64 0, .int .i64 s.clk.c0, .int .i64 s.clk.c1, .int .i64 s.clk.c2, .int .i64 s.clk.c3, .int .i64 s.clk.c4, .int .i64 s.clk.c5, .int .i64 s.clk.c6, .int .i64 s.clk.c7], .agg #[(.int .i64 0), (.slice none 0 0), (.slice none 0 0)]]) (by simp [act13, no3, noActn, noOpn, Clk.zero, results, Tryz.results75, go_sem, v0, v1, v2, v3, v4, v5, v6, v7, v8, v9, v10, v11, v12, n0, n1, n2]) rfl ?_
     refine ⟨noNone, by rw [HP.out, if_pos rfl]; rfl, .inl ⟨rfl, rfl⟩, ?_, (hO.sets _ (by omega)).sets _ (by omega)⟩
     exact rlog_box hL7 hX2l (by omega) (by omega) (by omega)
   · have hn0 : n ≠ 0 := by omega
     have hz0 : ((n : Int) != 0) = true := by simp; omega
     clear o0 o1 o2 o3 ol
     clear a0 a1 a2 a3 a4 a5 a6 a7 a8 a9 a10 a11 a12 al
     have eN : Below w6.heap.size w6 (w6.alloc (.cells #[.int .i64 n, .slice A1 m1 d1, .slice B1 1 k1] 62)) := balloc (Below.refl _ _)
     have hnb := Blk.new w6 62 #[.int .i64 n, .slice A1 m1 d1, .slice B1 1 k1]
     have hy6 := (hO6.blk hox (by rintro ⟨-, h⟩; omega)).step eN
     have hr6 := (hO6.blk hrZ (by rintro ⟨-, h⟩; omega)).step eN
     have hn6 := (hO6.blk hnZ (by rintro ⟨-, h⟩; omega)).step eN
     have hO : Out S w (w6.alloc (.cells #[.int .i64 n, .slice A1 m1 d1, .slice B1 1 k1] 62)) := ((Out.of_below (S := S) (bvia e0 hbZ)).trans hO6 fun _ _ h => h.1).step8 eN
     have hw6 := hO6.size
     have hX2l := hnZ.lt
     have hL7 := hL6.step eN
     have hr1 := hr1.step eN
     have hr2 := hr2.step eN
     have hm1 : m1 ≤ 1073741824 := by rw [← hr1.1]; exact hcl
     have hns := eN.size
     clear eN
     generalize w6.alloc (.cells #[.int .i64 n, .slice A1 m1 d1, .slice B1 1 k1] 62) = W7 at *
     have hnl := hnb.lt
     have nn0 : W7.cell? ⟨w6.heap.size, 0, none⟩ = some (.int .i64 n) := hnb.cell 0
     have nn1 : W7.cell? ⟨w6.heap.size, 1, none⟩ = some (.slice A1 m1 d1) := hnb.cell 1
     have nn2 : W7.cell? ⟨w6.heap.size, 2, none⟩ = some (.slice B1 1 k1) := hnb.cell 2
     obtain ⟨o0, o1, o2, o3⟩ := cl4 (w := W7) (g := w.heap.size) hy6; have ol := (hy6).lt
     have HW := hid (wrap_any ({ data := #[104, 105, 115, 116, 111, 114, 121] } : ByteArray) ({ data := #[73, 115, 115, 117, 101] } : ByteArray) o.at_ n hc1 hc13 A1 m1 d1 B1 k1 _ W7 hr1 hr2 hm1)
     repeat' (first | (go_at_call 59; go_must ((with_reducible refine Calls.mono HW.out ?_); rintro _ w8 ⟨v, rfl, hE, hb8⟩; obtain ⟨hc2, A2, m2, d2, B2, k2, rfl, hs1, hs2⟩ := hE; have hz := hr6.step hb8; have hq := hn6.step hb8; obtain ⟨zl, z0, z1, z2, z3, z4, z5, z6, z7, z8, z9, z10, z11, z12, f0, f1, f2, f3, f4, f5, f6, f7, f8, f9, f10, f11, f12⟩ := bl13 hz; obtain ⟨ql, q0, q1, q2, r0, r1, r2⟩ := bl3 hq; dsimp only)) | go_step)
     have hz4 := (hz.sets (act13 noActn)).keep (S := fun b => b ≠ w.heap.size + 1 + 1) (by show w.heap.size + 1 ≠ w.heap.size + 1 + 1; omega) (Same.sets (b := w.heap.size + 1 + 1) (no3 (.int .i64 n) (.slice A2 m2 d2) (.slice B2 1 k2)) fun hh => hh rfl)
     have hq3 := (hq.keep (S := fun b => b ≠ w.heap.size + 1) (by show w.heap.size + 1 + 1 ≠ w.heap.size + 1; omega) (Same.sets (b := w.heap.size + 1) (act13 noActn) fun hh => hh rfl)).sets (no3 (.int .i64 n) (.slice A2 m2 d2) (.slice B2 1 k2))
     have v0 := hz4.cell 0
     have v1 := hz4.cell 1
     have v2 := hz4.cell 2
     have v3 := hz4.cell 3
     have v4 := hz4.cell 4
     have v5 := hz4.cell 5
     have v6 := hz4.cell 6
     have v7 := hz4.cell 7
     have v8 := hz4.cell 8
     have v9 := hz4.cell 9
     have v10 := hz4.cell 10
     have v11 := hz4.cell 11
     have v12 := hz4.cell 12
     have n0 := hq3.cell 0
     have n1 := hq3.cell 1
     have n2 := hq3.cell 2
     simp [act13, no3, noActn, noOpn, Clk.zero] at v0 v1 v2 v3 v4 v5 v6 v7 v8 v9 v10 v11 v12 n0 n1 n2
     refine bodyPost_ret (w := setsAt (w.heap.size + 1 + 1) (no3 (.int .i64 n) (.slice A2 m2 d2) (.slice B2 1 k2)) (setsAt (w.heap.size + 1) (act13 noActn) w8)) (v := .tuple #[.agg #[.int .i64 0, .int .i64 0, .int .i32 0, .int .i64 0, .int .i64 0, .int .i64 0, .int .i64 0, .int .i64 0, .int .i64 0, .int .i64 0, .int .i64 0, .int .i64 0, .int .i64 0], .agg #[(.int .i64 n), (.slice A2 m2 d2), (.slice B2 1 k2)]]) (by simp [act13, no3, noActn, noOpn, Clk.zero, results, Tryz.results75, go_sem, v0, v1, v2, v3, v4, v5, v6, v7, v8, v9, v10, v11, v12, n0, n1, n2]) rfl ?_
     refine ⟨_, by rw [HP.out, if_neg hn0]; rfl, .inr ?_, ?_, ((hO.step8 hb8).sets _ (by omega)).sets _ (by omega)⟩
     · refine no_at (w1 := Z) hX2l (by omega) hwZ (IsNo.moreS (S := Fr W7 fun b => Z.heap.size ≤ b) ⟨hc2, A2, m2, d2, B2, k2, rfl, hs1, hs2⟩ fun b hb => by
        rcases hb with hb | hb
        · exact hb
        · have hb' : W7.heap.size ≤ b := hb
          show Z.heap.size ≤ b
          omega)
     · exact rlog_box (hL7.step hb8) hX2l (by omega) (by omega) (by omega)
 · rw [hr] at HR
   obtain ⟨k, hk, hk8⟩ := rightOp_rep8 hr
   have hk' : (k : Int) < 8 := by omega
   obtain ⟨N, hN⟩ : ∃ N, N = s.clk.get k + 1 := ⟨_, rfl⟩
   have hyv : y = ⟨o, N, s.clk⟩ := by rw [Hy.out]; unfold Lg.actOf; rw [hr, hN, hk]; rfl
   clear Hy
   subst hyv
   dsimp only at HD
   have hox := HX.out.step eA
   have hc1 := Hck.out k hk8
   have hc2 := (Hclk.out k hk8).1
   have HN := hid hN
   obtain ⟨o0, o1, o2, o3⟩ := cl4 (w := Y) (g := w.heap.size) hox; have ol := (hox).lt
   clear hN
   have Hk := hid hk
   rw [hk] at HR o3
   clear hk
   repeat' (first | (go_at_call 108; go_must ((with_reducible refine Calls.mono (HR.out _) ?_); rintro _ Z0 ⟨rfl, hbR⟩; dsimp only)) | (with_reducible refine stop_region 3 ?_) | go_step)
   refine Stop.go ?_
   clear o0 o1 o2 o3 ol
   have hb0 := bvia eA hbR
   have D0 := (bvia hb0 (drew_below Z0))
   have hgk := (HG.out.step D0).g
   have g5k : Z0.drew.cell? ⟨rb, 4 + k, none⟩ = some (.int .i64 (s.clk.get k)) := (hgk.cell (4 + k)).trans (rgVals_clk _ _ _ _ _ _ _ _ _ _ _ _ _ _ hk8)
   have gl := hgk.lt
   have hox0 := HX.out.step D0
   have o3 : Z0.drew.cell? ⟨w.heap.size, 3, none⟩ = some (.int .i64 (k : Nat)) := by rw [← Hk.out]; exact hox0.cell 3
   have ol := hox0.lt
   have hab0 := (hab.step hbR).step (drew_below Z0)
   have a4 : Z0.drew.cell? ⟨X.heap.size, 4, none⟩ = some (.int .i64 0) := hab0.cell 4
   have af := hab0.frozen 4
   have al := hab0.lt
   have hN1 : s.clk.get k + 1 ≤ 9223372036854775807 := by omega
   have hN2 : -9223372036854775808 ≤ s.clk.get k + 1 := by omega
   repeat' (first | ((with_reducible refine region_at 3 ?_); refine wp_region_order (rgl [0,4,8,12,16,20,24,28,32,39]) (by kernel_rfl) (by kernel_rfl) (by kernel_rfl) rfl rfl ?_) | (with_reducible refine stop_region 4 ?_) | (with_reducible refine Keep.last ?_) | ((with_reducible refine WpH.here ?_); first | (refine WpH.nil ?_; refine NoP.normal ?_) | ((first | refine WpH.load (by rfl) (by rfl) (by go_simp; rfl) ?_ | refine WpH.pure (by rfl) (fun w_ => by go_simp; (try go_bits); rfl) ?_); go_frame) | (refine WpH.wild1 (by rfl) (fun _ _ => ?_))) | go_step)
   refine Stop.go ?_
   have hbZ0 : Below X.heap.size X (Z0.setCell ⟨X.heap.size, 4, none⟩ (.int .i64 (s.clk.get k + 1))).drew := (Below.setCell hb0 (Nat.le_refl _) _).drew
   have hab1 : Blk (Z0.setCell ⟨X.heap.size, 4, none⟩ (.int .i64 (s.clk.get k + 1))).drew X.heap.size 46 #[.int .i64 o.kind, .int .i64 o.at_, .int .i32 o.char, .int .i64 o.rep, .int .i64 N, .int .i64 s.clk.c0, .int .i64 s.clk.c1, .int .i64 s.clk.c2, .int .i64 s.clk.c3, .int .i64 s.clk.c4, .int .i64 s.clk.c5, .int .i64 s.clk.c6, .int .i64 s.clk.c7] := by
    rw [HN.out]
    exact ((hab.step hbR).set_ 4 (.int .i64 (s.clk.get k + 1))).drew
   clear a4 af al o3 ol gl g5k hab0 hox0 hgk hb0 D0 hbR hab hox eA
   generalize (Z0.setCell ⟨X.heap.size, 4, none⟩ (.int .i64 (s.clk.get k + 1))).drew = Z at *
   have hbZ := hbZ0
   have hab := hab1
   clear hbZ0 hab1
   clear hN1 hN2 hc1 hc2 hk' hk8 HN
   have hox := HX.out.step hbZ
   obtain ⟨o0, o1, o2, o3⟩ := cl4 (w := Z) (g := w.heap.size) hox; have ol := (hox).lt
   obtain ⟨a0, a1, a2, a3, a4, a5, a6, a7, a8, a9, a10, a11, a12⟩ := cl13 (w := Z) (g := X.heap.size) hab; have al := (hab).lt
   have hwZ := (bvia e0 hbZ).size
   have hrZ := HB.out.step hbZ
   have hnZ := HN.out.step hbZ
   repeat' (first | (go_at_call 105; go_must ((with_reducible refine Calls.mono (HD.out _ hbZ) ?_); rintro _ w6 ⟨v, rfl, hE, hL6, hO6⟩; (rcases hE with ⟨hc, hv⟩ | ⟨hc1, A1, m1, d1, B1, k1, rfl, hr1, hr2⟩ <;> try (have hv' : v = .agg #[.int .i64 0, .slice none 0 0, .slice none 0 0] := hv; clear hv; subst hv')); all_goals dsimp only)) | (with_reducible refine stop_region 5 ?_) | go_step)
   all_goals refine Stop.go ?_
   · subst hc
     clear o0 o1 o2 o3 ol
     clear a0 a1 a2 a3 a4 a5 a6 a7 a8 a9 a10 a11 a12 al
     have eN : Below w6.heap.size w6 (w6.alloc (.cells #[.int .i64 0, .slice none 0 0, .slice none 0 0] 62)) := balloc (Below.refl _ _)
     have hnb := Blk.new w6 62 #[.int .i64 0, .slice none 0 0, .slice none 0 0]
     have hab6 := (hO6.blk hab (by rintro ⟨-, h⟩; omega)).step eN
     have hr6 := (hO6.blk hrZ (by rintro ⟨-, h⟩; omega)).step eN
     have hn6 := (hO6.blk hnZ (by rintro ⟨-, h⟩; omega)).step eN
     have hO : Out S w (w6.alloc (.cells #[.int .i64 0, .slice none 0 0, .slice none 0 0] 62)) := ((Out.of_below (S := S) (bvia e0 hbZ)).trans hO6 fun _ _ h => h.1).step8 eN
     have hw6 := hO6.size
     have hX2l := hnZ.lt
     have hL7 := hL6.step eN
     have hns := eN.size
     generalize w6.alloc (.cells #[.int .i64 0, .slice none 0 0, .slice none 0 0] 62) = W7 at *
     have hnl := hnb.lt
     have nn0 : W7.cell? ⟨w6.heap.size, 0, none⟩ = some (.int .i64 0) := hnb.cell 0
     obtain ⟨a0, a1, a2, a3, a4, a5, a6, a7, a8, a9, a10, a11, a12⟩ := cl13 (w := W7) (g := X.heap.size) hab6; have al := (hab6).lt
     have hz := hr6; have hq := hn6; obtain ⟨zl, z0, z1, z2, z3, z4, z5, z6, z7, z8, z9, z10, z11, z12, f0, f1, f2, f3, f4, f5, f6, f7, f8, f9, f10, f11, f12⟩ := bl13 hz; obtain ⟨ql, q0, q1, q2, r0, r1, r2⟩ := bl3 hq
     repeat' (first | go_step)
     have hz4 := (hz.sets (act13 ⟨o, N, s.clk⟩)).keep (S := fun b => b ≠ w.heap.size + 1 + 1) (by show w.heap.size + 1 ≠ w.heap.size + 1 + 1; omega) (Same.sets (b := w.heap.size + 1 + 1) (no3 (.int .i64 0) (.slice none 0 0) (.slice none 0 0)) fun hh => hh rfl)
     have hq3 := (hq.keep (S := fun b => b ≠ w.heap.size + 1) (by show w.heap.size + 1 + 1 ≠ w.heap.size + 1; omega) (Same.sets (b := w.heap.size + 1) (act13 ⟨o, N, s.clk⟩) fun hh => hh rfl)).sets (no3 (.int .i64 0) (.slice none 0 0) (.slice none 0 0))
     have v0 := hz4.cell 0
     have v1 := hz4.cell 1
     have v2 := hz4.cell 2
     have v3 := hz4.cell 3
     have v4 := hz4.cell 4
     have v5 := hz4.cell 5
     have v6 := hz4.cell 6
     have v7 := hz4.cell 7
     have v8 := hz4.cell 8
     have v9 := hz4.cell 9
     have v10 := hz4.cell 10
     have v11 := hz4.cell 11
     have v12 := hz4.cell 12
     have n0 := hq3.cell 0
     have n1 := hq3.cell 1
     have n2 := hq3.cell 2
     simp [act13, no3, noActn, noOpn, Clk.zero] at v0 v1 v2 v3 v4 v5 v6 v7 v8 v9 v10 v11 v12 n0 n1 n2
     refine bodyPost_ret (w := setsAt (w.heap.size + 1 + 1) (no3 (.int .i64 0) (.slice none 0 0) (.slice none 0 0)) (setsAt (w.heap.size + 1) (act13 ⟨o, N, s.clk⟩) W7)) (v := .tuple #[.agg #[.int .i64 o.kind, .int .i64 o.at_, .int .i32 o.char, .int .i64 o.rep, .int .i64 N, .int .i64 s.clk.c0, .int .i64 s.clk.c1, .int .i64 s.clk.c2, .int .i64 s.clk.c3, .int .i64 s.clk.c4, .int .i64 s.clk.c5, .int .i64 s.clk.c6, .int .i64 s.clk.c7], .agg #[(.int .i64 0), (.slice none 0 0), (.slice none 0 0)]]) (by simp [act13, no3, noActn, noOpn, Clk.zero, results, Tryz.results75, go_sem, v0, v1, v2, v3, v4, v5, v6, v7, v8, v9, v10, v11, v12, n0, n1, n2]) rfl ?_
     refine ⟨noNone, by rw [HP.out, if_pos rfl]; rfl, .inl ⟨rfl, rfl⟩, ?_, (hO.sets _ (by omega)).sets _ (by omega)⟩
     exact rlog_box hL7 hX2l (by omega) (by omega) (by omega)
   · have hn0 : n ≠ 0 := by omega
     have hz0 : ((n : Int) != 0) = true := by simp; omega
     clear o0 o1 o2 o3 ol
     clear a0 a1 a2 a3 a4 a5 a6 a7 a8 a9 a10 a11 a12 al
     have eN : Below w6.heap.size w6 (w6.alloc (.cells #[.int .i64 n, .slice A1 m1 d1, .slice B1 1 k1] 62)) := balloc (Below.refl _ _)
     have hnb := Blk.new w6 62 #[.int .i64 n, .slice A1 m1 d1, .slice B1 1 k1]
     have hy6 := (hO6.blk hox (by rintro ⟨-, h⟩; omega)).step eN
     have hr6 := (hO6.blk hrZ (by rintro ⟨-, h⟩; omega)).step eN
     have hn6 := (hO6.blk hnZ (by rintro ⟨-, h⟩; omega)).step eN
     have hO : Out S w (w6.alloc (.cells #[.int .i64 n, .slice A1 m1 d1, .slice B1 1 k1] 62)) := ((Out.of_below (S := S) (bvia e0 hbZ)).trans hO6 fun _ _ h => h.1).step8 eN
     have hw6 := hO6.size
     have hX2l := hnZ.lt
     have hL7 := hL6.step eN
     have hr1 := hr1.step eN
     have hr2 := hr2.step eN
     have hm1 : m1 ≤ 1073741824 := by rw [← hr1.1]; exact hcl
     have hns := eN.size
     clear eN
     generalize w6.alloc (.cells #[.int .i64 n, .slice A1 m1 d1, .slice B1 1 k1] 62) = W7 at *
     have hnl := hnb.lt
     have nn0 : W7.cell? ⟨w6.heap.size, 0, none⟩ = some (.int .i64 n) := hnb.cell 0
     have nn1 : W7.cell? ⟨w6.heap.size, 1, none⟩ = some (.slice A1 m1 d1) := hnb.cell 1
     have nn2 : W7.cell? ⟨w6.heap.size, 2, none⟩ = some (.slice B1 1 k1) := hnb.cell 2
     obtain ⟨o0, o1, o2, o3⟩ := cl4 (w := W7) (g := w.heap.size) hy6; have ol := (hy6).lt
     have HW := hid (wrap_any ({ data := #[104, 105, 115, 116, 111, 114, 121] } : ByteArray) ({ data := #[73, 115, 115, 117, 101] } : ByteArray) o.at_ n hc1 hc13 A1 m1 d1 B1 k1 _ W7 hr1 hr2 hm1)
     repeat' (first | (go_at_call 59; go_must ((with_reducible refine Calls.mono HW.out ?_); rintro _ w8 ⟨v, rfl, hE, hb8⟩; obtain ⟨hc2, A2, m2, d2, B2, k2, rfl, hs1, hs2⟩ := hE; have hz := hr6.step hb8; have hq := hn6.step hb8; obtain ⟨zl, z0, z1, z2, z3, z4, z5, z6, z7, z8, z9, z10, z11, z12, f0, f1, f2, f3, f4, f5, f6, f7, f8, f9, f10, f11, f12⟩ := bl13 hz; obtain ⟨ql, q0, q1, q2, r0, r1, r2⟩ := bl3 hq; dsimp only)) | go_step)
     have hz4 := (hz.sets (act13 noActn)).keep (S := fun b => b ≠ w.heap.size + 1 + 1) (by show w.heap.size + 1 ≠ w.heap.size + 1 + 1; omega) (Same.sets (b := w.heap.size + 1 + 1) (no3 (.int .i64 n) (.slice A2 m2 d2) (.slice B2 1 k2)) fun hh => hh rfl)
     have hq3 := (hq.keep (S := fun b => b ≠ w.heap.size + 1) (by show w.heap.size + 1 + 1 ≠ w.heap.size + 1; omega) (Same.sets (b := w.heap.size + 1) (act13 noActn) fun hh => hh rfl)).sets (no3 (.int .i64 n) (.slice A2 m2 d2) (.slice B2 1 k2))
     have v0 := hz4.cell 0
     have v1 := hz4.cell 1
     have v2 := hz4.cell 2
     have v3 := hz4.cell 3
     have v4 := hz4.cell 4
     have v5 := hz4.cell 5
     have v6 := hz4.cell 6
     have v7 := hz4.cell 7
     have v8 := hz4.cell 8
     have v9 := hz4.cell 9
     have v10 := hz4.cell 10
     have v11 := hz4.cell 11
     have v12 := hz4.cell 12
     have n0 := hq3.cell 0
     have n1 := hq3.cell 1
     have n2 := hq3.cell 2
     simp [act13, no3, noActn, noOpn, Clk.zero] at v0 v1 v2 v3 v4 v5 v6 v7 v8 v9 v10 v11 v12 n0 n1 n2
     refine bodyPost_ret (w := setsAt (w.heap.size + 1 + 1) (no3 (.int .i64 n) (.slice A2 m2 d2) (.slice B2 1 k2)) (setsAt (w.heap.size + 1) (act13 noActn) w8)) (v := .tuple #[.agg #[.int .i64 0, .int .i64 0, .int .i32 0, .int .i64 0, .int .i64 0, .int .i64 0, .int .i64 0, .int .i64 0, .int .i64 0, .int .i64 0, .int .i64 0, .int .i64 0, .int .i64 0], .agg #[(.int .i64 n), (.slice A2 m2 d2), (.slice B2 1 k2)]]) (by simp [act13, no3, noActn, noOpn, Clk.zero, results, Tryz.results75, go_sem, v0, v1, v2, v3, v4, v5, v6, v7, v8, v9, v10, v11, v12, n0, n1, n2]) rfl ?_
     refine ⟨_, by rw [HP.out, if_neg hn0]; rfl, .inr ?_, ?_, ((hO.step8 hb8).sets _ (by omega)).sets _ (by omega)⟩
     · refine no_at (w1 := Z) hX2l (by omega) hwZ (IsNo.moreS (S := Fr W7 fun b => Z.heap.size ≤ b) ⟨hc2, A2, m2, d2, B2, k2, rfl, hs1, hs2⟩ fun b hb => by
        rcases hb with hb | hb
        · exact hb
        · have hb' : W7.heap.size ≤ b := hb
          show Z.heap.size ≤ b
          omega)
     · exact rlog_box (hL7.step hb8) hX2l (by omega) (by omega) (by omega)
end Go.Proofs.YteggpddlkkjmjaaGreatDoor
