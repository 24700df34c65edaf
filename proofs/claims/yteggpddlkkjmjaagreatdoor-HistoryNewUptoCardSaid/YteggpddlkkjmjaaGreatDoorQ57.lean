/- Part of a proof: what functions of the program compute. Conditions: as each theorem says. -/
import Derived.Maps.RangeWalk
import Derived.Test.YteggpddlkkjmjaaGreatDoorQ51
import Derived.Test.YteggpddlkkjmjaaGreatDoorQ54
import Derived.Test.YteggpddlkkjmjaaGreatDoorQ56
set_option linter.unusedSimpArgs false
set_option linter.unusedVariables false
set_option maxHeartbeats 8000000
set_option maxRecDepth 200000
namespace Go.Proofs.YteggpddlkkjmjaaGreatDoor
open Go Go.RowKit
variable {a : Nat → Addr}
theorem cw1 (W : World) (o : Obj) : Below W.heap.size W (W.alloc o) := balloc (Below.refl _ _)
theorem cw2 (W : World) (o o' : Obj) : Below W.heap.size W ((W.alloc o).alloc o') := balloc (balloc (Below.refl _ _))
theorem nk8 (W V : World) (t : TypeId) (z : Array Value) (hV : W.heap.size ≤ V.heap.size) : Blk (V.alloc (.cells z t)) V.heap.size t z ∧ W.heap.size ≤ V.heap.size := ⟨Blk.new V t z, hV⟩
theorem bviaV {W V w1 : World} (h : Below W.heap.size W V) (k : Below V.heap.size V w1) : Below W.heap.size W w1 := bvia h k
theorem op4_cells (cs : Array Value) (P : Opn) (h : cs.size = 4) : (op4 P).foldl (fun c p => c.setIfInBounds p.1 p.2) cs = #[.int .i64 P.kind, .int .i64 P.at_, .int .i32 P.char, .int .i64 P.rep] := by
 obtain ⟨l⟩ := cs
 have h : l.length = 4 := h
 match l, h with
 | [x0, x1, x2, x3], _ =>
  unfold op4
  simp only [List.foldl_cons, List.foldl_nil, List.setIfInBounds_toArray, List.set_cons_zero, List.set_cons_succ]
theorem sets4 (b : Nat) (P : Opn) (W : World) : (((W.setCell ⟨b, 0, none⟩ (.int .i64 P.kind)).setCell ⟨b, 1, none⟩ (.int .i64 P.at_)).setCell ⟨b, 2, none⟩ (.int .i32 P.char)).setCell ⟨b, 3, none⟩ (.int .i64 P.rep) = setsAt b (op4 P) W := rfl
structure Box6 (W V w1 Z : World) (i : Nat) (t : TypeId) (cs : Array Value) (c : Nat) (u : TypeId) (ds : Array Value) : Prop where
 b : Blk Z i t cs
 d : Blk Z c u ds
 g : W.heap.size ≤ i
 os : Z.os = w1.os
 tape : Z.tape = w1.tape
 output : Z.output = w1.output
 size : w1.heap.size ≤ Z.heap.size
 block : ∀ b, b < w1.heap.size → ¬ (W.heap.size ≤ b ∧ b < V.heap.size) → b ≠ c → Z.heap[b]? = w1.heap[b]?
 v : Below W.heap.size W V
section
variable {W w1 : World} {S : Nat → Prop} {t u : TypeId} {cs z : Array Value} {u0 u1 u2 x y v : Value} {l : List (Nat × Value)} {c : Nat}
theorem box6_c (hO : Out S W.drew w1) (h8 : Blk w1 c u #[u0, u1, u2]) : Box6 W W.drew w1 ((setsAt c (no3 x y v) w1).alloc (.cells cs t)) w1.heap.size t cs c u #[x, y, v] := by
 obtain ⟨e1, e2, e3⟩ := setsAt_os (b := c) (no3 x y v) w1
 have hd : Blk (setsAt c (no3 x y v) w1) c u #[x, y, v] := no3_cells u0 u1 u2 x y v ▸ h8.sets (no3 x y v)
 have hs := setsAt_size (b := c) (no3 x y v) w1
 exact ⟨newS8 _ _ _ _ _, hd.alloc _, hO.size, e1, e2, e3, by rw [show ((setsAt c (no3 x y v) w1).alloc (.cells cs t)).heap.size = (setsAt c (no3 x y v) w1).heap.size + 1 from Array.size_push _, hs]; exact Nat.le_succ _, fun b hb _ hn => (Below.heap_alloc _ _ _ (by rw [hs]; exact hb)).trans (setsAt_heap _ _ hn), bw0 W⟩
theorem box6_a (hO : Out S (W.alloc (.cells z t)).drew w1) (hn : ¬ S W.heap.size) (hl : l.foldl (fun c p => c.setIfInBounds p.1 p.2) z = cs) (h8 : Blk w1 c u #[u0, u1, u2]) (hc : c ≠ W.heap.size) : Box6 W (W.alloc (.cells z t)).drew w1 (setsAt c (no3 x y v) (setsAt W.heap.size l w1)) W.heap.size t cs c u #[x, y, v] := by
 obtain ⟨e1, e2, e3⟩ := setsAt_os (b := c) (no3 x y v) (setsAt W.heap.size l w1)
 obtain ⟨f1, f2, f3⟩ := setsAt_os (b := W.heap.size) l w1
 have hd : Blk (setsAt c (no3 x y v) (setsAt W.heap.size l w1)) c u #[x, y, v] := no3_cells u0 u1 u2 x y v ▸ (h8.setsO hc l).sets (no3 x y v)
 have hb : Blk (setsAt W.heap.size l w1) W.heap.size t cs := hl ▸ (hO.blk (Blk.new W t z).drew hn).sets l
 refine ⟨hb.setsO hc.symm _, hd, Nat.le_refl _, e1.trans f1, e2.trans f2, e3.trans f3, by rw [setsAt_size, setsAt_size]; exact Nat.le_refl _, fun b hb' hn' hbc => (setsAt_heap _ _ hbc).trans (setsAt_heap _ _ fun e => hn' ⟨Nat.le_of_eq e.symm, ?_⟩), bw1 W _⟩
 rw [sz1, e]
 exact Nat.lt_succ_self _
end
theorem take_end {w X W W7 E : World} {base sb gb rb K c : Nat} {S S1 S2 : Nat → Prop} {s2 : Lg} (he : Below w.heap.size w X) (hO1 : Out S1 X W) (hO2 : Out (fun b => S2 b ∨ b = c) W W7) (hb : Below W7.heap.size W7 E) (hcl : w.heap.size ≤ c ∧ c < X.heap.size)
 (h4 : ∀ b, S1 b → S b ∧ ¬ S2 b ∧ b ≠ sb) (h5 : ∀ b, S2 b → S b ∧ b ≠ sb) (h6 : S sb) (h7 : ∀ b, S b → base ≤ b ∧ b < w.heap.size) (hsb : Blk X sb 33 #[.pointer (some ⟨gb, 0, none⟩), .pointer (some ⟨rb, 0, none⟩)])
 (hL : LogAt W (fun b => Fr X S1 b ∧ b < W.heap.size) gb s2 K) (hR : RLogAt W7 (fun b => Fr W S2 b ∧ b < W7.heap.size) rb s2) :
 SiteAt E base (fun b => Fr w S b ∧ b < E.heap.size) sb s2 K ∧ Out S w E := by
 have z1 := he.size
 have z2 := hO1.size
 have z3 := hO2.size
 have z4 := hb.size
 have s1 : ∀ b, S1 b → b < w.heap.size := fun b h => (h7 b (h4 b h).1).2
 have s2' : ∀ b, S2 b → b < w.heap.size := fun b h => (h7 b (h5 b h).1).2
 have hsl := (h7 sb h6).2
 have n1 : ¬ S1 sb := fun h => (h4 sb h).2.2 rfl
 have n2 : ¬ S2 sb := fun h => (h5 sb h).2 rfl
 refine ⟨⟨gb, rb, fun b => Fr X S1 b ∧ b < W.heap.size, fun b => Fr W S2 b ∧ b < W7.heap.size, ?_, ?_, ?_, ?_, ?_, ?_, ?_⟩, ?_⟩
 · exact (hb.block sb (by omega)).trans ((hO2.block sb (by omega) (by rintro (h | h); exact n2 h; omega)).trans ((hO1.block sb (by omega) n1).trans hsb))
 · refine hL.keep (by omega) fun b hl hs => (hb.block b (by omega)).trans (hO2.block b hl ?_)
   rintro (h | rfl)
   · rcases hs.1 with h' | h'
     · exact (h4 b h').2.1 h
     · have := s2' b h
       have h2 : X.heap.size ≤ b := h'
       omega
   · rcases hs.1 with h' | h'
     · have := s1 b h'; omega
     · have h2 : X.heap.size ≤ b := h'; omega
 · exact hR.step hb
 · rintro b ⟨h, hl⟩
   rcases h with h | h
   · have := s1 b h
     refine ⟨⟨.inl (h4 b h).1, by omega⟩, ?_, (h4 b h).2.2⟩
     rintro ⟨h' | h', -⟩
     · exact (h4 b h).2.1 h'
     · have h2 : W.heap.size ≤ b := h'; omega
   · have h2 : X.heap.size ≤ b := h
     refine ⟨⟨.inr (by show w.heap.size ≤ b; omega), by omega⟩, ?_, by omega⟩
     rintro ⟨h' | h', -⟩
     · have := s2' b h'; omega
     · have h3 : W.heap.size ≤ b := h'; omega
 · rintro b ⟨h, hl⟩
   rcases h with h | h
   · have := s2' b h
     exact ⟨⟨.inl (h5 b h).1, by omega⟩, (h5 b h).2⟩
   · have h2 : W.heap.size ≤ b := h
     exact ⟨⟨.inr (by show w.heap.size ≤ b; omega), by omega⟩, by omega⟩
 · exact ⟨.inl h6, by omega⟩
 · rintro b ⟨h, hl⟩
   refine ⟨?_, hl⟩
   rcases h with h | h
   · exact (h7 b h).1
   · have h2 : w.heap.size ≤ b := h
     have := (h7 sb h6).1
     omega
 · refine ⟨?_, ?_, ?_, by omega, fun k hk' hn => ?_⟩
   · exact hb.os.trans (hO2.os.trans (hO1.os.trans he.os))
   · exact hb.tape.trans (hO2.tape.trans (hO1.tape.trans he.tape))
   · exact hb.output.trans (hO2.output.trans (hO1.output.trans he.output))
   · exact (hb.block k (by omega)).trans ((hO2.block k (by omega) (by rintro (h | h); exact hn (h5 k h).1; omega)).trans ((hO1.block k (by omega) fun h => hn (h4 k h).1).trans (he.block k hk')))
theorem takeCh_len (s : Lg) (x : Actn) : (s.takeCh x).length ≤ 1073741824 := by
 unfold Lg.takeCh
 rw [List.length_cons]
 split
 · have h : (chOf (s.form x) (whyOf s.l (s.form x) (s.name x))).length ≤ 2 := by unfold chOf; split <;> simp
   omega
 · simp
theorem place_from (w : World) (gb K : Nat) (S S' : Nat → Prop) (s : Lg) (x : Actn) (h : LogAt w S gb s K) (hf : s.Fine K) (hx : x.In) (hs : Sents w S' a) (hlow : ∀ b, S' b → b < w.heap.size) :
 ∀ W, Below w.heap.size w W → Calls Tryz.prog 66 #[.pointer (some ⟨gb, 0, none⟩), x.agg] W fun e w' => ∃ v, e = .returned (.tuple #[(if s.why x = 0 then s.form x else noOpn).agg, v]) ∧ ErrAns w' (Fr W S') a [⟨({ data := #[104, 105, 115, 116, 111, 114, 121] } : ByteArray), ({ data := #[80, 108, 97, 99, 101] } : ByteArray), atOf x.num⟩] (s.why x) v ∧ Below W.heap.size W w' :=
 fun W hb => place_step (a := a) W gb K S S' s x (h.step hb) hf hx (hs.step hb) fun b hb' => Nat.lt_of_lt_of_le (hlow b hb') hb.size
theorem site_take (w : World) (base sb K : Nat) (S S' : Nat → Prop) (s : Lg) (x : Actn) (h : SiteAt w base S sb s K) (hf : s.Fine K) (hx : x.In) (hs : Sents w S' a) (hlow : ∀ b, S' b → b < base) :
 Calls Tryz.prog 32 #[.pointer (some ⟨sb, 0, none⟩), x.agg] w fun e w' => e = .returned (.bool true) ∧ SiteAt w' base (fun b => Fr w S b ∧ b < w'.heap.size) sb (s.takeOf x) (K + 1) ∧ Out S w w' := by
 obtain ⟨gb, rb, S1, S2, hsb, hg, hr, h4, h5, h6, h7⟩ := h
 have e0 : Below w.heap.size w (w.alloc (.cells x.vals 46)) := balloc (Below.refl _ _)
 have hX := Blk.new w 46 x.vals
 have HXs := hid (show (w.alloc (.cells x.vals 46)).heap.size = w.heap.size + 1 from Array.size_push _)
 have hsl := (h7 _ h6).2
 have hbl := (h7 _ h6).1
 obtain ⟨P2, hP2⟩ : ∃ P2, P2 = s.formOf x := ⟨_, rfl⟩
 obtain ⟨s2, hs2⟩ : ∃ s2, s2 = s.takeOf x := ⟨_, rfl⟩
 rw [← hs2]
 have HP2 := hid hP2
 have Hs2 := hid hs2
 obtain ⟨F, hF⟩ : ∃ F, F = (if s.why x = 0 then s.form x else noOpn) := ⟨_, rfl⟩
 have HP := place_from (a := a) w gb K S1 S' s x hg hf hx hs fun b hb' => by have := hlow b hb'; omega
 rw [← hF] at HP
 have HFq := hid hF
 have HP := hid HP
 have HX := hid hX
 have He := hid e0
 have Hsb := hid (hsb.step e0)
 have H4 := hid h4
 have H5 := hid h5
 have H6 := hid h6
 have H7 := hid h7
 have Hg := hid hg
 have Hr := hid hr
 have HlowS := hid hlow
 have HS := hid hs
 have Hf := hid hf
 have Hx := hid hx
 clear hg hr h4 h5 h6 h7 hsb hlow hs hX hf hx e0 hF hP2 hs2
 simp only [Actn.agg, Opn.agg] at *
 unfold Actn.vals at *
 go_enter Tryz.func32, Tryz.ntmps32
 repeat' (first | (with_reducible refine stop_region 1 ?_) | go_step)
 refine Stop.go ?_
 generalize w.alloc (.cells #[.int .i64 x.op.kind, .int .i64 x.op.at_, .int .i32 x.op.char, .int .i64 x.op.rep, .int .i64 x.num, .int .i64 x.clk.c0, .int .i64 x.clk.c1, .int .i64 x.clk.c2, .int .i64 x.clk.c3, .int .i64 x.clk.c4, .int .i64 x.clk.c5, .int .i64 x.clk.c6, .int .i64 x.clk.c7] 46) = X at *
 rename_i K1 hK1
 have HK1 := hid hK1
 clear hK1
 have L1 := hid (show ∀ b, S1 b → b < w.heap.size from fun b hb => (H7.out _ (H4.out _ hb).1).2)
 have L2 := hid (show ∀ b, S2 b → b < w.heap.size from fun b hb => (H7.out _ (H5.out _ hb).1).2)
 have LS := hid (show ∀ b, S' b → b < w.heap.size from fun b hb => by have := HlowS.out b hb; omega)
 have key1 : ∀ {v1_ v2_ v7_ v8_ v9_ v10_ v11_ v12_ v13_ v14_ v15_ v16_ v17_ v18_ v19_ v20_ v21_ v22_ v23_ v24_ v25_ v26_ v27_ v28_ v29_ v30_ v31_ v32_ v33_ v34_ v35_ v36_ v37_ v38_ v39_ v40_ v41_ v42_ v43_ v44_ v45_ v46_ v47_ v48_ v49_ v50_ v51_ v52_ v53_ v54_ v55_ v56_ v57_ v58_ v59_ v60_ v61_ v62_ v63_ v64_ : Value} {g5 : Nat} {v : Value} {V w1 W : World}, Box1 X V w1 W g5 37 #[.int .i64 F.kind, .int .i64 F.at_, .int .i32 F.char, .int .i64 F.rep] → ErrAns w1 (Fr V S') a [⟨({ data := #[104, 105, 115, 116, 111, 114, 121] } : ByteArray), ({ data := #[80, 108, 97, 99, 101] } : ByteArray), atOf x.num⟩] (s.why x) v → Below V.heap.size V w1 → K1 { tmps := #[.pointer (some ⟨sb, 0, none⟩), v1_, v2_, .pointer (some ⟨w.heap.size, 0, none⟩), .bool false, .pointer (some ⟨g5, 0, none⟩), v, v7_, v8_, v9_, v10_, v11_, v12_, v13_, v14_, v15_, v16_, v17_, v18_, v19_, v20_, v21_, v22_, v23_, v24_, v25_, v26_, v27_, v28_, v29_, v30_, v31_, v32_, v33_, v34_, v35_, v36_, v37_, v38_, v39_, v40_, v41_, v42_, v43_, v44_, v45_, v46_, v47_, v48_, v49_, v50_, v51_, v52_, v53_, v54_, v55_, v56_, v57_, v58_, v59_, v60_, v61_, v62_, v63_, v64_], defers := [] } W := by
  intros
  rename_i g5 v V w1 W hBx hE hb
  have hXs := HXs.out
  have hV := hBx.v.size
  have hbW := hBx.p.out (S := fun _ => False) (Nat.le_refl _) hBx.v (Out.of_below hb)
  have hbXW : Below X.heap.size X W := ⟨hbW.os, hbW.tape, hbW.output, hbW.size, fun k hk => hbW.block k hk (fun h => h)⟩
  have hbw := hid (bvia He.out hbXW)
  have hE := hid (hBx.p.errAns (a := a) (Z := X) rfl (Nat.le_refl _) hV (fun b hb => by have := LS.out b hb; omega) hE)
  have hB5 := hid hBx.b
  have hg5 := hBx.g
  have HBX := hid hbXW
  clear hBx hV hXs hb hbW hbXW
  refine HK1.out _ _ ?_
  clear HK1
  dsimp only
  repeat' (first | (with_reducible refine stop_region 2 ?_) | go_step)
  refine Stop.go ?_
  rename_i K2 hK2
  have HK2 := hid hK2
  clear hK2
  have hrW := Hr.out.step hbw.out
  have HC := hid (fun V (hb : Below W.heap.size W V) => rcopy_any V rb S2 s (hrW.step hb) Hf.out.base Hf.out.acts Hf.out.forms Hf.out.l)
  have HQ := fun V cb (h : RLogAt V (fun _ => True) cb s) => rplace_step V cb K _ s x h Hf.out Hx.out
  rw [← HFq.out] at HQ
  simp only [Actn.agg, Opn.agg] at HQ
  unfold Actn.vals at HQ
  have HQ := hid HQ
  have key2 : ∀ {v1_ v2_ v9_ v10_ v11_ v12_ v13_ v14_ v15_ v16_ v17_ v18_ v19_ v20_ v21_ v22_ v23_ v24_ v25_ v26_ v27_ v28_ v29_ v30_ v31_ v32_ v33_ v34_ v35_ v36_ v37_ v38_ v39_ v40_ v41_ v42_ v43_ v44_ v45_ v46_ v47_ v48_ v49_ v50_ v51_ v52_ v53_ v54_ v55_ v56_ v57_ v58_ v59_ v60_ v61_ v62_ v63_ v64_ : Value} {g7 g8 : Nat} {B1 B2 : Option Addr} {m1 d1 q1 r1 : Nat} {V w3 W2 : World}, Box2 W V w3 W2 g7 37 #[.int .i64 F.kind, .int .i64 F.at_, .int .i32 F.char, .int .i64 F.rep] g8 62 #[.int .i64 (s.why x), .slice B1 m1 d1, .slice B2 q1 r1] → NoAns w3 (fun b => V.heap.size ≤ b) [⟨({ data := #[104, 105, 115, 116, 111, 114, 121] } : ByteArray), ({ data := #[80, 108, 97, 99, 101] } : ByteArray), atOf x.num⟩] (s.why x) (.agg #[.int .i64 (s.why x), .slice B1 m1 d1, .slice B2 q1 r1]) → Below V.heap.size V w3 → K2 { tmps := #[.pointer (some ⟨sb, 0, none⟩), v1_, v2_, .pointer (some ⟨w.heap.size, 0, none⟩), .bool false, .pointer (some ⟨g5, 0, none⟩), v, .pointer (some ⟨g7, 0, none⟩), .pointer (some ⟨g8, 0, none⟩), v9_, v10_, v11_, v12_, v13_, v14_, v15_, v16_, v17_, v18_, v19_, v20_, v21_, v22_, v23_, v24_, v25_, v26_, v27_, v28_, v29_, v30_, v31_, v32_, v33_, v34_, v35_, v36_, v37_, v38_, v39_, v40_, v41_, v42_, v43_, v44_, v45_, v46_, v47_, v48_, v49_, v50_, v51_, v52_, v53_, v54_, v55_, v56_, v57_, v58_, v59_, v60_, v61_, v62_, v63_, v64_], defers := [] } W2 := by
   intros
   rename_i g7 g8 B1 B2 m1 d1 q1 r1 V3 w3 W2 hBx hE3 hb3
   have hXs2 := HXs.out
   have hV := hBx.v.size
   have hO3 := hBx.p.out (S := fun _ => False) (Nat.le_refl _) hBx.v (Out.of_below hb3)
   have hbWW : Below W.heap.size W W2 := ⟨hO3.os, hO3.tape, hO3.output, hO3.size, fun k hk => hO3.block k hk (fun h => h)⟩
   have hE3 := hBx.p.noAns hE3 hV
   have hb2 := bvia hbw.out hbWW
   have hz2 := hbWW.size
   have hws := hbw.out.size
   have B5 := hB5.out.step hbWW
   have B7 := hBx.b
   have B8 := hBx.c
   have hEW : ErrAns W2 (Fr X S') a [⟨({ data := #[104, 105, 115, 116, 111, 114, 121] } : ByteArray), ({ data := #[80, 108, 97, 99, 101] } : ByteArray), atOf x.num⟩] (s.why x) v := hE.out.imp id fun h => IsErr.step h hbWW
   have hs2 := HS.out.step hb2
   have HRf := hid (refused_step (a := a) [⟨({ data := #[104, 105, 115, 116, 111, 114, 121] } : ByteArray), ({ data := #[80, 108, 97, 99, 101] } : ByteArray), atOf x.num⟩] (s.why x) v (.agg #[.int .i64 (s.why x), .slice B1 m1 d1, .slice B2 q1 r1]) _ _ S' W2 hEW hE3 hs2 (by show 1 ≤ 1073741824; omega))
   have HB8 := hid B8
   have HBW2 := hid (bvia HBX.out hbWW)
   have Hb2 := hid hb2
   have hg8 := hBx.k
   obtain ⟨y0, y1, y2, y3⟩ := cl4 (w := W2) (g := g5) B5; have yl := (B5).lt
   obtain ⟨z0, z1, z2, z3⟩ := cl4 (w := W2) (g := g7) B7; have zl := (B7).lt
   have n0 : W2.cell? ⟨g8, 0, none⟩ = some (.int .i64 (s.why x)) := B8.cell 0
   have n1 : W2.cell? ⟨g8, 1, none⟩ = some (.slice B1 m1 d1) := B8.cell 1
   have n2 : W2.cell? ⟨g8, 2, none⟩ = some (.slice B2 q1 r1) := B8.cell 2
   have nl := B8.lt
   clear hBx hV hO3 hbWW hE3 hb2 B5 B7 B8 hEW hs2 hb3
   refine HK2.out _ _ ?_
   clear HK2
   dsimp only
   repeat' (first | (go_at_call 27; go_must ((with_reducible refine Calls.mono HRf.out ?_); rintro _ W4 ⟨rfl, hb4⟩; dsimp only)) | (with_reducible refine stop_region 5 ?_) | go_guarded | go_step)
   refine Stop.go ?_
   rename_i K5 hK5
   have HK5 := hid hK5
   clear hK5
   clear y0 y1 y2 y3 yl z0 z1 z2 z3 zl n0 n1 n2 nl HRf
   have b4 := bvia Hb2.out hb4
   have HB4 := hid (HB8.out.step hb4)
   have hz4 := hb4.size
   have HBX4 := hid (bvia HBW2.out hb4)
   have hg4 := Hg.out.step b4
   have hr4 := Hr.out.step b4
   have hs4 := HS.out.step b4
   have HTp := fun V (hb : Below W4.heap.size W4 V) => take_step (a := a) V gb K S1 S' s x (hg4.step hb) Hf.out Hx.out (hs4.step hb) fun b hb' => by have := LS.out b hb'; have := (bvia b4 hb).size; omega
   rw [← HP2.out, ← Hs2.out] at HTp
   simp only [Actn.agg, Opn.agg] at HTp
   unfold Actn.vals at HTp
   have HTp := hid HTp
   have Hr4 := hid hr4
   have Hb4 := hid b4
   have nA := hid (show ¬ S1 W4.heap.size from fun hc => by have := L1.out _ hc; have := b4.size; omega)
   clear hg4 hr4 hs4 hb4
   have key5 : ∀ {v1_ v2_ v5_ v7_ v10_ v11_ v12_ v13_ v14_ v15_ v16_ v17_ v18_ v19_ v20_ v21_ v22_ v23_ v24_ v25_ v26_ v27_ v28_ v29_ v30_ v31_ v32_ v33_ v34_ v35_ v36_ v37_ v38_ v39_ v40_ v41_ v42_ v43_ v44_ v45_ v46_ v47_ v48_ v49_ v50_ v51_ v52_ v53_ v54_ v55_ v56_ v57_ v58_ v59_ v60_ v61_ v62_ v63_ v64_ : Value} {g9 : Nat} {v : Value} {V w1 W : World}, Box1 W4 V w1 W g9 37 #[.int .i64 P2.kind, .int .i64 P2.at_, .int .i32 P2.char, .int .i64 P2.rep] → ErrAns w1 (Fr V S') a (s.takeCh x) (s.takeCode x) v → LogAt w1 (Fr V S1) gb s2 (K + 1) → Out S1 V w1 → K5 { tmps := #[.pointer (some ⟨sb, 0, none⟩), v1_, v2_, .pointer (some ⟨w.heap.size, 0, none⟩), .bool false, v5_, v, v7_, .pointer (some ⟨g8, 0, none⟩), .pointer (some ⟨g9, 0, none⟩), v10_, v11_, v12_, v13_, v14_, v15_, v16_, v17_, v18_, v19_, v20_, v21_, v22_, v23_, v24_, v25_, v26_, v27_, v28_, v29_, v30_, v31_, v32_, v33_, v34_, v35_, v36_, v37_, v38_, v39_, v40_, v41_, v42_, v43_, v44_, v45_, v46_, v47_, v48_, v49_, v50_, v51_, v52_, v53_, v54_, v55_, v56_, v57_, v58_, v59_, v60_, v61_, v62_, v63_, v64_], defers := [] } W := by
    intros
    rename_i g9 v5 V5 w5 W5 hBx hE5 hL5 hO5
    have hV := hBx.v.size
    have hO5 := hid (hBx.p.out (Nat.le_refl _) hBx.v hO5)
    have hb4w := Hb4.out.size
    have hE5 := hid (hBx.p.errAns (a := a) (Z := W4) rfl (Nat.le_refl _) hV (fun b hb => by have := LS.out b hb; omega) hE5)
    have hL5 := hid (hBx.p.log (Z := W4) rfl (Nat.le_refl _) hV (fun b hb => by have := L1.out b hb; omega) hL5)
    have B9 := hid hBx.b
    have hg9 := hBx.g
    clear hBx hV
    refine HK5.out _ _ ?_
    clear HK5
    dsimp only
    repeat' (first | (with_reducible refine stop_region 6 ?_) | go_step)
    refine Stop.go ?_
    rename_i K6 hK6
    have HK6 := hid hK6
    clear hK6
    have hzW5 := hO5.out.size
    have hg84 := HB4.out.lt
    have n81 : ¬ S1 g8 := fun hc => by have := L1.out _ hc; omega
    have n82 : ¬ S2 g8 := fun hc => by have := L2.out _ hc; omega
    have H85 := hid (hO5.out.blk HB4.out n81)
    have hr5 : RLogAt W5 S2 rb s := Hr4.out.keep hO5.out.size fun b hb hs => hO5.out.block b hb fun hc => (H4.out b hc).2.1 hs
    have HTr := fun V (hb : Below W5.heap.size W5 V) => rtake_step V rb K S2 s x (hr5.step hb) Hf.out Hx.out
    rw [← HP2.out, ← Hs2.out] at HTr
    simp only [Actn.agg, Opn.agg] at HTr
    unfold Actn.vals at HTr
    have HTr := hid HTr
    have nA := hid (show ¬ S2 W5.heap.size from fun hc => by have := L2.out _ hc; omega)
    clear hr5
    have key6 : ∀ {v1_ v2_ v5_ v7_ v11_ v12_ v13_ v14_ v15_ v16_ v17_ v18_ v19_ v20_ v21_ v22_ v23_ v24_ v25_ v26_ v27_ v28_ v29_ v30_ v31_ v32_ v33_ v34_ v35_ v36_ v37_ v38_ v39_ v40_ v41_ v42_ v43_ v44_ v45_ v46_ v47_ v48_ v49_ v50_ v51_ v52_ v53_ v54_ v55_ v56_ v57_ v58_ v59_ v60_ v61_ v62_ v63_ v64_ : Value} {g10 : Nat} {B1 B2 : Option Addr} {m1 d1 q1 r1 : Nat} {V w6 Z : World}, Box6 W5 V w6 Z g10 37 #[.int .i64 P2.kind, .int .i64 P2.at_, .int .i32 P2.char, .int .i64 P2.rep] g8 62 #[.int .i64 (s.takeCode x), .slice B1 m1 d1, .slice B2 q1 r1] → NoAns w6 (fun b => V.heap.size ≤ b) (s.takeCh x) (s.takeCode x) (.agg #[.int .i64 (s.takeCode x), .slice B1 m1 d1, .slice B2 q1 r1]) → RLogAt w6 (Fr V S2) rb s2 → Out S2 V w6 → K6 { tmps := #[.pointer (some ⟨sb, 0, none⟩), v1_, v2_, .pointer (some ⟨w.heap.size, 0, none⟩), .bool false, v5_, v5, v7_, .pointer (some ⟨g8, 0, none⟩), .pointer (some ⟨g9, 0, none⟩), .pointer (some ⟨g10, 0, none⟩), v11_, v12_, v13_, v14_, v15_, v16_, v17_, v18_, v19_, v20_, v21_, v22_, v23_, v24_, v25_, v26_, v27_, v28_, v29_, v30_, v31_, v32_, v33_, v34_, v35_, v36_, v37_, v38_, v39_, v40_, v41_, v42_, v43_, v44_, v45_, v46_, v47_, v48_, v49_, v50_, v51_, v52_, v53_, v54_, v55_, v56_, v57_, v58_, v59_, v60_, v61_, v62_, v63_, v64_], defers := [] } Z := by
     intros
     rename_i g10 B1 B2 m1 d1 q1 r1 V6 w6 W7 hBx hE6 hL6 hO6
     have hV := hBx.v.size
     have hz6 := hO6.size
     have hz7 := hBx.size
     have hb4w := Hb4.out.size
     have hE7 : NoAns W7 (fun b => W5.heap.size ≤ b) (s.takeCh x) (s.takeCode x) (.agg #[.int .i64 (s.takeCode x), .slice B1 m1 d1, .slice B2 q1 r1]) := (hE6.keep hz7 fun b hb hl => hBx.block b hl (by omega) (by omega)).more fun b _ hb => Nat.le_trans hV hb
     have hk57 : ∀ b, b < W5.heap.size → ¬ S2 b → b ≠ g8 → W7.heap[b]? = W5.heap[b]? := fun b hb hn hc => (hBx.block b (by omega) (by omega) hc).trans ((hO6.block b (by omega) hn).trans (hBx.v.block b hb))
     have hL7 : RLogAt W7 (fun b => Fr W5 S2 b ∧ b < W7.heap.size) rb s2 := by
      refine RLogAt.cut ((hL6.keep hz7 fun b hb hs => hBx.block b hb ?_ ?_).more fun b hb => hb.imp id fun h => Nat.le_trans hV h)
      · rcases hs with h | h
        · have := L2.out b h; omega
        · have h2 : V6.heap.size ≤ b := h; omega
      · rcases hs with h | h
        · rintro rfl; exact n82 h
        · have h2 : V6.heap.size ≤ b := h; omega
     have hO57 : Out (fun b => S2 b ∨ b = g8) W5 W7 := ⟨hBx.os.trans (hO6.os.trans hBx.v.os), hBx.tape.trans (hO6.tape.trans hBx.v.tape), hBx.output.trans (hO6.output.trans hBx.v.output), by omega, fun k hk hn => hk57 k hk (fun h => hn (.inl h)) fun h => hn (.inr h)⟩
     have hEW : ErrAns W7 (Fr W4 S') a (s.takeCh x) (s.takeCode x) v5 := hE5.out.imp id (IsErr.keep fun b hb hl => hk57 b hl (fun hc => by
      rcases hb with hb | hb
      · have := HlowS.out b hb; have := (H7.out _ (H5.out _ hc).1).1; omega
      · have h2 : W4.heap.size ≤ b := hb; have := L2.out _ hc; omega) (by
      rcases hb with hb | hb
      · have := LS.out b hb; omega
      · have h2 : W4.heap.size ≤ b := hb; omega))
     have hs7 : Sents W7 S' a := ((HS.out.step Hb4.out).keep fun b hb hl => hO5.out.block b hl fun hc => by have := HlowS.out b hb; have := (H7.out _ (H4.out _ hc).1).1; omega).keep fun b hb hl => hk57 b hl (fun hc => by have := HlowS.out b hb; have := (H7.out _ (H5.out _ hc).1).1; omega) (by have := LS.out b hb; omega)
     have HRf := hid (refused_step (a := a) (s.takeCh x) (s.takeCode x) v5 (.agg #[.int .i64 (s.takeCode x), .slice B1 m1 d1, .slice B2 q1 r1]) _ _ S' W7 hEW hE7 hs7 (takeCh_len s x))
     have B9' : Blk W7 g9 37 #[.int .i64 P2.kind, .int .i64 P2.at_, .int .i32 P2.char, .int .i64 P2.rep] := (hk57 g9 B9.out.lt (fun hc => by have := L2.out _ hc; omega) (by omega)).trans B9.out
     have B10 := hBx.b
     have B8 := hBx.d
     have HL7 := hid hL7
     have HO57 := hid hO57
     obtain ⟨y0, y1, y2, y3⟩ := cl4 (w := W7) (g := g9) B9'; have yl := (B9').lt
     obtain ⟨z0, z1, z2, z3⟩ := cl4 (w := W7) (g := g10) B10; have zl := (B10).lt
     have n0 : W7.cell? ⟨g8, 0, none⟩ = some (.int .i64 (s.takeCode x)) := B8.cell 0
     have n1 : W7.cell? ⟨g8, 1, none⟩ = some (.slice B1 m1 d1) := B8.cell 1
     have n2 : W7.cell? ⟨g8, 2, none⟩ = some (.slice B2 q1 r1) := B8.cell 2
     have nl := B8.lt
     clear hBx hE6 hL6 hO6 hE7 hk57 hL7 hO57 hEW hs7 B9' B10 B8
     refine HK6.out _ _ ?_
     clear HK6
     dsimp only
     repeat' (first | (go_at_call 27; go_must ((with_reducible refine Calls.mono HRf.out ?_); rintro _ W8 ⟨rfl, hb8⟩; dsimp only)) | go_guarded | go_step)
     go_ret
     refine ⟨rfl, ?_⟩
     have hO5' := hO5.out
     have hz5 := hO5'.size
     exact take_end Hb4.out hO5' HO57.out hb8 ⟨by have := HBW2.out.size; omega, hg84⟩ H4.out H5.out H6.out H7.out (Hsb.out.step HBX4.out) hL5.out.cut HL7.out
    dsimp only at key6
    have hsb5 := hO5.out.blk (Hsb.out.step HBX4.out) (fun hc => (H4.out sb hc).2.2 rfl)
    have ho5 := hO5.out.blk (HX.out.step HBX4.out) (fun hc => by have := L1.out _ hc; omega)
    have qs : W5.drew.heap[sb]? = some (.cells _ 33 (0, 0)) := hsb5
    have qo : W5.drew.heap[w.heap.size]? = some (.cells _ 46 (0, 0)) := ho5
    have ts : ¬ S2 sb := fun hc => (H5.out sb hc).2 rfl
    have to_ : ¬ S2 w.heap.size := fun hc => by have := L2.out _ hc; omega
    have s0 : W5.drew.cell? ⟨sb, 0, none⟩ = some (.pointer (some ⟨gb, 0, none⟩)) := (hsb5.drew).cell 0; have s1 : W5.drew.cell? ⟨sb, 1, none⟩ = some (.pointer (some ⟨rb, 0, none⟩)) := (hsb5.drew).cell 1; have sl := (hsb5.drew).lt
    obtain ⟨x0, x1, x2, x3, x4, x5, x6, x7, x8, x9, x10, x11, x12⟩ := cl13 (w := W5.drew) (g := w.heap.size) ho5.drew; have xl := (ho5.drew).lt
    have ne8 : g8 ≠ W5.heap.size := by omega
    have ne9 : W5.heap.size ≠ g8 := by omega
    clear hsb5 ho5
    repeat' (first | ((with_reducible refine region_at 6 ?_); refine wp_region_ordT (fun b => ¬ S2 b) (rgo [0,4,8,12,16] (.two 5 9 (rgo [24,28,32,37,43,47] .nil) (rgo [21,24,28,32,43,47] .nil))) (by kernel_rfl) (by kernel_rfl) (by kernel_rfl) rfl rfl ?_) | (with_reducible refine Keep.last ?_) | (with_reducible refine Keep.allocD ?_) | (go_at_call 69; go_must (first | ((with_reducible refine Calls.mono (HTr.out W5.drew (bw0 W5)) ?_); go_must (rintro _ w6 ⟨v6, rfl, hE6, hL6, hO6⟩; have hk6 : KeepT (fun b => ¬ S2 b) W5.drew w6 := ⟨hO6.size, fun b hl hb => hO6.block b hl hb⟩; obtain ⟨B1, m1, d1, B2, q1, r1, rfl⟩ := hE6.shape; have h8 := hO6.blk H85.out.drew n82; obtain ⟨bl, b0, b1, b2, e0, e1, e2⟩ := bl3 h8; clear s0 s1 sl; clear x0 x1 x2 x3 x4 x5 x6 x7 x8 x9 x10 x11 x12 xl; have hF := hid (box6_c (t := 37) (cs := #[.int .i64 P2.kind, .int .i64 P2.at_, .int .i32 P2.char, .int .i64 P2.rep]) (x := .int .i64 (s.takeCode x)) (y := .slice B1 m1 d1) (v := .slice B2 q1 r1) hO6 h8); clear h8; have hE6 := hid hE6; have hL6 := hid hL6; have hO6 := hid hO6; dsimp only)) | ((with_reducible refine Calls.mono (HTr.out (W5.alloc (.cells #[.int .i64 0, .int .i64 0, .int .i32 0, .int .i64 0] 37)).drew (bw1 W5 _)) ?_); go_must (rintro _ w6 ⟨v6, rfl, hE6, hL6, hO6⟩; have hk6 : KeepT (fun b => ¬ S2 b) (W5.alloc (.cells #[.int .i64 0, .int .i64 0, .int .i32 0, .int .i64 0] 37)).drew w6 := ⟨hO6.size, fun b hl hb => hO6.block b hl hb⟩; obtain ⟨B1, m1, d1, B2, q1, r1, rfl⟩ := hE6.shape; have h8 := hO6.blk (H85.out.alloc (.cells #[.int .i64 0, .int .i64 0, .int .i32 0, .int .i64 0] 37)).drew n82; obtain ⟨bl, b0, b1, b2, e0, e1, e2⟩ := bl3 h8; clear s0 s1 sl; clear x0 x1 x2 x3 x4 x5 x6 x7 x8 x9 x10 x11 x12 xl; have hz := hO6.blk (Blk.new W5 37 #[.int .i64 0, .int .i64 0, .int .i32 0, .int .i64 0]).drew nA.out; obtain ⟨zl, z0, z1, z2, z3, f0, f1, f2, f3⟩ := bl4 hz; clear hz; have hF := hid (box6_a (t := 37) (cs := #[.int .i64 P2.kind, .int .i64 P2.at_, .int .i32 P2.char, .int .i64 P2.rep]) (x := .int .i64 (s.takeCode x)) (y := .slice B1 m1 d1) (v := .slice B2 q1 r1) hO6 nA.out (op4_cells #[.int .i64 0, .int .i64 0, .int .i32 0, .int .i64 0] P2 rfl) h8 ne8); clear h8; have hE6 := hid hE6; have hL6 := hid hL6; have hO6 := hid hO6; dsimp only)))) | (with_reducible first | refine Keep.kept (by assumption) ?_ | refine Keep.alloc ?_) | ((with_reducible refine WpO.here ?_); first | (refine WpO.done ?_; refine NoP.normal ?_) | ((first | refine WpO.loadT (by rfl) (by rfl) (by go_simp; rfl) (by rintro _ _ ⟨⟩; exact ⟨_, _, _, _, _, _, by rfl, by assumption, by assumption⟩) ?_ | refine WpO.pure (by rfl) (fun w_ => by go_simp; (try go_bits); rfl) ?_); go_frame) | refine WpO.wild ?_ | refine WpO.two ?_ ?_) | ((with_reducible refine wildO.here ?_); (refine wildO.go (by rfl) (fun _ _ => ?_))) | go_step)
    all_goals (try rw [sets4])
    all_goals (try rw [sets3])
    all_goals with_reducible exact key6 hF.out hE6.out hL6.out hO6.out
   dsimp only at key5
   have hsb4 := Hsb.out.step HBX4.out
   have ho4 := HX.out.step HBX4.out
   have qs : W4.drew.heap[sb]? = some (.cells _ 33 (0, 0)) := hsb4
   have qo : W4.drew.heap[w.heap.size]? = some (.cells _ 46 (0, 0)) := ho4
   have ts : ¬ S1 sb := fun hc => (H4.out sb hc).2.2 rfl
   have to_ : ¬ S1 w.heap.size := fun hc => by have := L1.out _ hc; omega
   have s0 : W4.drew.cell? ⟨sb, 0, none⟩ = some (.pointer (some ⟨gb, 0, none⟩)) := (hsb4.drew).cell 0; have s1 : W4.drew.cell? ⟨sb, 1, none⟩ = some (.pointer (some ⟨rb, 0, none⟩)) := (hsb4.drew).cell 1; have sl := (hsb4.drew).lt
   obtain ⟨x0, x1, x2, x3, x4, x5, x6, x7, x8, x9, x10, x11, x12⟩ := cl13 (w := W4.drew) (g := w.heap.size) ho4.drew; have xl := (ho4.drew).lt
   clear hsb4 ho4
   repeat' (first | ((with_reducible refine region_at 5 ?_); refine wp_region_ordT (fun b => ¬ S1 b) (rgo [0,4,8,12,16] (.two 5 9 (rgo [24,28,32,37,43,44] .nil) (rgo [21,24,28,32,43,44] .nil))) (by kernel_rfl) (by kernel_rfl) (by kernel_rfl) rfl rfl ?_) | (with_reducible refine Keep.last ?_) | (with_reducible refine Keep.allocD ?_) | (go_at_call 37; go_must (first | ((with_reducible refine Calls.mono (HTp.out W4.drew (bw0 W4)) ?_); go_must (rintro _ w1 ⟨v, rfl, hE, hL, hO⟩; have hk1 : KeepT (fun b => ¬ S1 b) W4.drew w1 := ⟨hO.size, fun b hl hb => hO.block b hl hb⟩; have hF := hid (box_c (t := 37) (cs := #[.int .i64 P2.kind, .int .i64 P2.at_, .int .i32 P2.char, .int .i64 P2.rep]) hO); have hE := hid hE; have hL := hid hL; have hO := hid hO; dsimp only)) | ((with_reducible refine Calls.mono (HTp.out (W4.alloc (.cells #[.int .i64 0, .int .i64 0, .int .i32 0, .int .i64 0] 37)).drew (bw1 W4 _)) ?_); go_must (rintro _ w1 ⟨v, rfl, hE, hL, hO⟩; have hk1 : KeepT (fun b => ¬ S1 b) (W4.alloc (.cells #[.int .i64 0, .int .i64 0, .int .i32 0, .int .i64 0] 37)).drew w1 := ⟨hO.size, fun b hl hb => hO.block b hl hb⟩; have hz := hO.blk (Blk.new W4 37 #[.int .i64 0, .int .i64 0, .int .i32 0, .int .i64 0]).drew nA.out; obtain ⟨zl, z0, z1, z2, z3, f0, f1, f2, f3⟩ := bl4 hz; clear hz; have hF := hid (box_a (t := 37) (cs := #[.int .i64 P2.kind, .int .i64 P2.at_, .int .i32 P2.char, .int .i64 P2.rep]) hO nA.out (op4_cells #[.int .i64 0, .int .i64 0, .int .i32 0, .int .i64 0] P2 rfl)); have hE := hid hE; have hL := hid hL; have hO := hid hO; dsimp only)))) | (with_reducible first | refine Keep.kept (by assumption) ?_ | refine Keep.alloc ?_) | ((with_reducible refine WpO.here ?_); first | (refine WpO.done ?_; refine NoP.normal ?_) | ((first | refine WpO.loadT (by rfl) (by rfl) (by go_simp; rfl) (by rintro _ _ ⟨⟩; exact ⟨_, _, _, _, _, _, by rfl, by assumption, by assumption⟩) ?_ | refine WpO.pure (by rfl) (fun w_ => by go_simp; (try go_bits); rfl) ?_); go_frame) | refine WpO.wild ?_ | refine WpO.two ?_ ?_) | ((with_reducible refine wildO.here ?_); (refine wildO.go (by rfl) (fun _ _ => ?_))) | go_step)
   all_goals (try rw [sets4])
   all_goals with_reducible exact key5 hF.out hE.out hL.out hO.out
  dsimp only at key2
  have hsbW := Hsb.out.step HBX.out
  have hoW := HX.out.step HBX.out
  have s0 : W.drew.cell? ⟨sb, 0, none⟩ = some (.pointer (some ⟨gb, 0, none⟩)) := (hsbW.drew).cell 0; have s1 : W.drew.cell? ⟨sb, 1, none⟩ = some (.pointer (some ⟨rb, 0, none⟩)) := (hsbW.drew).cell 1; have sl := (hsbW.drew).lt
  obtain ⟨x0, x1, x2, x3, x4, x5, x6, x7, x8, x9, x10, x11, x12⟩ := cl13 (w := W.drew) (g := w.heap.size) hoW.drew; have xl := (hoW.drew).lt
  have HNE := hid (show (37 : TypeId) ≠ 62 by decide)
  clear hsbW hoW hrW
  repeat' (first | ((with_reducible refine region_at 2 ?_); refine wp_region_ordT (fun _ => True) (rgo [0,4,8,12,20] (.three 4 10 11 (.three 6 10 11 (rgo [28,32,36] (.two 10 11 (rgo [45,51,55] .nil) (rgo [41,51,55] .nil))) (.two 6 11 (rgo [28,32,36,45,51,55] .nil) (rgo [25,28,32,36,51,55] .nil)) (.two 6 10 (rgo [28,32,36,41,51,55] .nil) (rgo [25,28,32,36,51,55] .nil))) (.two 4 11 (.two 6 11 (rgo [28,32,36,45,51,55] .nil) (rgo [25,28,32,36,51,55] .nil)) (rgo [17,25,28,32,36,51,55] .nil)) (.two 4 10 (.two 6 10 (rgo [28,32,36,41,51,55] .nil) (rgo [25,28,32,36,51,55] .nil)) (rgo [17,25,28,32,36,51,55] .nil)))) (by kernel_rfl) (by kernel_rfl) (by kernel_rfl) rfl rfl ?_) | (with_reducible refine Keep.last ?_) | (with_reducible refine Keep.allocD ?_) | (go_at_call 67; go_must (first | ((with_reducible refine Calls.mono (HC.out W.drew (bw0 W)) ?_); go_must (rintro _ w1 ⟨cb, rfl, hcb0, hb1⟩; have hcb := hcb0.more (S' := fun _ => True) (fun _ _ => trivial); clear hcb0; have hkb1 := KeepT.of_below (T := fun _ => True) hb1; clear s0 s1 sl; clear x0 x1 x2 x3 x4 x5 x6 x7 x8 x9 x10 x11 x12 xl; have PA := hid trivial; have PN := hid trivial; have HCb := hid hcb; have HV1 := hid (bviaV (bw0 W) hb1); clear hcb; dsimp only)) | ((with_reducible refine Calls.mono (HC.out (W.alloc (.cells #[.int .i64 0, .int .i64 0, .int .i32 0, .int .i64 0] 37)).drew (bw1 W _)) ?_); go_must (rintro _ w1 ⟨cb, rfl, hcb0, hb1⟩; have hcb := hcb0.more (S' := fun _ => True) (fun _ _ => trivial); clear hcb0; have hkb1 := KeepT.of_below (T := fun _ => True) hb1; clear s0 s1 sl; clear x0 x1 x2 x3 x4 x5 x6 x7 x8 x9 x10 x11 x12 xl; have PN := hid trivial; have hm := mk8 W W 37 #[.int .i64 0, .int .i64 0, .int .i32 0, .int .i64 0] (Nat.le_refl _); have PA := hid (And.intro (hm.1.step hb1) hm.2); clear hm; have HCb := hid hcb; have HV1 := hid (bviaV (bw1 W _) hb1); clear hcb; dsimp only)) | ((with_reducible refine Calls.mono (HC.out (W.alloc (.cells #[.int .i64 0, .slice none 0 0, .slice none 0 0] 62)).drew (bw1 W _)) ?_); go_must (rintro _ w1 ⟨cb, rfl, hcb0, hb1⟩; have hcb := hcb0.more (S' := fun _ => True) (fun _ _ => trivial); clear hcb0; have hkb1 := KeepT.of_below (T := fun _ => True) hb1; clear s0 s1 sl; clear x0 x1 x2 x3 x4 x5 x6 x7 x8 x9 x10 x11 x12 xl; have PA := hid trivial; have hm := mk8 W W 62 #[.int .i64 0, .slice none 0 0, .slice none 0 0] (Nat.le_refl _); have PN := hid (And.intro (hm.1.step hb1) hm.2); clear hm; have HCb := hid hcb; have HV1 := hid (bviaV (bw1 W _) hb1); clear hcb; dsimp only)) | ((with_reducible refine Calls.mono (HC.out ((W.alloc (.cells #[.int .i64 0, .int .i64 0, .int .i32 0, .int .i64 0] 37)).alloc (.cells #[.int .i64 0, .slice none 0 0, .slice none 0 0] 62)).drew (bw2 W _ _)) ?_); go_must (rintro _ w1 ⟨cb, rfl, hcb0, hb1⟩; have hcb := hcb0.more (S' := fun _ => True) (fun _ _ => trivial); clear hcb0; have hkb1 := KeepT.of_below (T := fun _ => True) hb1; clear s0 s1 sl; clear x0 x1 x2 x3 x4 x5 x6 x7 x8 x9 x10 x11 x12 xl; have hm := twoBoxes W 37 62 #[.int .i64 0, .int .i64 0, .int .i32 0, .int .i64 0] #[.int .i64 0, .slice none 0 0, .slice none 0 0]; have PA := hid (And.intro (hm.1.drew.step hb1) (Nat.le_refl W.heap.size)); have PN := hid (And.intro (hm.2.1.drew.step hb1) (Nat.le_succ W.heap.size)); clear hm; have HCb := hid hcb; have HV1 := hid (bviaV (bw2 W _ _) hb1); clear hcb; dsimp only)) | ((with_reducible refine Calls.mono (HC.out ((W.alloc (.cells #[.int .i64 0, .slice none 0 0, .slice none 0 0] 62)).alloc (.cells #[.int .i64 0, .int .i64 0, .int .i32 0, .int .i64 0] 37)).drew (bw2 W _ _)) ?_); go_must (rintro _ w1 ⟨cb, rfl, hcb0, hb1⟩; have hcb := hcb0.more (S' := fun _ => True) (fun _ _ => trivial); clear hcb0; have hkb1 := KeepT.of_below (T := fun _ => True) hb1; clear s0 s1 sl; clear x0 x1 x2 x3 x4 x5 x6 x7 x8 x9 x10 x11 x12 xl; have hm := twoBoxes W 62 37 #[.int .i64 0, .slice none 0 0, .slice none 0 0] #[.int .i64 0, .int .i64 0, .int .i32 0, .int .i64 0]; have PN := hid (And.intro (hm.1.drew.step hb1) (Nat.le_refl W.heap.size)); have PA := hid (And.intro (hm.2.1.drew.step hb1) (Nat.le_succ W.heap.size)); clear hm; have HCb := hid hcb; have HV1 := hid (bviaV (bw2 W _ _) hb1); clear hcb; dsimp only)))) | (go_at_call 68; go_must (first | ((with_reducible refine Calls.mono (HQ.out w1 cb (HCb.out.step (Below.refl _ _))) ?_); go_must (rintro _ w3 ⟨v3, rfl, hE3, hb3⟩; have hkb3 := KeepT.of_below (T := fun _ => True) hb3; obtain ⟨B1, m1, d1, B2, q1, r1, rfl⟩ := hE3.shape; have QA := PA; have QN := PN;  have HV3 := HV1; (first | (have hA := QA.out.1.step hb3; obtain ⟨zl, z0, z1, z2, z3, f0, f1, f2, f3⟩ := bl4 hA; clear hA) | skip); (first | (have hN := QN.out.1.step hb3; obtain ⟨bl, b0, b1, b2, e0, e1, e2⟩ := bl3 hN; clear hN) | skip); have hE3 := hid hE3; have hb3 := hid hb3; try dsimp only)) | ((with_reducible refine Calls.mono (HQ.out (w1.alloc (.cells #[.int .i64 0, .int .i64 0, .int .i32 0, .int .i64 0] 37)) cb (HCb.out.step (cw1 w1 _))) ?_); go_must (rintro _ w3 ⟨v3, rfl, hE3, hb3⟩; have hkb3 := KeepT.of_below (T := fun _ => True) hb3; obtain ⟨B1, m1, d1, B2, q1, r1, rfl⟩ := hE3.shape; (first | have QN := hid (And.intro (PN.out.1.step (cw1 w1 (.cells #[.int .i64 0, .int .i64 0, .int .i32 0, .int .i64 0] 37))) PN.out.2) | have QN := hid trivial); (first | (have l1 := PN.out.1.lt; have n1 : w1.heap.size ≠ W.heap.size := (by omega); have n2 : W.heap.size ≠ w1.heap.size := (by omega); clear l1) | skip); have QA := hid (nk8 W w1 37 #[.int .i64 0, .int .i64 0, .int .i32 0, .int .i64 0] HV1.out.size);  have HV3 := hid (show Below W.heap.size W (w1.alloc (.cells #[.int .i64 0, .int .i64 0, .int .i32 0, .int .i64 0] 37)) from bvia HV1.out (cw1 w1 _)); (first | (have hA := QA.out.1.step hb3; obtain ⟨zl, z0, z1, z2, z3, f0, f1, f2, f3⟩ := bl4 hA; clear hA)); (first | (have hN := QN.out.1.step hb3; obtain ⟨bl, b0, b1, b2, e0, e1, e2⟩ := bl3 hN; clear hN) | skip); have hE3 := hid hE3; have hb3 := hid hb3; try dsimp only)) | ((with_reducible refine Calls.mono (HQ.out (w1.alloc (.cells #[.int .i64 0, .slice none 0 0, .slice none 0 0] 62)) cb (HCb.out.step (cw1 w1 _))) ?_); go_must (rintro _ w3 ⟨v3, rfl, hE3, hb3⟩; have hkb3 := KeepT.of_below (T := fun _ => True) hb3; obtain ⟨B1, m1, d1, B2, q1, r1, rfl⟩ := hE3.shape; (first | have QA := hid (And.intro (PA.out.1.step (cw1 w1 (.cells #[.int .i64 0, .slice none 0 0, .slice none 0 0] 62))) PA.out.2) | have QA := hid trivial); (first | (have l1 := PA.out.1.lt; have n1 : w1.heap.size ≠ W.heap.size := (by omega); have n2 : W.heap.size ≠ w1.heap.size := (by omega); clear l1) | skip); have QN := hid (nk8 W w1 62 #[.int .i64 0, .slice none 0 0, .slice none 0 0] HV1.out.size);  have HV3 := hid (show Below W.heap.size W (w1.alloc (.cells #[.int .i64 0, .slice none 0 0, .slice none 0 0] 62)) from bvia HV1.out (cw1 w1 _)); (first | (have hA := QA.out.1.step hb3; obtain ⟨zl, z0, z1, z2, z3, f0, f1, f2, f3⟩ := bl4 hA; clear hA) | skip); (first | (have hN := QN.out.1.step hb3; obtain ⟨bl, b0, b1, b2, e0, e1, e2⟩ := bl3 hN; clear hN)); have hE3 := hid hE3; have hb3 := hid hb3; try dsimp only)) | ((with_reducible refine Calls.mono (HQ.out ((w1.alloc (.cells #[.int .i64 0, .int .i64 0, .int .i32 0, .int .i64 0] 37)).alloc (.cells #[.int .i64 0, .slice none 0 0, .slice none 0 0] 62)) cb (HCb.out.step (cw2 w1 _ _))) ?_); go_must (rintro _ w3 ⟨v3, rfl, hE3, hb3⟩; have hkb3 := KeepT.of_below (T := fun _ => True) hb3; obtain ⟨B1, m1, d1, B2, q1, r1, rfl⟩ := hE3.shape; have hm := twoBoxes w1 37 62 #[.int .i64 0, .int .i64 0, .int .i32 0, .int .i64 0] #[.int .i64 0, .slice none 0 0, .slice none 0 0]; have hs1 := HV1.out.size; have QA := hid (And.intro hm.1 hs1); have QN := hid (And.intro hm.2.1 (Nat.le_succ_of_le hs1)); clear hm hs1;  have HV3 := hid (show Below W.heap.size W ((w1.alloc (.cells #[.int .i64 0, .int .i64 0, .int .i32 0, .int .i64 0] 37)).alloc (.cells #[.int .i64 0, .slice none 0 0, .slice none 0 0] 62)) from bvia HV1.out (cw2 w1 _ _)); (first | (have hA := QA.out.1.step hb3; obtain ⟨zl, z0, z1, z2, z3, f0, f1, f2, f3⟩ := bl4 hA; clear hA)); (first | (have hN := QN.out.1.step hb3; obtain ⟨bl, b0, b1, b2, e0, e1, e2⟩ := bl3 hN; clear hN)); have hE3 := hid hE3; have hb3 := hid hb3; try dsimp only)) | ((with_reducible refine Calls.mono (HQ.out ((w1.alloc (.cells #[.int .i64 0, .slice none 0 0, .slice none 0 0] 62)).alloc (.cells #[.int .i64 0, .int .i64 0, .int .i32 0, .int .i64 0] 37)) cb (HCb.out.step (cw2 w1 _ _))) ?_); go_must (rintro _ w3 ⟨v3, rfl, hE3, hb3⟩; have hkb3 := KeepT.of_below (T := fun _ => True) hb3; obtain ⟨B1, m1, d1, B2, q1, r1, rfl⟩ := hE3.shape; have hm := twoBoxes w1 62 37 #[.int .i64 0, .slice none 0 0, .slice none 0 0] #[.int .i64 0, .int .i64 0, .int .i32 0, .int .i64 0]; have hs1 := HV1.out.size; have QN := hid (And.intro hm.1 hs1); have QA := hid (And.intro hm.2.1 (Nat.le_succ_of_le hs1)); clear hm hs1;  have HV3 := hid (show Below W.heap.size W ((w1.alloc (.cells #[.int .i64 0, .slice none 0 0, .slice none 0 0] 62)).alloc (.cells #[.int .i64 0, .int .i64 0, .int .i32 0, .int .i64 0] 37)) from bvia HV1.out (cw2 w1 _ _)); (first | (have hA := QA.out.1.step hb3; obtain ⟨zl, z0, z1, z2, z3, f0, f1, f2, f3⟩ := bl4 hA; clear hA)); (first | (have hN := QN.out.1.step hb3; obtain ⟨bl, b0, b1, b2, e0, e1, e2⟩ := bl3 hN; clear hN)); have hE3 := hid hE3; have hb3 := hid hb3; try dsimp only)))) | (with_reducible first | refine Keep.below (by assumption) ?_ | refine Keep.alloc ?_) | ((with_reducible refine WpO.here ?_); first | (refine WpO.done ?_; refine NoP.normal ?_) | ((first | refine WpO.load (by rfl) (by rfl) (by go_simp; rfl) ?_ | refine WpO.pure (by rfl) (fun w_ => by go_simp; (try go_bits); rfl) ?_); go_frame) | refine WpO.wild ?_ | refine WpO.two ?_ ?_ | refine WpO.three ?_ ?_ ?_) | ((with_reducible refine wildO.here ?_); (refine wildO.go (by rfl) (fun _ _ => ?_))) | go_step)
  all_goals (try rw [sets4])
  all_goals (try rw [sets3])
  all_goals first
   | with_reducible exact key2 (box2_11 (cs := #[.int .i64 F.kind, .int .i64 F.at_, .int .i32 F.char, .int .i64 F.rep]) (ds := #[.int .i64 (s.why x), .slice B1 m1 d1, .slice B2 q1 r1]) HV3.out hb3.out QA.out QN.out (QA.out.1.ne QN.out.1 HNE.out) (op4_cells #[.int .i64 0, .int .i64 0, .int .i32 0, .int .i64 0] F rfl) (no3_cells _ _ _ _ _ _)) hE3.out hb3.out
   | with_reducible exact key2 (box2_10 (cs := #[.int .i64 F.kind, .int .i64 F.at_, .int .i32 F.char, .int .i64 F.rep]) (ds := #[.int .i64 (s.why x), .slice B1 m1 d1, .slice B2 q1 r1]) HV3.out hb3.out QA.out (op4_cells #[.int .i64 0, .int .i64 0, .int .i32 0, .int .i64 0] F rfl)) hE3.out hb3.out
   | with_reducible exact key2 (box2_01 (cs := #[.int .i64 F.kind, .int .i64 F.at_, .int .i32 F.char, .int .i64 F.rep]) (ds := #[.int .i64 (s.why x), .slice B1 m1 d1, .slice B2 q1 r1]) HV3.out hb3.out QN.out (no3_cells _ _ _ _ _ _)) hE3.out hb3.out
   | with_reducible exact key2 (box2_00 (cs := #[.int .i64 F.kind, .int .i64 F.at_, .int .i32 F.char, .int .i64 F.rep]) (ds := #[.int .i64 (s.why x), .slice B1 m1 d1, .slice B2 q1 r1]) HV3.out hb3.out).1 hE3.out hb3.out
   | with_reducible exact key2 (box2_00 (cs := #[.int .i64 F.kind, .int .i64 F.at_, .int .i32 F.char, .int .i64 F.rep]) (ds := #[.int .i64 (s.why x), .slice B1 m1 d1, .slice B2 q1 r1]) HV3.out hb3.out).2 hE3.out hb3.out
 have hsbX := Hsb.out
 have hoX := HX.out
 have s0 : X.drew.cell? ⟨sb, 0, none⟩ = some (.pointer (some ⟨gb, 0, none⟩)) := (hsbX.drew).cell 0; have s1 : X.drew.cell? ⟨sb, 1, none⟩ = some (.pointer (some ⟨rb, 0, none⟩)) := (hsbX.drew).cell 1; have sl := (hsbX.drew).lt
 obtain ⟨x0, x1, x2, x3, x4, x5, x6, x7, x8, x9, x10, x11, x12⟩ := cl13 (w := X.drew) (g := w.heap.size) hoX.drew; have xl := (hoX.drew).lt
 have eD : Below w.heap.size w X.drew := bdrew He.out
 have eA : Below w.heap.size w (X.alloc (.cells #[.int .i64 0, .int .i64 0, .int .i32 0, .int .i64 0] 37)).drew := bdrew (balloc He.out)
 have ED := hid eD
 have EA := hid eA
 clear hsbX hoX eD eA
 repeat' (first | ((with_reducible refine region_at 1 ?_); refine wp_region_ordT (fun _ => True) (rgo [0,4,8,12,16] (.two 5 9 (rgo [24,28,32,37,43,44] .nil) (rgo [21,24,28,32,43,44] .nil))) (by kernel_rfl) (by kernel_rfl) (by kernel_rfl) rfl rfl ?_) | (with_reducible refine Keep.last ?_) | (with_reducible refine Keep.allocD ?_) | (go_at_call 66; go_must (first | ((with_reducible refine Calls.mono (HP.out X.drew ED.out) ?_); go_must (rintro _ w1 ⟨v, rfl, hE, hb⟩; have hk1 := KeepT.of_below (T := fun _ => True) hb; have hF := hid (box_c (S := fun _ => False) (t := 37) (cs := #[.int .i64 F.kind, .int .i64 F.at_, .int .i32 F.char, .int .i64 F.rep]) (Out.of_below hb)); have hE := hid hE; have hB := hid hb; clear hb; dsimp only)) | ((with_reducible refine Calls.mono (HP.out (X.alloc (.cells #[.int .i64 0, .int .i64 0, .int .i32 0, .int .i64 0] 37)).drew EA.out) ?_); go_must (rintro _ w1 ⟨v, rfl, hE, hb⟩; have hk1 := KeepT.of_below (T := fun _ => True) hb; have hz := (Blk.new X 37 #[.int .i64 0, .int .i64 0, .int .i32 0, .int .i64 0]).drew.step hb; obtain ⟨zl, z0, z1, z2, z3, f0, f1, f2, f3⟩ := bl4 hz; clear hz; have hF := hid (box_a (S := fun _ => False) (t := 37) (cs := #[.int .i64 F.kind, .int .i64 F.at_, .int .i32 F.char, .int .i64 F.rep]) (Out.of_below hb) (fun h => h) (op4_cells #[.int .i64 0, .int .i64 0, .int .i32 0, .int .i64 0] F rfl)); have hE := hid hE; have hB := hid hb; clear hb; dsimp only)))) | (with_reducible first | refine Keep.kept (by assumption) ?_ | refine Keep.alloc ?_) | ((with_reducible refine WpO.here ?_); first | (refine WpO.done ?_; refine NoP.normal ?_) | ((first | refine WpO.load (by rfl) (by rfl) (by go_simp; rfl) ?_ | refine WpO.pure (by rfl) (fun w_ => by go_simp; (try go_bits); rfl) ?_); go_frame) | refine WpO.wild ?_ | refine WpO.two ?_ ?_) | ((with_reducible refine wildO.here ?_); (refine wildO.go (by rfl) (fun _ _ => ?_))) | go_step)
 all_goals (try rw [sets4])
 all_goals with_reducible exact key1 hF.out hE.out hB.out
end Go.Proofs.YteggpddlkkjmjaaGreatDoor
namespace Go.Proofs.YteggpddlkkjmjaaGreatDoor
open Go Go.RowKit
variable {a : Nat → Addr}
theorem begun8_any (w : World) (A : Option Addr) (n c : Nat) (ls : List El) (SB : Nat → Prop) (hr : Row w SB A n c ls) (hn : n ≤ 1048576) (ha : AllRight ls) (hg : ∀ e ∈ ls, e.Good) :
 Calls Tryz.prog 34 #[.slice A n c] w fun e w' => ∃ sb, e = .returned (.pointer (some ⟨sb, 0, none⟩)) ∧ SiteAt w' w.heap.size (fun b => w.heap.size ≤ b ∧ b < w'.heap.size) sb (newLg 5 ls) n ∧ Below w.heap.size w w' := by
 have HLd := hid (lend_any A n c ls SB w hr (by omega))
 have Hr := hid hr
 have Ha := hid ha
 have Hg := hid hg
 have hln : ls.length = n := hr.1
 clear hr ha hg
 unfold noNone at *
 go_enter Tryz.func34, Tryz.ntmps34
 repeat' (first | (go_at_call 72; go_must ((with_reducible refine Calls.mono HLd.out ?_); rintro _ w1 ⟨A1, c1, rfl, hO1, ⟨g1, rfl, hg1⟩, hb1⟩; have hg1l : g1 < w1.heap.size := (hO1.block _ rfl).2; have hcap := hO1.cap_le; have hrow1 := (hO1.row (S := fun _ => True) fun _ _ _ => trivial).take_ (show n ≤ n + 4 by omega); rw [List.take_append_of_le_length (by omega), List.take_of_length_le (by omega)] at hrow1; have HO1 := hid hO1; have HRow1 := hid hrow1; clear hO1 hrow1; dsimp only)) | (go_at_call 25; go_must ((with_reducible refine Calls.mono (hnew_ok w1 _ n c1 ls (fun _ => True) 5 HRow1.out hn Hg.out Ha.out.nodup (by omega) (by omega)) ?_); rintro _ w2 ⟨gb, rfl, hL2, hb2⟩; have HL2 := hid hL2; clear hL2; dsimp only)) | (go_at_call 26; go_must ((with_reducible refine Calls.mono (rnew_ok w2 A n c ls SB 5 ((Hr.out.step hb1).step hb2) hn Ha.out (by omega) (by omega)) ?_); rintro _ w3 ⟨rb, rfl, hL3, hb3⟩; have HL3 := hid hL3; clear hL3; unfold noNone; dsimp only)) | (with_reducible refine stop_region 4 ?_) | go_step)
 refine Stop.go ?_
 have eN : Below w3.heap.size w3 (w3.alloc (.cells #[.int .i64 0, .slice none 0 0, .slice none 0 0] 62)) := balloc (Below.refl _ _)
 have hnb := Blk.new w3 62 #[.int .i64 0, .slice none 0 0, .slice none 0 0]
 have hz1 := hb1.size
 have hz2 := hb2.size
 have hz3 := hb3.size
 have hb13 := bvia (bvia hb2 hb3) eN
 have HI := hid (intact_any g1 n c1 A c w.heap.size ls SB _ (HO1.out.step hb13) ((Hr.out.step hb1).step hb13) (by omega) (by have := hb13.size; omega))
 have hb3N := eN
 generalize w3.alloc (.cells #[.int .i64 0, .slice none 0 0, .slice none 0 0] 62) = W at *
 have n0 : W.cell? ⟨w3.heap.size, 0, none⟩ = some (.int .i64 0) := hnb.cell 0
 have nl := hnb.lt
 have hgW : g1 ≠ w3.heap.size := by omega
 have HnB := hid hnb
 clear hnb eN
 repeat' (first | (go_at_call 73; go_must ((with_reducible refine Calls.mono HI.out ?_); rintro _ w5 ⟨rfl, hb5⟩; have hq := hb5.blk HnB.out (show w3.heap.size ≠ g1 by omega); have m0 : w5.cell? ⟨w3.heap.size, 0, none⟩ = some (.int .i64 0) := hq.cell 0; have ml := hq.lt; clear hq; dsimp only)) | go_guarded | go_step)
 go_ret
 have hs5 := hb5.size
 have hb15 : But g1 w1 w5 := (But.of_below hb13).trans hb5
 have hbl5 : Below w.heap.size w w5 := hb15.below_new hb1 hg1
 have eS := balloc (o := .cells #[.pointer (some ⟨gb, 0, none⟩), .pointer (some ⟨rb, 0, none⟩)] 33) (Below.refl w5.heap.size w5)
 have hsb := Blk.new w5 33 #[.pointer (some ⟨gb, 0, none⟩), .pointer (some ⟨rb, 0, none⟩)]
 have hsz : (w5.alloc (.cells #[.pointer (some ⟨gb, 0, none⟩), .pointer (some ⟨rb, 0, none⟩)] 33)).heap.size = w5.heap.size + 1 := Array.size_push _
 have l2 : LogAt w2 (fun b => w1.heap.size ≤ b ∧ b < w2.heap.size) gb (newLg 5 ls) n := HL2.out.cut
 have l3 : RLogAt w3 (fun b => w2.heap.size ≤ b ∧ b < w3.heap.size) rb (newLg 5 ls) := HL3.out.cut
 have hsW := hb3N.size
 refine ⟨w5.heap.size, rfl, ⟨gb, rb, fun b => w1.heap.size ≤ b ∧ b < w2.heap.size, fun b => w2.heap.size ≤ b ∧ b < w3.heap.size, hsb, ?_, ?_, ?_, ?_, ?_, fun b hb => hb⟩, balloc hbl5⟩
 · exact (((l2.step hb3).step hb3N).keep hb5.size fun b hl hb => hb5.block b hl (by omega)).step eS
 · exact ((l3.step hb3N).keep hb5.size fun b hl hb => hb5.block b hl (by omega)).step eS
 · rintro b ⟨h1, h2⟩
   refine ⟨⟨by omega, by omega⟩, ?_, by omega⟩
   rintro ⟨h3, h4⟩
   omega
 · rintro b ⟨h1, h2⟩
   exact ⟨⟨by omega, by omega⟩, by omega⟩
 · exact ⟨by omega, by omega⟩
def base8f (p : Int × Nat) : Option El := if rightC p.1 then some ⟨4, 7, (p.2 : Int) + 1, p.1, 0⟩ else none
def base8 (l : List Int) (k : Nat) : List El := ((l.take k).zipIdx).filterMap base8f
theorem base8_snoc {l : List Int} {k : Nat} {c : Int} (h : l[k]? = some c) : base8 l (k + 1) = base8 l k ++ if rightC c then [⟨4, 7, (k : Int) + 1, c, 0⟩] else [] := by
 have hk : k < l.length := (List.getElem?_eq_some_iff.1 h).1
 have hl : (l.take k).length = k := by rw [List.length_take]; omega
 unfold base8
 rw [List.take_add_one, h, Option.toList_some, List.zipIdx_append, List.filterMap_append, hl]
 congr 1
 unfold base8f
 cases hh : rightC c <;> simp [hh]
theorem base8_length (l : List Int) (k : Nat) : (base8 l k).length ≤ k := by
 unfold base8
 have h1 := List.length_filterMap_le base8f (l.take k).zipIdx
 rw [List.length_zipIdx] at h1
 have := List.length_take_le k l
 omega
theorem base8_mem {l : List Int} {k : Nat} {e : El} (h : e ∈ base8 l k) : ∃ i : Nat, i < k ∧ e.epoch = 4 ∧ e.rep = 7 ∧ e.num = (i : Int) + 1 ∧ rightC e.char = true ∧ e.hides = 0 := by
 unfold base8 at h
 obtain ⟨⟨c, i⟩, hp, he⟩ := List.mem_filterMap.1 h
 have hi := List.mk_mem_zipIdx_iff_getElem?.1 hp
 have hik : i < k := by
  have := (List.getElem?_eq_some_iff.1 hi).1
  rw [List.length_take] at this
  omega
 unfold base8f at he
 split at he
 · next hc => cases he; exact ⟨i, hik, rfl, rfl, rfl, hc, rfl⟩
 · cases he
theorem base8_nodup (l : List Int) : ∀ k, ((base8 l k).map El.nm).Nodup
 | 0 => by simp [base8]
 | k + 1 => by
  rcases hk : l[k]? with _ | c
  · have : base8 l (k + 1) = base8 l k := by
     unfold base8
     rw [List.take_add_one, hk]
     simp
    rw [this]
    exact base8_nodup l k
  · rw [base8_snoc hk]
    split
    · rw [List.map_append, List.nodup_append]
      refine ⟨base8_nodup l k, by simp, fun i hi j hj => ?_⟩
      have hj : j = ⟨4, 7, (k : Int) + 1⟩ := by simpa [El.nm] using hj
      subst hj
      rintro rfl
      obtain ⟨e, he, h1⟩ := List.mem_map.1 hi
      obtain ⟨i', hi', -, -, h2, -⟩ := base8_mem he
      have h3 := congrArg Nm.num h1
      have h4 : e.num = (k : Int) + 1 := h3
      omega
    · rw [List.append_nil]
      exact base8_nodup l k
end Go.Proofs.YteggpddlkkjmjaaGreatDoor
namespace Go.Proofs.YteggpddlkkjmjaaGreatDoor
open Go Go.RowKit
structure Lg.Gd (s : Lg) (m : Nat) : Prop where
 snd : s.Snd m
 ain : ∀ x ∈ s.acts, x.In
 fl : s.forms.length = s.acts.length
 had : ∀ x ∈ s.acts, hasC s.clk x.op.rep x.num = true
 len : s.l.length = s.base.length + (s.acts.filter fun x => decide (x.op.kind = 1)).length
theorem Lg.Gd.mono {s : Lg} {m m' : Nat} (h : s.Gd m) (hm : m ≤ m') : s.Gd m' := ⟨h.snd.mono hm, h.ain, h.fl, h.had, h.len⟩
theorem hasC_up {c : Clk} {i : Nat} {n r k : Int} (h : hasC c r k = true) (hi : i < 8) (hn : c.get i ≤ n) : hasC (c.set i n) r k = true := by
 unfold hasC at h ⊢
 simp only [decide_eq_true_eq] at h ⊢
 obtain ⟨h1, h2, h3, h4⟩ := h
 refine ⟨h1, h2, h3, ?_⟩
 rw [Clk.get_set _ hi]
 split
 · next he => rw [he] at h4; omega
 · exact h4
theorem done_len {l : List El} {o : Opn} {id : Nm} : (doneOp l o id).length = l.length + if o.kind = 1 then 1 else 0 := by
 have h := congrArg List.length (names_done (l := l) (o := o) (id := id))
 rw [List.length_map] at h
 rw [h]
 split
 · rw [List.length_append, List.length_cons, List.length_take, List.length_drop, List.length_map]
   omega
 · rw [List.length_map]
   omega
theorem Lg.Gd.deliv {s : Lg} {m : Nat} (h : s.Gd m) {x : Actn} {f : Opn} (hx : x.In) (hk : f.kind = x.op.kind) (hr : x.op.rep = f.rep) (hn : x.num = s.clk.get x.op.rep.toNat + 1) : (s.deliver x f).Gd (m + 1) := by
 have hS := h.snd.deliver hk hr hn
 by_cases hw : whyOf s.l f (s.name x) = 0
 · have he : s.deliver x f = { s with acts := s.acts ++ [x], forms := s.forms ++ [f], clk := s.clk.set x.op.rep.toNat x.num, l := doneOp s.l f (s.name x) } := by
    unfold Lg.deliver
    rw [if_pos hw, appOf_done hw]
   have hrep : 0 ≤ x.op.rep ∧ x.op.rep < 8 := by
    rcases why_cases s.l f (s.name x) with ⟨h1, _⟩ | ⟨h1, _⟩ | ⟨h1, _⟩ | ⟨_, h2, _⟩
    · omega
    · omega
    · omega
    · have := rightOp_rep (validOp_right h2).1
      rw [hr]; exact this
   have hc := h.snd.clk x.op.rep.toNat (by omega)
   rw [he] at hS ⊢
   refine ⟨hS, ?_, ?_, ?_, ?_⟩
   · intro y hy
     rcases List.mem_append.1 hy with hy | hy
     · exact h.ain y hy
     · rw [List.mem_singleton.1 hy]; exact hx
   · show (s.forms ++ [f]).length = (s.acts ++ [x]).length
     rw [List.length_append, List.length_append, h.fl]; rfl
   · intro y hy
     show hasC (s.clk.set x.op.rep.toNat x.num) y.op.rep y.num = true
     rcases List.mem_append.1 hy with hy | hy
     · exact hasC_up (h.had y hy) (by omega) (by omega)
     · rw [List.mem_singleton.1 hy]
       unfold hasC
       simp only [decide_eq_true_eq]
       refine ⟨hrep.1, hrep.2, by omega, ?_⟩
       rw [Clk.get_set _ (by omega), if_pos rfl]
       omega
   · show (doneOp s.l f (s.name x)).length = s.base.length + ((s.acts ++ [x]).filter fun x => decide (x.op.kind = 1)).length
     rw [done_len, List.filter_append, List.length_append, h.len, hk]
     by_cases hk1 : x.op.kind = 1
     · rw [if_pos hk1, List.filter_cons_of_pos (by simpa using hk1)]
       rfl
     · rw [if_neg hk1, List.filter_cons_of_neg (by simpa using hk1)]
       rfl
 · rw [deliver_nay hw]
   exact h.mono (Nat.le_succ m)
theorem Lg.Snd.clkIn {s : Lg} {m : Nat} (h : s.Snd m) (hm : m ≤ 100000) : s.clk.In := fun r hr => by
 have := h.clk r hr
 constructor <;> omega
theorem Lg.Snd.actOfIn {s : Lg} {m : Nat} (h : s.Snd m) (hm : m ≤ 100000) {o : Opn} (ho : o.In) : (s.actOf o).In := by
 refine ⟨ho, ?_, h.clkIn hm⟩
 unfold Lg.actOf
 dsimp only
 split
 · next hr =>
   have h1 := rightOp_rep hr
   have h2 := h.clk o.rep.toNat (by omega)
   constructor <;> omega
 · exact ⟨by decide, by decide⟩
theorem Lg.Gd.issue {s : Lg} {m : Nat} (h : s.Gd m) (hm : m ≤ 100000) {o : Opn} (ho : o.In) : (s.issueOf o).Gd (m + 1) := by
 unfold Lg.issueOf
 by_cases hr : rightOp o = true
 · refine h.deliv (h.snd.actOfIn hm ho) (by unfold Lg.actOf; rfl) (by unfold Lg.actOf; rfl) ?_
   unfold Lg.actOf
   rw [if_pos hr]
 · have hw : whyOf s.l o (s.name (s.actOf o)) ≠ 0 := by
    unfold whyOf
    rw [if_pos (by simpa using hr)]
    omega
   rw [deliver_nay hw]
   exact h.mono (Nat.le_succ m)
theorem base8_good (l : List Int) (k : Nat) : ∀ e ∈ base8 l k, e.hides = 0 ∧ e.epoch = 4 := fun e he => by
 obtain ⟨i, -, h1, -, -, -, h2⟩ := base8_mem he
 exact ⟨h2, h1⟩
theorem new8_gd (l : List Int) (k : Nat) (hk : k ≤ 100) : (newLg 5 (base8 l k)).Gd 0 := by
 have hl := base8_length l k
 have hz : ∀ r, r < 8 → Clk.zero.get r = 0 := fun r hr => by
  rcases lt8 hr with rfl | rfl | rfl | rfl | rfl | rfl | rfl | rfl <;> rfl
 refine ⟨⟨?_, Nat.le_refl _, Nat.le_refl _, ?_, fun r hr => ?_, ?_, ?_, base8_nodup l k, ?_, ⟨show (0 : Int) ≤ 5 by decide, show (5 : Int) ≤ 1099511627777 by decide⟩⟩, ?_, rfl, ?_, rfl⟩
 · show (base8 l k).length ≤ 100; omega
 · show (base8 l k).length ≤ 100 + 0; omega
 · show 0 ≤ Clk.zero.get r ∧ Clk.zero.get r ≤ ((0 : Nat) : Int)
   rw [hz r hr]; decide
 · intro y hy; cases hy
 · intro e he; exact .inl (List.mem_map_of_mem he)
 · intro e he
   have := (base8_good l k e he).1
   constructor <;> omega
 · intro y hy; cases hy
 · intro y hy; cases hy
def SitesAt (w : World) (base : Nat) (R : Nat → Prop) (sbs : List Nat) (ss : List Lg) (K : Nat) : Prop :=
 sbs.length = ss.length ∧ base ≤ w.heap.size ∧ ∃ col : Nat → Option Nat, (∀ b, R b → col b = none ∧ b < w.heap.size) ∧ ∀ (k sb : Nat) (s : Lg), sbs[k]? = some sb → ss[k]? = some s → SiteAt w base (fun b => base ≤ b ∧ b < w.heap.size ∧ col b = some k) sb s K
theorem SiteAt.low {w : World} {base base' sb K : Nat} {S : Nat → Prop} {s : Lg} (h : SiteAt w base S sb s K) (hb : base' ≤ base) : SiteAt w base' S sb s K := by
 obtain ⟨gb, rb, S1, S2, h1, h2, h3, h4, h5, h6, h7⟩ := h
 exact ⟨gb, rb, S1, S2, h1, h2, h3, h4, h5, h6, fun b hs => ⟨Nat.le_trans hb (h7 b hs).1, (h7 b hs).2⟩⟩
theorem SitesAt.nil (w : World) (base : Nat) (hb : base ≤ w.heap.size) (K : Nat) : SitesAt w base (fun _ => False) [] [] K := ⟨rfl, hb, fun _ => none, fun _ h => h.elim, fun k sb s h => by cases h⟩
theorem SitesAt.keep {w w' : World} {base K : Nat} {R R' : Nat → Prop} {sbs : List Nat} {ss : List Lg} (h : SitesAt w base R sbs ss K) (hz : w.heap.size ≤ w'.heap.size) (hk : ∀ b, b < w.heap.size → ¬ R b → w'.heap[b]? = w.heap[b]?) (hR : ∀ b, R' b → (R b ∨ w.heap.size ≤ b) ∧ b < w'.heap.size) : SitesAt w' base R' sbs ss K := by
 obtain ⟨h1, h2, col, hc, h3⟩ := h
 refine ⟨h1, Nat.le_trans h2 hz, fun b => if b < w.heap.size then col b else none, fun b hb => ⟨?_, (hR b hb).2⟩, fun k sb s hk' hs => ?_⟩
 · show (if b < w.heap.size then col b else none) = none
   split
   · next hl =>
     rcases (hR b hb).1 with h | h
     · exact (hc b h).1
     · omega
   · rfl
 · refine ((h3 k sb s hk' hs).keep hz fun b hb => hk b hb.2.1 fun hr => ?_).more (fun b hb' => ⟨hb'.1, Nat.lt_of_lt_of_le hb'.2.1 hz, ?_⟩) fun b hb' => ⟨hb'.1, hb'.2.1⟩
   · have := (hc b hr).1
     rw [hb.2.2] at this
     cases this
   · show (if b < w.heap.size then col b else none) = some k
     rw [if_pos hb'.2.1]
     exact hb'.2.2
theorem SitesAt.snoc {w w' : World} {base K sb : Nat} {R : Nat → Prop} {s : Lg} {sbs : List Nat} {ss : List Lg} (h : SitesAt w base R sbs ss K) (hs : SiteAt w' w.heap.size (fun b => w.heap.size ≤ b ∧ b < w'.heap.size) sb s K) (hb : Below w.heap.size w w') : SitesAt w' base R (sbs ++ [sb]) (ss ++ [s]) K := by
 obtain ⟨h1, h2, col, hc, h3⟩ := h
 refine ⟨by simp [h1], Nat.le_trans h2 hb.size, fun b => if b < w.heap.size then col b else some sbs.length, fun b hr => ⟨?_, Nat.lt_of_lt_of_le (hc b hr).2 hb.size⟩, fun k sb' s' hk hs' => ?_⟩
 · show (if b < w.heap.size then col b else some sbs.length) = none
   rw [if_pos (hc b hr).2]
   exact (hc b hr).1
 · by_cases hkl : k < sbs.length
   · rw [List.getElem?_append_left hkl] at hk
     rw [List.getElem?_append_left (by omega)] at hs'
     refine ((h3 k sb' s' hk hs').step hb).more (fun b hb' => ⟨hb'.1, Nat.lt_of_lt_of_le hb'.2.1 hb.size, ?_⟩) fun b hb' => ⟨hb'.1, hb'.2.1⟩
     show (if b < w.heap.size then col b else some sbs.length) = some k
     rw [if_pos hb'.2.1, hb'.2.2]
   · have hkk : k = sbs.length := by
      have := (List.getElem?_eq_some_iff.1 hk).1
      rw [List.length_append, List.length_singleton] at this
      omega
     subst hkk
     rw [List.getElem?_append_right (Nat.le_refl _), Nat.sub_self] at hk
     rw [List.getElem?_append_right (by omega), ← h1, Nat.sub_self] at hs'
     cases hk
     cases hs'
     refine (hs.low h2).more (fun b hb' => ⟨Nat.le_trans h2 hb'.1, hb'.2, ?_⟩) fun b hb' => ⟨hb'.1, hb'.2.1⟩
     show (if b < w.heap.size then col b else some sbs.length) = some sbs.length
     rw [if_neg (by omega)]
theorem SitesAt.at_ {w : World} {base K k sb : Nat} {R : Nat → Prop} {s : Lg} {sbs : List Nat} {ss : List Lg} (h : SitesAt w base R sbs ss K) (hk : sbs[k]? = some sb) (hs : ss[k]? = some s) :
 ∃ S, SiteAt w base S sb s K ∧ (∀ b, S b → base ≤ b ∧ ¬ R b) ∧ ∀ (w' : World) (s' : Lg), SiteAt w' base (fun b => Fr w S b ∧ b < w'.heap.size) sb s' (K + 1) → Out S w w' → SitesAt w' base R sbs (ss.set k s') (K + 1) := by
 obtain ⟨h1, h2, col, hc, h3⟩ := h
 refine ⟨_, h3 k sb s hk hs, fun b hb => ⟨hb.1, fun hr => ?_⟩, fun w' s' hn hO => ⟨by rw [List.length_set]; exact h1, Nat.le_trans h2 hO.size, fun b => if b < w.heap.size then col b else some k, fun b hr => ⟨?_, Nat.lt_of_lt_of_le (hc b hr).2 hO.size⟩, fun j sb' s2 hj hs2 => ?_⟩⟩
 · have := (hc b hr).1
   rw [hb.2.2] at this
   cases this
 · show (if b < w.heap.size then col b else some k) = none
   rw [if_pos (hc b hr).2]
   exact (hc b hr).1
 · have hz := hO.size
   by_cases hjk : j = k
   · subst hjk
     rw [hk] at hj
     cases hj
     have hjl : j < ss.length := (List.getElem?_eq_some_iff.1 hs).1
     rw [List.getElem?_set_self hjl] at hs2
     cases hs2
     refine hn.more (fun b hb => ?_) fun b hb => ⟨hb.1, hb.2.1⟩
     rcases hb.1 with h5 | h5
     · refine ⟨h5.1, hb.2, ?_⟩
       show (if b < w.heap.size then col b else some j) = some j
       rw [if_pos h5.2.1]
       exact h5.2.2
     · have h6 : w.heap.size ≤ b := h5
       refine ⟨Nat.le_trans h2 h6, hb.2, ?_⟩
       show (if b < w.heap.size then col b else some j) = some j
       rw [if_neg (by omega)]
   · rw [List.getElem?_set_ne (fun e => hjk e.symm)] at hs2
     refine (((h3 j sb' s2 hj hs2).keep hz fun b hb => hO.block b hb.2.1 fun hc' => hjk (Option.some.inj (hb.2.2.symm.trans hc'.2.2))).more (fun b hb => ⟨hb.1, Nat.lt_of_lt_of_le hb.2.1 hz, ?_⟩) fun b hb => ⟨hb.1, hb.2.1⟩).monoK (Nat.le_succ K)
     show (if b < w.heap.size then col b else some k) = some j
     rw [if_pos hb.2.1]
     exact hb.2.2
theorem SitesAt.one {w : World} {base K k sb : Nat} {R : Nat → Prop} {s : Lg} {sbs : List Nat} {ss : List Lg} (h : SitesAt w base R sbs ss K) (hk : sbs[k]? = some sb) (hs : ss[k]? = some s) : ∃ S, SiteAt w base S sb s K := by
 obtain ⟨S, h, _⟩ := h.at_ hk hs
 exact ⟨S, h⟩
theorem Out.below_ {S : Nat → Prop} {w w' : World} {base : Nat} (h : Out S w w') (hS : ∀ b, S b → base ≤ b) (hb : base ≤ w.heap.size) : Below base w w' :=
 ⟨h.os, h.tape, h.output, h.size, fun k hk => h.block k (Nat.lt_of_lt_of_le hk hb) fun hs => Nat.lt_irrefl _ (Nat.lt_of_lt_of_le hk (hS k hs))⟩
variable {a : Nat → Addr}
theorem sites_issue (w : World) (base sb K k m : Nat) (R S' : Nat → Prop) (sbs : List Nat) (ss : List Lg) (s : Lg) (o : Opn) (h : SitesAt w base R sbs ss K) (hk : sbs[k]? = some sb) (hs : ss[k]? = some s) (hg : s.Gd m) (hm : m ≤ 10000) (hK : K ≤ 100000) (ho : o.In) (hS : Sents w S' a) (hlow : ∀ b, S' b → b < base) :
 Calls Tryz.prog 36 #[.pointer (some ⟨sb, 0, none⟩), o.agg] w fun e w' => e = .returned (.tuple #[(s.issued o).agg, .bool true]) ∧ SitesAt w' base R sbs (ss.set k (s.issueOf o)) (K + 1) ∧ Below base w w' ∧ Same R w w' := by
 obtain ⟨S, h1, h2, h3⟩ := h.at_ hk hs
 refine (site_issue (a := a) w base sb K S S' s o h1 (hg.snd.fine (by omega) (by omega)) ho (hg.snd.ck (by omega)) hS hlow).mono ?_
 rintro e w' ⟨rfl, h4, h5⟩
 exact ⟨rfl, h3 w' _ h4 h5, h5.below_ (fun b hb => (h2 b hb).1) h.2.1, fun b hb hl => h5.block b hl fun hc => (h2 b hc).2 hb⟩
theorem sites_take (w : World) (base sb K k m : Nat) (R S' : Nat → Prop) (sbs : List Nat) (ss : List Lg) (s : Lg) (x : Actn) (h : SitesAt w base R sbs ss K) (hk : sbs[k]? = some sb) (hs : ss[k]? = some s) (hg : s.Gd m) (hm : m ≤ 10000) (hK : K ≤ 100000) (hx : x.In) (hS : Sents w S' a) (hlow : ∀ b, S' b → b < base) :
 Calls Tryz.prog 32 #[.pointer (some ⟨sb, 0, none⟩), x.agg] w fun e w' => e = .returned (.bool true) ∧ SitesAt w' base R sbs (ss.set k (s.takeOf x)) (K + 1) ∧ Below base w w' ∧ Same R w w' := by
 obtain ⟨S, h1, h2, h3⟩ := h.at_ hk hs
 refine (site_take (a := a) w base sb K S S' s x h1 (hg.snd.fine (by omega) (by omega)) hx hS hlow).mono ?_
 rintro e w' ⟨rfl, h4, h5⟩
 exact ⟨rfl, h3 w' _ h4 h5, h5.below_ (fun b hb => (h2 b hb).1) h.2.1, fun b hb hl => h5.block b hl fun hc => (h2 b hc).2 hb⟩
def wk0 : Lg := newLg 5 []
def wkO (c r : Int) : Opn := ⟨1, 0, c, r⟩
def wkA : Lg := wk0.issueOf (wkO 97 0)
def wkB : Lg := wk0.issueOf (wkO 98 1)
def wkX : Actn := wk0.issued (wkO 97 0)
def wkY : Actn := wk0.issued (wkO 98 1)
theorem wk_viewA : (viewOf (wkA.takeOf wkY).l).toArray = #[97, 98] := by decide +kernel
theorem wk_viewB : (viewOf (wkB.takeOf wkX).l).toArray = #[97, 98] := by decide +kernel
theorem wk_len : (wkA.takeOf wkY).l.length ≤ 536870912 ∧ (wkB.takeOf wkX).l.length ≤ 536870912 := by decide +kernel
theorem wk0_gd : wk0.Gd 0 := new8_gd [] 0 (by decide)
theorem I64.zero : I64 0 := ⟨by decide, by decide⟩
theorem I64.one : I64 1 := ⟨by decide, by decide⟩
theorem wkO_in {c r : Int} (hc : I32 c) (hr : I64 r) : (wkO c r).In := ⟨I64.one, I64.zero, hc, hr⟩
theorem wkX_in : wkX.In ∧ wkY.In := by
 have hX : wkX = ⟨wkO 97 0, 1, Clk.zero⟩ := by decide +kernel
 have hY : wkY = ⟨wkO 98 1, 1, Clk.zero⟩ := by decide +kernel
 have hz : Clk.zero.In := fun r hr => by rw [Clk.get_zero]; exact I64.zero
 rw [hX, hY]
 exact ⟨⟨wkO_in ⟨by decide, by decide⟩ ⟨by decide, by decide⟩, ⟨by decide, by decide⟩, hz⟩, ⟨wkO_in ⟨by decide, by decide⟩ ⟨by decide, by decide⟩, ⟨by decide, by decide⟩, hz⟩⟩
theorem Blk.sameR {R : Nat → Prop} {w w' : World} {g : Nat} {t : TypeId} {cs : Array Value} (h : Blk w g t cs) (hs : Same R w w') (hR : R g) : Blk w' g t cs := (hs g hR h.lt).trans h
theorem SitesAt.box {w : World} {base K : Nat} {R : Nat → Prop} {sbs : List Nat} {ss : List Lg} (h : SitesAt w base R sbs ss K) (o : Obj) : SitesAt (w.alloc o) base (fun b => R b ∨ b = w.heap.size) sbs ss K := by
 have hz : (w.alloc o).heap.size = w.heap.size + 1 := Array.size_push _
 have hR := h
 obtain ⟨_, _, col, hc, _⟩ := hR
 refine h.keep (by omega) (fun b hb _ => Below.heap_alloc _ _ _ hb) fun b hb => ?_
 rcases hb with hb | hb
 · exact ⟨.inl hb, by have := (hc b hb).2; omega⟩
 · exact ⟨.inr (by omega), by omega⟩
theorem wakes8_any (w : World) (S' : Nat → Prop) (hs : Sents w S' a) (hlow : ∀ b, S' b → b < w.heap.size) : Calls Tryz.prog 18 #[] w fun e w' => e = .returned (.bool true) ∧ Below w.heap.size w w' := by
 have Hs := hid hs
 have Hlow := hid hlow
 have HBG := hid (fun W => begun8_any W none 0 0 [] (fun _ => True) (Row.nil _ _ _ _ (Nat.zero_le _)) (by omega) (fun k e h => by cases h) (fun e h => absurd h List.not_mem_nil))
 clear hs hlow
 go_enter Tryz.func18, Tryz.ntmps18
 repeat' (first | (go_at_call 34; go_must (first | (guard_hyp H1; (with_reducible refine Calls.mono (HBG.out w1) ?_); rintro _ w2 ⟨sb, rfl, hS2, hb2⟩; have H2 := hid (H1.out.snoc hS2 hb2); have B2 := bvia hb1 hb2; clear hS2; dsimp only) | ((with_reducible refine Calls.mono (HBG.out w) ?_); rintro _ w1 ⟨sa, rfl, hS1, hb1⟩; have H1 := hid ((SitesAt.nil w w.heap.size (Nat.le_refl _) 0).snoc hS1 hb1); clear hS1; dsimp only))) | (with_reducible refine stop_region 4 ?_) | go_guarded | go_step)
 refine Stop.go ?_
 obtain ⟨P, hP⟩ : ∃ P, P = wkX := ⟨_, rfl⟩
 obtain ⟨Q, hQ⟩ : ∃ Q, Q = wkY := ⟨_, rfl⟩
 have hPI : P.In := by rw [hP]; exact wkX_in.1
 have hQI : Q.In := by rw [hQ]; exact wkX_in.2
 have hA0 : (wkA).Gd 1 := wk0_gd.issue (by omega) (wkO_in ⟨by decide, by decide⟩ ⟨by decide, by decide⟩)
 have hB0 : (wkB).Gd 1 := wk0_gd.issue (by omega) (wkO_in ⟨by decide, by decide⟩ ⟨by decide, by decide⟩)
 have HI1 : Hid (Calls Tryz.prog 36 #[.pointer (some ⟨sa, 0, none⟩), .agg #[.int .i64 1, .int .i64 0, .int .i32 97, .int .i64 0]] w2 fun e w' => e = .returned (.tuple #[P.agg, .bool true]) ∧ SitesAt w' w.heap.size (fun _ => False) [sa, sb] [wkA, wk0] 1 ∧ Below w.heap.size w2 w' ∧ Same (fun _ => False) w2 w') := hid (by
  rw [hP]
  exact sites_issue (a := a) w2 w.heap.size sa 0 0 0 (fun _ => False) S' [sa, sb] [wk0, wk0] wk0 (wkO 97 0) H2.out rfl rfl wk0_gd (by omega) (by omega) (wkO_in ⟨by decide, by decide⟩ ⟨by decide, by decide⟩) (Hs.out.step B2) Hlow.out)
 have HP := hid hP
 have HQ := hid hQ
 have HPI := hid hPI
 have HQI := hid hQI
 have HA0 := hid hA0
 have HB0 := hid hB0
 simp only [Actn.agg] at HI1
 unfold Actn.vals at HI1
 clear hP hQ hPI hQI hA0 hB0 H1 H2 hb1 hb2
 repeat' (first | (go_at_call 36; go_must ((with_reducible refine Calls.mono HI1.out ?_); rintro _ w3 ⟨rfl, hS3, hB3, -⟩; have HS3 := hid hS3; clear hS3; dsimp only)) | (with_reducible refine stop_region 5 ?_) | go_step)
 refine Stop.go ?_
 have hp3 := Blk.new w3 46 #[.int .i64 P.op.kind, .int .i64 P.op.at_, .int .i32 P.op.char, .int .i64 P.op.rep, .int .i64 P.num, .int .i64 P.clk.c0, .int .i64 P.clk.c1, .int .i64 P.clk.c2, .int .i64 P.clk.c3, .int .i64 P.clk.c4, .int .i64 P.clk.c5, .int .i64 P.clk.c6, .int .i64 P.clk.c7]
 have HS4 := hid (HS3.out.box (.cells #[.int .i64 P.op.kind, .int .i64 P.op.at_, .int .i32 P.op.char, .int .i64 P.op.rep, .int .i64 P.num, .int .i64 P.clk.c0, .int .i64 P.clk.c1, .int .i64 P.clk.c2, .int .i64 P.clk.c3, .int .i64 P.clk.c4, .int .i64 P.clk.c5, .int .i64 P.clk.c6, .int .i64 P.clk.c7] 46))
 have B4 : Below w.heap.size w (w3.alloc (.cells #[.int .i64 P.op.kind, .int .i64 P.op.at_, .int .i32 P.op.char, .int .i64 P.op.rep, .int .i64 P.num, .int .i64 P.clk.c0, .int .i64 P.clk.c1, .int .i64 P.clk.c2, .int .i64 P.clk.c3, .int .i64 P.clk.c4, .int .i64 P.clk.c5, .int .i64 P.clk.c6, .int .i64 P.clk.c7] 46)) := balloc (B2.trans hB3)
 clear HS3 HI1
 generalize w3.alloc (.cells #[.int .i64 P.op.kind, .int .i64 P.op.at_, .int .i32 P.op.char, .int .i64 P.op.rep, .int .i64 P.num, .int .i64 P.clk.c0, .int .i64 P.clk.c1, .int .i64 P.clk.c2, .int .i64 P.clk.c3, .int .i64 P.clk.c4, .int .i64 P.clk.c5, .int .i64 P.clk.c6, .int .i64 P.clk.c7] 46) = X at *
 generalize w3.heap.size = g3 at *
 have HI2 : Hid (Calls Tryz.prog 36 #[.pointer (some ⟨sb, 0, none⟩), .agg #[.int .i64 1, .int .i64 0, .int .i32 98, .int .i64 1]] X fun e w' => e = .returned (.tuple #[Q.agg, .bool true]) ∧ SitesAt w' w.heap.size (fun b => False ∨ b = g3) [sa, sb] [wkA, wkB] 2 ∧ Below w.heap.size X w' ∧ Same (fun b => False ∨ b = g3) X w') := hid (by
  rw [HQ.out]
  exact sites_issue (a := a) X w.heap.size sb 1 1 0 _ S' [sa, sb] [wkA, wk0] wk0 (wkO 98 1) HS4.out rfl rfl wk0_gd (by omega) (by omega) (wkO_in ⟨by decide, by decide⟩ ⟨by decide, by decide⟩) (Hs.out.step B4) Hlow.out)
 simp only [Actn.agg] at HI2
 unfold Actn.vals at HI2
 have HP3 := hid hp3
 clear hp3 hB3
 repeat' (first | (go_at_call 36; go_must ((with_reducible refine Calls.mono HI2.out ?_); rintro _ w5 ⟨rfl, hS5, hB5, hR5⟩; have HS5 := hid hS5; clear hS5; have HP5 := hid (HP3.out.sameR hR5 (.inr rfl)); dsimp only)) | (with_reducible refine stop_region 6 ?_) | go_step)
 refine Stop.go ?_
 have hp6 := Blk.new w5 46 #[.int .i64 Q.op.kind, .int .i64 Q.op.at_, .int .i32 Q.op.char, .int .i64 Q.op.rep, .int .i64 Q.num, .int .i64 Q.clk.c0, .int .i64 Q.clk.c1, .int .i64 Q.clk.c2, .int .i64 Q.clk.c3, .int .i64 Q.clk.c4, .int .i64 Q.clk.c5, .int .i64 Q.clk.c6, .int .i64 Q.clk.c7]
 have HS6 := hid (HS5.out.box (.cells #[.int .i64 Q.op.kind, .int .i64 Q.op.at_, .int .i32 Q.op.char, .int .i64 Q.op.rep, .int .i64 Q.num, .int .i64 Q.clk.c0, .int .i64 Q.clk.c1, .int .i64 Q.clk.c2, .int .i64 Q.clk.c3, .int .i64 Q.clk.c4, .int .i64 Q.clk.c5, .int .i64 Q.clk.c6, .int .i64 Q.clk.c7] 46))
 have B6 : Below w.heap.size w (w5.alloc (.cells #[.int .i64 Q.op.kind, .int .i64 Q.op.at_, .int .i32 Q.op.char, .int .i64 Q.op.rep, .int .i64 Q.num, .int .i64 Q.clk.c0, .int .i64 Q.clk.c1, .int .i64 Q.clk.c2, .int .i64 Q.clk.c3, .int .i64 Q.clk.c4, .int .i64 Q.clk.c5, .int .i64 Q.clk.c6, .int .i64 Q.clk.c7] 46)) := balloc (B4.trans hB5)
 have HP6 := hid (HP5.out.step (balloc (o := .cells #[.int .i64 Q.op.kind, .int .i64 Q.op.at_, .int .i32 Q.op.char, .int .i64 Q.op.rep, .int .i64 Q.num, .int .i64 Q.clk.c0, .int .i64 Q.clk.c1, .int .i64 Q.clk.c2, .int .i64 Q.clk.c3, .int .i64 Q.clk.c4, .int .i64 Q.clk.c5, .int .i64 Q.clk.c6, .int .i64 Q.clk.c7] 46) (Below.refl _ _)))
 clear HS5 HI2 hB5 hR5 HP5 HP3 HS4 B4
 generalize w5.alloc (.cells #[.int .i64 Q.op.kind, .int .i64 Q.op.at_, .int .i32 Q.op.char, .int .i64 Q.op.rep, .int .i64 Q.num, .int .i64 Q.clk.c0, .int .i64 Q.clk.c1, .int .i64 Q.clk.c2, .int .i64 Q.clk.c3, .int .i64 Q.clk.c4, .int .i64 Q.clk.c5, .int .i64 Q.clk.c6, .int .i64 Q.clk.c7] 46) = Y at *
 generalize w5.heap.size = g5 at *
 obtain ⟨x0, x1, x2, x3, x4, x5, x6, x7, x8, x9, xa, xb, xc⟩ := cl13 (w := Y) (g := g5) hp6; have xl := (hp6).lt
 have HT1 := hid (sites_take (a := a) Y w.heap.size sa 2 0 1 _ S' [sa, sb] [wkA, wkB] wkA Q HS6.out rfl rfl HA0.out (by omega) (by omega) HQI.out (Hs.out.step B6) Hlow.out)
 simp only [Actn.agg] at HT1
 unfold Actn.vals at HT1
 clear hp6
 repeat' (first | (go_at_call 32; go_must (first | (guard_hyp HT2; (with_reducible refine Calls.mono HT2.out ?_); rintro _ w8 ⟨rfl, hS8, hB8, -⟩; have hS8 : SitesAt w8 w.heap.size _ [sa, sb] [wkA.takeOf Q, wkB.takeOf P] 4 := hS8; have B8 := B7.trans hB8; obtain ⟨SA, ga, ra, T1, T2, hsa, hla, -⟩ := hS8.one (k := 0) (sb := sa) (s := wkA.takeOf Q) rfl rfl; obtain ⟨SB, gb, rb, U1, U2, hsb, hlb, -⟩ := hS8.one (k := 1) (sb := sb) (s := wkB.takeOf P) rfl rfl; have HM1 := hid (hmodel_any w8 _ ga _ _ hla); have s0 : w8.cell? ⟨sa, 0, none⟩ = some (.pointer (some ⟨ga, 0, none⟩)) := hsa.cell 0; have sl0 := hsa.lt; have Hlb := hid hlb; have Hsb := hid hsb; clear hsa hla hlb hsb hB8 hS8; dsimp only) | ((with_reducible refine Calls.mono HT1.out ?_); rintro _ w7 ⟨rfl, hS7, hB7, hR7⟩; have hp7 := HP6.out.sameR hR7 (.inl (.inr rfl)); obtain ⟨y0, y1, y2, y3, y4, y5, y6, y7, y8, y9, ya, yb, yc⟩ := cl13 (w := w7) (g := g3) hp7; have yl := (hp7).lt; have B7 := B6.trans hB7; have HT2 := hid (sites_take (a := a) w7 w.heap.size sb 3 1 1 _ S' [sa, sb] [wkA.takeOf Q, wkB] wkB P hS7 rfl rfl HB0.out (by omega) (by omega) HPI.out (Hs.out.step B7) Hlow.out); simp only [Actn.agg] at HT2; unfold Actn.vals at HT2; clear hp7 hS7 hR7 hB7; dsimp only))) | (go_at_call 20; go_must (first | (guard_hyp HM2; (with_reducible refine Calls.mono HM2.out ?_); rintro _ _ ⟨⟨mb2, rfl, hm2⟩, rfl⟩; have HV2 := hid (view_any w9 _ mb2 _ _ hm2 (by rw [HP.out]; exact wk_len.2)); rw [show (viewOf (wkB.takeOf P).l).toArray = #[97, 98] from by rw [HP.out]; exact wk_viewB] at HV2; dsimp only) | ((with_reducible refine Calls.mono HM1.out ?_); rintro _ _ ⟨⟨mb1, rfl, hm1⟩, rfl⟩; have HV1 := hid (view_any w8 _ mb1 _ _ hm1 (by rw [HQ.out]; exact wk_len.1)); rw [show (viewOf (wkA.takeOf Q).l).toArray = #[97, 98] from by rw [HQ.out]; exact wk_viewA] at HV1; dsimp only))) | (go_at_call 45; go_must (first | (guard_hyp HV2; (with_reducible refine Calls.mono HV2.out ?_); rintro _ w10 ⟨rfl, hb10⟩; dsimp only) | ((with_reducible refine Calls.mono HV1.out ?_); rintro _ w9 ⟨rfl, hb9⟩; have HM2 := hid (hmodel_any w9 _ gb _ _ (Hlb.out.step hb9)); have s2 : w9.cell? ⟨sb, 0, none⟩ = some (.pointer (some ⟨gb, 0, none⟩)) := (Hsb.out.step hb9).cell 0; have sl2 := (Hsb.out.step hb9).lt; dsimp only))) | go_guarded | go_step)
 go_ret
 exact ⟨rfl, bvia (bvia B8 hb9) hb10⟩
end Go.Proofs.YteggpddlkkjmjaaGreatDoor
