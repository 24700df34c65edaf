/- Part of a proof: what functions of the program compute. Conditions: as each theorem says. -/
import Derived.Maps.RangeWalk
import Derived.Test.YteggpddlkkjmjaaGreatDoorQ3
import Derived.Test.YteggpddlkkjmjaaGreatDoorQ9
set_option linter.unusedSimpArgs false
set_option linter.unusedVariables false
set_option maxHeartbeats 4000000
set_option maxRecDepth 50000
namespace Go.Proofs.YteggpddlkkjmjaaGreatDoor
open Go Go.RowKit
theorem Own.other {w w' : World} {base : Nat} {A : Option Addr} {n c : Nat} {es : List El} (h : Own w base A n c es) (hs : Same (fun k => ∀ g, A = some g → g.block ≠ k) w w') {b : Nat} {o : Obj} (hb : w.heap[b]? = some o) (ho : ∀ cs z, o ≠ .cells cs 113 z) :
 w'.heap[b]? = some o := by
 refine (hs b (fun g hg e => ?_) (lt_of_heap hb)).trans hb
 rcases h.2.2 with h0 | ⟨g', cap, cur, e', hbg, hh, r⟩
 · injection h0.1 with h0
   rw [hg] at h0
   cases h0
 · injection e' with e1 e2 e3
   rw [hg] at e1
   injection e1 with e1
   subst e1
   subst e
   rw [hh] at hb
   injection hb with hb
   exact ho _ _ hb.symm
theorem mem_ins (l : List El) (i : Nat) (e : El) (j : Nm) : j ∈ e.nm :: l.map El.nm ↔ j ∈ (l.take i ++ e :: l.drop i).map El.nm := by
 have hp : (l.take i ++ e :: l.drop i).Perm (e :: l) := by
  have := List.perm_middle (a := e) (l₁ := l.take i) (l₂ := l.drop i)
  rwa [List.take_append_drop] at this
 rw [(hp.map El.nm).mem_iff]
 rfl
theorem minsert_ok (w : World) (S : Nat → Prop) (mb : Nat) (l : List El) (K i : Nat) (e : El) (h : Mdl w S mb l K) (hl : l.length ≤ 536870912) (hK : K ≤ 1099511627776) (hi : i ≤ l.length) (hg : e.Good) (hn : e.nm ∉ l.map El.nm) :
 Calls Tryz.prog 134 #[.pointer (some ⟨mb, 0, none⟩), .int .i64 i, .agg #[.int .i64 e.epoch, .int .i64 e.rep, .int .i64 e.num, .int .i32 e.char, .int .i64 e.hides]] w fun r w' => r = .returned .nilIface ∧ Mdl w' (Fr w S) mb (l.take i ++ e :: l.drop i) (K + 1) ∧ Out S w w' := by
 have b1 : Below w.heap.size w (w.alloc (.cells #[.int .i64 e.epoch, .int .i64 e.rep, .int .i64 e.num, .int .i32 e.char, .int .i64 e.hides] 113)) := (Below.refl _ _).alloc (Nat.le_refl _) _
 have hx1 := Blk.new w 113 #[.int .i64 e.epoch, .int .i64 e.rep, .int .i64 e.num, .int .i32 e.char, .int .i64 e.hides]
 have HL := hid (mlen_any _ S mb l K (h.step b1))
 have HW := hid (fun W => within_ok i l.length W (by omega) (by omega))
 obtain ⟨gt, gm, p, T, h1, h2, h3, rfl, h5, h6, h7, h8, h9⟩ := h
 have HT := hid (takes_ok e _ mb gt gm _ K (h1.step b1) (h5.heap (b1.block _ h5.lt)) hg hn)
 have Hk := hid (And.intro (h1.step b1) (And.intro (h2.step b1) (And.intro (h3.step b1) (h5.heap (b1.block _ h5.lt)))))
 have h0 := h1.lt
 have Ho := hid (And.intro h1 (And.intro h2 (And.intro h5 h9)))
 have hn' := hid hn
 clear h1 h2 h3 h5 h9 hn
 go_enter Tryz.func134, Tryz.ntmps134
 repeat' (first | (go_at_call 43; go_must ((with_reducible refine Calls.mono HL.out ?_); rintro _ _ ⟨rfl, rfl⟩; dsimp only)) | (go_at_call 150; go_must ((with_reducible refine Calls.mono (HW.out _) ?_); rintro _ _ ⟨rfl, rfl⟩; dsimp only)) | (go_at_call 93; go_must ((with_reducible refine Calls.mono HT.out ?_); rintro _ w3 ⟨rfl, hb3⟩; dsimp only)) | (with_reducible refine stop_region 6 ?_) | go_step)
 refine Stop.go ?_
 have k1 := Hk.out.1.step hb3
 have k2 := Hk.out.2.1.step hb3
 have k3 := Hk.out.2.2.1.step hb3
 have kx := hx1.step hb3
 obtain ⟨w4, hrun, hI4, hT4⟩ := ((Hk.out.2.2.2.heap (hb3.block _ Hk.out.2.2.2.lt)).drew).put e.nm hg.nm (by omega)
 have hB4 := But.of_turned hT4
 have e1 := Hk.out.2.2.2.ne_blk Hk.out.1
 have e2 := Hk.out.2.2.2.ne_blk Hk.out.2.1
 have e3 := Hk.out.2.2.2.ne_blk hx1
 have j1 := hB4.blk k1.drew e1
 have j2 := hB4.blk k2.drew e2
 have jx := hB4.blk kx.drew e3
 have j3 : IsTree w4 (fun b => S b ∧ b ≠ gt) T p := (((k3.drew).strict).keep (S := fun b => (S b ∧ b ≠ gt) ∧ Big w3.drew b) fun b hb hl => hB4.block b hl (fun e => by
  subst e
  obtain ⟨cs, u, z, hc, _⟩ := hb.2
  obtain ⟨n, D, ⟨es, clock, hm, _⟩, _⟩ := Hk.out.2.2.2.heap (w' := w3.drew) (hb3.block _ Hk.out.2.2.2.lt)
  rw [hm] at hc
  cases hc)).more fun b _ h => h.1
 have m1 := k1.cell 1
 have x0 := kx.cell 0
 have x1 := kx.cell 1
 have x2 := kx.cell 2
 simp at m1 x0 x1 x2
 simp only [Nm.val, El.nm] at hrun
 have HI4 := hid (And.intro hI4 (And.intro hT4 hB4))
 clear hI4 hT4 hB4
 repeat' (first | ((with_reducible refine region_at 6 ?_); refine wp_region_order (rgl [0,4,8,12,16,20,24,28,35]) (by kernel_rfl) (by kernel_rfl) (by kernel_rfl) rfl rfl ?_) | (with_reducible refine stop_region 7 ?_) | (with_reducible refine Keep.last ?_) | ((with_reducible refine WpH.here ?_); first | (refine WpH.nil ?_; refine NoP.normal ?_) | ((first | refine WpH.load (by rfl) (by rfl) (by go_simp; rfl) ?_ | refine WpH.pure (by rfl) (fun w_ => by go_simp; (try go_bits); rfl) ?_); go_frame) | (refine WpH.wild1 (by rfl) (fun _ _ => ?_))) | go_step)
 refine Stop.go ?_
 have s3 := Nat.le_trans b1.size hb3.size
 have e4 : Below w4.heap.size w4 ((w4.alloc (.cells #[.int .i64 e.epoch, .int .i64 e.rep, .int .i64 e.num, .int .i32 e.char, .int .i64 e.hides] 113)).drew) := ((Below.refl _ _).alloc (Nat.le_refl _) _).drew
 have s4 : (w4.alloc (.cells #[.int .i64 e.epoch, .int .i64 e.rep, .int .i64 e.num, .int .i32 e.char, .int .i64 e.hides] 113)).drew.heap.size = w4.heap.size + 1 := Array.size_push _
 have HI := hid (insert_ok T p gt 64 i (some ⟨w4.heap.size, 0, none⟩) 1 1 [e] (fun b => S b ∧ b ≠ gt) (fun _ => True) _ (j2.step e4) (j3.step e4) (fun h => h.2 rfl) (Row.one w4 e).drew (by omega) hi (by decide) (by decide))
 have t1 : mb ≠ gt := j1.ne j2 (by decide)
 have t2 : w.heap.size ≠ gt := jx.ne j2 (by decide)
 have q1 : w4.drew.heap[mb]? = some (.cells #[.pointer (some ⟨gt, 0, none⟩), .map (some gm)] 110 (0, 0)) := j1
 have q2 : w4.drew.heap[w.heap.size]? = some (.cells #[.int .i64 e.epoch, .int .i64 e.rep, .int .i64 e.num, .int .i32 e.char, .int .i64 e.hides] 113 (0, 0)) := jx
 have m0 := j1.cell 0
 have y0 := jx.cell 0
 have y1 := jx.cell 1
 have y2 := jx.cell 2
 have y3 := jx.cell 3
 have y4 := jx.cell 4
 simp at m0 y0 y1 y2 y3 y4
 have hgl := j2.lt
 clear m1 x0 x1 x2 hrun
 repeat' (first | ((with_reducible refine region_at 7 ?_); refine wp_region_orderT (fun b => b ≠ gt) (rgl [0,4,8,12,16,20,24,29,33,36]) (by kernel_rfl) (by kernel_rfl) (by kernel_rfl) rfl rfl ?_) | (with_reducible refine Keep.allocD ?_) | (go_at_call 94; go_must ((with_reducible refine Calls.mono HI.out ?_); rintro _ w5 ⟨p5, T5, rfl, hT5, hb5, ⟨hq5, _⟩, hB5⟩; have hq5' := hid hq5; clear hq5; have hk5 : KeepT (fun b => b ≠ gt) _ w5 := ⟨hB5.size, fun b hl hb => hB5.block b hl hb⟩; dsimp only)) | (with_reducible refine Keep.kept (by assumption) ?_) | ((with_reducible refine WpH.here ?_); first | (refine WpH.nil ?_; refine NoP.normal ?_) | ((first | refine WpH.loadT (by rfl) (by rfl) (by go_simp; rfl) (by rintro _ _ ⟨⟩; exact ⟨_, _, _, _, _, _, by rfl, by assumption, by assumption⟩) ?_ | refine WpH.pure (by rfl) (fun w_ => by go_simp; (try go_bits); rfl) ?_); go_frame) | (refine WpH.wild1 (by rfl) (fun _ _ => ?_))) | go_step)
 go_ret
 have hO : Out S w w5 := ((((Out.of_below (b1.trans (hb3.mono b1.size))).trans (Out.drew (S := S)) (fun _ _ h => h)).trans (Out.of_but HI4.out.2.2 h8) (fun _ _ h => h)).trans (Out.of_below (S := S) e4) (fun _ _ h => h)).trans (Out.of_but hB5 h7) (fun _ _ h => h)
 have hz4 : w.heap.size ≤ w4.heap.size := Nat.le_trans s3 HI4.out.2.2.size
 have hgm : gm ≠ gt := fun e' => (HI4.out.1.ne_blk j2) e'.symm
 refine ⟨rfl, ⟨gt, gm, p5, T5, hB5.blk (j1.step e4) t1, hb5, hT5.more (fun b _ h => ?_), by rw [hq5'.out]; simp, ((HI4.out.1.heap (e4.block _ HI4.out.1.lt)).heap (hB5.block _ (Nat.lt_of_lt_of_le HI4.out.1.lt e4.size) hgm)).eq fun j => ?_, .inl h6, .inl h7, .inl h8, ?_⟩, hO⟩
 · rcases h with h | h
   · exact ⟨.inl h.1, h.2⟩
   · rw [s4] at h
     exact ⟨.inr (by omega), by omega⟩
 · exact mem_ins T.all i e j
 · intro x hx
   simp only [List.mem_append, List.mem_cons] at hx
   rcases hx with hx | rfl | hx
   · exact Ho.out.2.2.2 x (List.mem_of_mem_take hx)
   · exact hg
   · exact Ho.out.2.2.2 x (List.mem_of_mem_drop hx)
structure Opn where
 kind : Int
 at_ : Int
 char : Int
 rep : Int
deriving DecidableEq
def Opn.agg (o : Opn) : Value := .agg #[.int .i64 o.kind, .int .i64 o.at_, .int .i32 o.char, .int .i64 o.rep]
def I32 (n : Int) : Prop := -2147483648 ≤ n ∧ n ≤ 2147483647
structure Opn.In (o : Opn) : Prop where
 kind : I64 o.kind
 at_ : I64 o.at_
 char : I32 o.char
 rep : I64 o.rep
def moves (a b : Opn) : Bool :=
 if b.kind ≠ 1 ∨ a.at_ = 9223372036854775807 then false
 else if a.kind = 1 then decide (b.at_ < a.at_ ∨ b.at_ = a.at_ ∧ b.rep ≤ a.rep)
 else if a.kind = 2 ∨ a.kind = 3 then decide (b.at_ ≤ a.at_)
 else false
def Tof (a b : Opn) : Opn := if moves a b then { a with at_ := a.at_ + 1 } else a
theorem moves_any (a b : Opn) (w : World) : Calls Tryz.prog 142 #[a.agg, b.agg] w fun e w' => e = .returned (.bool (moves a b)) ∧ Below w.heap.size w w' := by
 unfold Opn.agg
 go_enter Tryz.func142, Tryz.ntmps142
 repeat' (first | go_skip | go_guarded | go_step)
 all_goals
  go_ret
  refine ⟨congrArg (fun x => Ending.returned (.bool x)) ?_, ((Below.refl _ _).alloc (Nat.le_refl _) _).alloc (by simp) _⟩
  try simp only [beq_iff_eq, beq_eq_false_iff_ne, ne_eq] at *
  unfold moves
  first
   | (simp_all; done)
   | (simp_all; omega)
   | (go_goals; fail)
theorem moves_max {a b : Opn} (h : moves a b = true) : a.at_ ≠ 9223372036854775807 := by
 intro e
 unfold moves at h
 rw [if_pos (.inr e)] at h
 cases h
def opCells (a : Opn) : Array Value := #[.int .i64 a.kind, .int .i64 a.at_, .int .i32 a.char, .int .i64 a.rep]
theorem three_boxes (w : World) (t : TypeId) (x y z : Array Value) : let W := ((w.alloc (.cells x t)).alloc (.cells y t)).alloc (.cells z t)
 Blk W w.heap.size t x ∧ Blk W (w.heap.size + 1) t y ∧ Blk W (w.heap.size + 1 + 1) t z ∧ Below w.heap.size w W := by
 intro W
 have s1 : (w.alloc (.cells x t)).heap.size = w.heap.size + 1 := Array.size_push _
 have s2 : ((w.alloc (.cells x t)).alloc (.cells y t)).heap.size = w.heap.size + 1 + 1 := by rw [← s1]; exact Array.size_push _
 refine ⟨((Blk.new w t x).alloc _).alloc _, ?_, ?_, (((Below.refl _ _).alloc (Nat.le_refl _) _).alloc (by omega) _).alloc (by omega) _⟩
 · have := (Blk.new (w.alloc (.cells x t)) t y).alloc (.cells z t)
   rw [s1] at this
   exact this
 · have := Blk.new ((w.alloc (.cells x t)).alloc (.cells y t)) t z
   rw [s2] at this
   exact this
theorem T_any (a b : Opn) (w : World) (ha : a.In) : Calls Tryz.prog 114 #[a.agg, b.agg] w fun e w' => e = .returned (Tof a b).agg ∧ Below w.heap.size w w' := by
 obtain ⟨hA, hB, hZ, hW⟩ := three_boxes w 37 (opCells a) (opCells b) #[.int .i64 0, .int .i64 0, .int .i32 0, .int .i64 0]
 have HM := hid (fun W => moves_any a b W)
 unfold Opn.agg at HM ⊢
 unfold opCells at hA hB hW hZ
 have h1 := ha.at_.1
 have h2 := ha.at_.2
 have hs := hW.size
 by_cases hm : moves a b = true
 · have h3 := moves_max hm
   have h4 : a.at_ + 1 ≤ 9223372036854775807 := by omega
   rw [hm] at HM
   clear h3
   go_enter Tryz.func114, Tryz.ntmps114
   repeat' (first | (go_at_call 142; go_must ((with_reducible refine Calls.mono (HM.out _) ?_); rintro _ W1 ⟨rfl, hb1⟩; have hA1 := hA.step hb1; have hZ1 := hZ.step hb1; obtain ⟨a0, a1, a2, a3, f0, f1, f2, f3, fl⟩ := hA1.four; obtain ⟨z0, z1, z2, z3, g0, g1, g2, g3, gl⟩ := hZ1.four; dsimp only)) | go_step)
   have hbb := hW.trans (hb1.mono hs)
   refine bodyPost_ret (v := .agg #[.int .i64 a.kind, .int .i64 (a.at_ + 1), .int .i32 a.char, .int .i64 a.rep]) (by simp [results, Tryz.results114, go_sem, z0, z1, z2, z3]) rfl ⟨by simp [Tof, hm], ?_⟩
   (repeat (refine Below.setCell ?_ (by first | exact Nat.le_refl _ | exact Nat.le_succ _ | exact Nat.le_trans (Nat.le_succ _) (Nat.le_succ _)) _)); exact hbb
 · have hm' : moves a b = false := by simpa using hm
   rw [hm'] at HM
   go_enter Tryz.func114, Tryz.ntmps114
   repeat' (first | (go_at_call 142; go_must ((with_reducible refine Calls.mono (HM.out _) ?_); rintro _ W1 ⟨rfl, hb1⟩; have hA1 := hA.step hb1; have hZ1 := hZ.step hb1; obtain ⟨a0, a1, a2, a3, f0, f1, f2, f3, fl⟩ := hA1.four; obtain ⟨z0, z1, z2, z3, g0, g1, g2, g3, gl⟩ := hZ1.four; dsimp only)) | go_step)
   have hbb := hW.trans (hb1.mono hs)
   refine bodyPost_ret (v := .agg #[.int .i64 a.kind, .int .i64 a.at_, .int .i32 a.char, .int .i64 a.rep]) (by simp [results, Tryz.results114, go_sem, z0, z1, z2, z3]) rfl ⟨by simp [Tof, hm], ?_⟩
   (repeat (refine Below.setCell ?_ (by first | exact Nat.le_refl _ | exact Nat.le_succ _ | exact Nat.le_trans (Nat.le_succ _) (Nat.le_succ _)) _)); exact hbb
theorem refT_any (a b : Opn) (w : World) (ha : a.In) : Calls Tryz.prog 53 #[a.agg, b.agg] w fun e w' => e = .returned (Tof a b).agg ∧ Below w.heap.size w w' := by
 obtain ⟨hA, hB, hZ, hW⟩ := three_boxes w 37 (opCells a) (opCells b) #[.int .i64 0, .int .i64 0, .int .i32 0, .int .i64 0]
 unfold Opn.agg
 unfold opCells at hA hB hW hZ
 have h1 := ha.at_.1
 have h2 := ha.at_.2
 have HW := hid hW
 have HT : Hid (∀ X, moves a b = X → Tof a b = if X then { a with at_ := a.at_ + 1 } else a) := hid (fun X h => by rw [← h]; rfl)
 clear hA hB hZ hW
 have hmx : a.at_ < 9223372036854775807 ∨ a.at_ = 9223372036854775807 := by omega
 rcases hmx with hmx | hmx
 · have h4 : a.at_ + 1 ≤ 9223372036854775807 := by omega
   go_enter Tryz.func53, Tryz.ntmps53
   repeat' (first | go_skip | go_guarded | go_step)
   all_goals
    first
    | (refine bodyPost_ret (v := .agg #[.int .i64 a.kind, .int .i64 (a.at_ + 1), .int .i32 a.char, .int .i64 a.rep]) (by simp [results, Tryz.results53, go_sem]) rfl ⟨?_, ?_⟩
       · have hm : moves a b = true := by
          unfold moves
          try simp only [beq_iff_eq, beq_eq_false_iff_ne, ne_eq] at *
          first | (simp_all; done) | (simp_all; omega)
         simp [Tof, hm])
    | (refine bodyPost_ret (v := .agg #[.int .i64 a.kind, .int .i64 a.at_, .int .i32 a.char, .int .i64 a.rep]) (by simp [results, Tryz.results53, go_sem]) rfl ⟨?_, ?_⟩
       · have hm : moves a b = false := by
          unfold moves
          try simp only [beq_iff_eq, beq_eq_false_iff_ne, ne_eq] at *
          first | (simp_all; done) | (simp_all; omega)
         simp [Tof, hm])
    | (go_goals; fail)
    repeat (refine Below.setCell ?_ (by first | exact Nat.le_refl _ | exact Nat.le_succ _ | exact Nat.le_trans (Nat.le_succ _) (Nat.le_succ _)) _)
    exact (((Below.refl _ _).alloc (Nat.le_refl _) _).alloc (by simp) _).alloc (by simp; omega) _
 · clear HT HW h1 h2 ha
   have hm : moves a b = false := by
    unfold moves
    rw [if_pos (.inr hmx)]
   have hT : Tof a b = a := by simp [Tof, hm]
   rw [hT]
   clear hT hm
   obtain ⟨k, t, c, r⟩ := a
   simp only at hmx ⊢
   subst hmx
   go_enter Tryz.func53, Tryz.ntmps53
   repeat' (first | go_guarded | go_step)
   all_goals
    refine bodyPost_ret (v := .agg #[.int .i64 k, .int .i64 9223372036854775807, .int .i32 c, .int .i64 r]) (by simp [results, Tryz.results53, go_sem]) rfl ⟨rfl, ?_⟩
    repeat (refine Below.setCell ?_ (by first | exact Nat.le_refl _ | exact Nat.le_succ _ | exact Nat.le_trans (Nat.le_succ _) (Nat.le_succ _)) _)
    exact (((Below.refl _ _).alloc (Nat.le_refl _) _).alloc (by simp) _).alloc (by simp; omega) _
theorem ref5Right_any (c : Int) (w : World) : Calls Tryz.prog 74 #[.int .i32 c] w fun e w' => e = .returned (.bool (rightC c)) ∧ w = w' := by
 go_enter Tryz.func74, Tryz.ntmps74
 repeat' (first | go_skip | go_guarded | go_step)
 all_goals
  go_ret
  refine ⟨congrArg (fun x => Ending.returned (.bool x)) ?_, rfl⟩
  try simp only [beq_iff_eq, beq_eq_false_iff_ne, ne_eq] at *
  unfold rightC
  first
   | (simp_all; done)
   | (simp_all; omega)
   | (rw [Bool.eq_iff_iff]; simp_all; done)
   | (rw [Bool.eq_iff_iff]; simp_all; omega)
   | (go_goals; fail)
theorem ref5Fair_any (n : Int) (w : World) : Calls Tryz.prog 129 #[.int .i64 n] w fun e w' => e = .returned (.bool (fairH n)) ∧ w = w' := by
 go_enter Tryz.func129, Tryz.ntmps129
 repeat' (first | go_skip | go_guarded | go_step)
 all_goals
  go_ret
  refine ⟨congrArg (fun x => Ending.returned (.bool x)) ?_, rfl⟩
  try simp only [beq_iff_eq, beq_eq_false_iff_ne, ne_eq] at *
  unfold fairH
  first
   | (simp_all; done)
   | (simp_all; omega)
   | (rw [Bool.eq_iff_iff]; simp_all; done)
   | (rw [Bool.eq_iff_iff]; simp_all; omega)
   | (go_goals; fail)
theorem ref5Index_at (A : Option Addr) (n c : Nat) (es : List El) (S : Nat → Prop) (id : Nm) (w : World) (h : Row w S A n c es) (hn : n ≤ 1073741824) :
 Calls Tryz.prog 29 #[.slice A n c, .agg #[.int .i64 id.epoch, .int .i64 id.rep, .int .i64 id.num]] w fun e w' => ((∃ (k : Nat) (x : El), e = .returned (.int .i64 k) ∧ es[k]? = some x ∧ x.nm = id ∧ id ∉ (es.take k).map El.nm) ∨ e = .returned (.int .i64 (-1)) ∧ id ∉ es.map El.nm) ∧ Below w.heap.size w w' := by
 have Hr := hid h
 have hl := h.1
 clear h
 have b1 : Below w.heap.size w (w.alloc (.cells #[.int .i64 id.epoch, .int .i64 id.rep, .int .i64 id.num] 70)) := balloc (Below.refl _ _)
 have hX := Blk.new w 70 #[.int .i64 id.epoch, .int .i64 id.rep, .int .i64 id.num]
 go_enter Tryz.func29, Tryz.ntmps29
 repeat' (first | go_step)
 go_loopw [5] (fun i wr => ∃ k : Nat, i = .int .i64 k ∧ k ≤ n ∧ id ∉ (es.take k).map El.nm ∧ Blk wr w.heap.size 70 #[.int .i64 id.epoch, .int .i64 id.rep, .int .i64 id.num] ∧ Below w.heap.size w wr) (fun i wr => n - (intOf i).toNat)
 case atStart => exact ⟨0, rfl, by omega, by simp, hX, b1⟩
 case round =>
  clear hX b1
  obtain ⟨k, rfl, hk, hno, hX, hbr⟩ := hrel
  have x0 := hX.cell 0
  have x1 := hX.cell 1
  have x2 := hX.cell 2
  have xl := hX.lt
  simp at x0 x1 x2
  by_cases hlt : k < n
  · obtain ⟨b, off, e, rfl, hS, he, c0, c1, c2, c3, c4⟩ := (Hr.out.step hbr).at_ hlt
    have hsn := take_snoc_el he
    have hb := lt_of_cell' c0
    have Hk := hid (And.intro he (And.intro hsn (And.intro hno hX)))
    clear he hsn hno hX c3 c4
    have hmem : ¬ e.nm = id → id ∉ (es.take (k + 1)).map El.nm := fun hne h => by
     rw [Hk.out.2.1, List.map_append, List.mem_append] at h
     rcases h with h | h
     · exact Hk.out.2.2.1 h
     · have h' : id = e.nm := by simpa using h
       exact hne h'.symm
    have Hm := hid hmem
    clear hmem
    by_cases h0 : e.epoch = id.epoch
    · by_cases h1 : e.rep = id.rep
      · by_cases h2 : e.num = id.num
        · have hin : e.nm = id := by cases id; simp only [El.nm] at *; rw [h0, h1, h2]
          have Hin := hid hin
          clear hin
          rw [h0] at c0
          rw [h1] at c1
          rw [h2] at c2
          clear h0 h1 h2 Hm
          repeat' (first | ((with_reducible refine region_at 4 ?_); refine wp_region_order (rgl [0,4,8,12,16,20,24]) (by kernel_rfl) (by kernel_rfl) (by kernel_rfl) rfl rfl ?_) | ((with_reducible refine WpH.here ?_); first | (refine WpH.nil ?_; refine NoP.normal ?_) | ((first | refine WpH.load (by rfl) (by rfl) (by go_simp; rfl) ?_ | refine WpH.pure (by rfl) (fun w_ => by go_simp; (try go_bits); rfl) ?_); go_frame)) | go_step)
          go_ret
          exact ⟨.inl ⟨k, e, rfl, Hk.out.1, Hin.out, Hk.out.2.2.1⟩, hbr.drew⟩
        · have hmm := hid (Hm.out fun h => h2 (congrArg Nm.num h))
          rw [h0] at c0
          rw [h1] at c1
          clear h0 h1 Hm
          have h2' : (e.num == id.num) = false := by simpa using h2
          repeat' (first | ((with_reducible refine region_at 4 ?_); refine wp_region_order (rgl [0,4,8,12,16,20,24]) (by kernel_rfl) (by kernel_rfl) (by kernel_rfl) rfl rfl ?_) | ((with_reducible refine WpH.here ?_); first | (refine WpH.nil ?_; refine NoP.normal ?_) | ((first | refine WpH.load (by rfl) (by rfl) (by go_simp; rfl) ?_ | refine WpH.pure (by rfl) (fun w_ => by go_simp; (try go_bits); rfl) ?_); go_frame)) | go_step)
          go_roundw
          case rel => exact ⟨k + 1, by go_num, by omega, hmm.out, Hk.out.2.2.2.drew, hbr.drew⟩
          case measure => simp [intOf]; omega
      · have hmm := hid (Hm.out fun h => h1 (congrArg Nm.rep h))
        rw [h0] at c0
        clear h0 Hm
        have h1' : (e.rep == id.rep) = false := by simpa using h1
        repeat' (first | ((with_reducible refine region_at 4 ?_); refine wp_region_order (rgl [0,4,8,12,16,20,24]) (by kernel_rfl) (by kernel_rfl) (by kernel_rfl) rfl rfl ?_) | ((with_reducible refine WpH.here ?_); first | (refine WpH.nil ?_; refine NoP.normal ?_) | ((first | refine WpH.load (by rfl) (by rfl) (by go_simp; rfl) ?_ | refine WpH.pure (by rfl) (fun w_ => by go_simp; (try go_bits); rfl) ?_); go_frame)) | go_step)
        go_roundw
        case rel => exact ⟨k + 1, by go_num, by omega, hmm.out, Hk.out.2.2.2.drew, hbr.drew⟩
        case measure => simp [intOf]; omega
    · have hmm := hid (Hm.out fun h => h0 (congrArg Nm.epoch h))
      clear Hm
      have h0' : (e.epoch == id.epoch) = false := by simpa using h0
      repeat' (first | ((with_reducible refine region_at 4 ?_); refine wp_region_order (rgl [0,4,8,12,16,20,24]) (by kernel_rfl) (by kernel_rfl) (by kernel_rfl) rfl rfl ?_) | ((with_reducible refine WpH.here ?_); first | (refine WpH.nil ?_; refine NoP.normal ?_) | ((first | refine WpH.load (by rfl) (by rfl) (by go_simp; rfl) ?_ | refine WpH.pure (by rfl) (fun w_ => by go_simp; (try go_bits); rfl) ?_); go_frame)) | go_step)
      go_roundw
      case rel => exact ⟨k + 1, by go_num, by omega, hmm.out, Hk.out.2.2.2.drew, hbr.drew⟩
      case measure => simp [intOf]; omega
  · obtain rfl : k = n := by omega
    rw [List.take_of_length_le (by omega)] at hno
    have Hno := hid hno
    clear hno
    repeat' (first | go_step)
    go_ret
    exact ⟨.inr ⟨rfl, Hno.out⟩, hbr⟩
theorem ref5Index_any (A : Option Addr) (n c : Nat) (es : List El) (S : Nat → Prop) (id : Nm) (w : World) (h : Row w S A n c es) (hn : n ≤ 1073741824) :
 Calls Tryz.prog 29 #[.slice A n c, .agg #[.int .i64 id.epoch, .int .i64 id.rep, .int .i64 id.num]] w fun e w' => (∃ r : Int, e = .returned (.int .i64 r) ∧ (0 ≤ r ↔ id ∈ es.map El.nm)) ∧ Below w.heap.size w w' := by
 refine (ref5Index_at A n c es S id w h hn).mono ?_
 rintro e w' ⟨(⟨k, x, rfl, hx, hn, _⟩ | ⟨rfl, hno⟩), hb⟩
 · exact ⟨⟨k, rfl, ⟨fun _ => List.mem_map.2 ⟨x, List.mem_of_getElem? hx, hn⟩, fun _ => by omega⟩⟩, hb⟩
 · exact ⟨⟨-1, rfl, ⟨fun h => absurd h (by decide), fun h => absurd h hno⟩⟩, hb⟩
theorem first_same {es : List El} {id : Nm} {j k : Nat} {x y : El} (hx : es[j]? = some x) (hxn : x.nm = id) (hxf : id ∉ (es.take j).map El.nm) (hy : es[k]? = some y) (hyn : y.nm = id) (hyf : id ∉ (es.take k).map El.nm) : j = k := by
 rcases Nat.lt_trichotomy j k with h | h | h
 · exact absurd (List.mem_map.2 ⟨x, List.mem_of_getElem? (show (es.take k)[j]? = some x by rw [List.getElem?_take, if_pos h]; exact hx), hxn⟩) hyf
 · exact h
 · exact absurd (List.mem_map.2 ⟨y, List.mem_of_getElem? (show (es.take j)[k]? = some y by rw [List.getElem?_take, if_pos h]; exact hy), hyn⟩) hxf
def wrongOf (l : List El) (e : El) : Nat := if rightC e.char = false then 3 else if fairH e.hides = false then 1 else if e.nm ∈ l.map El.nm then 9 else 0
theorem wrong_any (A : Option Addr) (n c : Nat) (es : List El) (S : Nat → Prop) (e : El) (w : World) (h : Row w S A n c es) (hn : n ≤ 1073741824) :
 Calls Tryz.prog 96 #[.slice A n c, .agg #[.int .i64 e.epoch, .int .i64 e.rep, .int .i64 e.num, .int .i32 e.char, .int .i64 e.hides]] w fun r w' => r = .returned (.int .i64 (wrongOf es e)) ∧ Below w.heap.size w w' := by
 have b1 : Below w.heap.size w (w.alloc (.cells #[.int .i64 e.epoch, .int .i64 e.rep, .int .i64 e.num, .int .i32 e.char, .int .i64 e.hides] 113)) := balloc (Below.refl _ _)
 have HR := hid (fun W => ref5Right_any e.char W)
 have HF := hid (fun W => ref5Fair_any e.hides W)
 have HI := hid (fun W (hb : Below w.heap.size w W) => ref5Index_any A n c es S e.nm W (h.step hb) hn)
 simp only [El.nm] at HI
 obtain ⟨u, hu⟩ : ∃ u, u = wrongOf es e := ⟨_, rfl⟩
 rw [← hu]
 unfold wrongOf at hu
 generalize rightC e.char = rc at *
 generalize fairH e.hides = fh at *
 cases rc
 · rw [if_pos rfl] at hu
   subst hu
   go_enter Tryz.func96, Tryz.ntmps96
   repeat' (first | (go_at_call 74; go_must ((with_reducible refine Calls.mono (HR.out _) ?_); rintro _ _ ⟨rfl, rfl⟩; dsimp only)) | go_step)
   go_ret
   exact ⟨rfl, b1⟩
 · rw [if_neg (by simp)] at hu
   cases fh
   · rw [if_pos rfl] at hu
     subst hu
     go_enter Tryz.func96, Tryz.ntmps96
     repeat' (first | (go_at_call 74; go_must ((with_reducible refine Calls.mono (HR.out _) ?_); rintro _ _ ⟨rfl, rfl⟩; dsimp only)) | (go_at_call 129; go_must ((with_reducible refine Calls.mono (HF.out _) ?_); rintro _ _ ⟨rfl, rfl⟩; dsimp only)) | go_step)
     go_ret
     exact ⟨rfl, b1⟩
   · rw [if_neg (by simp)] at hu
     by_cases hm : e.nm ∈ es.map El.nm
     · rw [if_pos hm] at hu
       subst hu
       go_enter Tryz.func96, Tryz.ntmps96
       repeat' (first | (go_at_call 74; go_must ((with_reducible refine Calls.mono (HR.out _) ?_); rintro _ _ ⟨rfl, rfl⟩; dsimp only)) | (go_at_call 129; go_must ((with_reducible refine Calls.mono (HF.out _) ?_); rintro _ _ ⟨rfl, rfl⟩; dsimp only)) | (go_at_call 29; go_must ((with_reducible refine Calls.mono (HI.out _ b1) ?_); rintro _ w3 ⟨⟨r, rfl, hr⟩, hb3⟩; have hr0 : 0 ≤ r := hr.2 hm; clear hr; dsimp only)) | go_step)
       go_ret
       exact ⟨rfl, bvia b1 hb3⟩
     · rw [if_neg hm] at hu
       subst hu
       go_enter Tryz.func96, Tryz.ntmps96
       repeat' (first | (go_at_call 74; go_must ((with_reducible refine Calls.mono (HR.out _) ?_); rintro _ _ ⟨rfl, rfl⟩; dsimp only)) | (go_at_call 129; go_must ((with_reducible refine Calls.mono (HF.out _) ?_); rintro _ _ ⟨rfl, rfl⟩; dsimp only)) | (go_at_call 29; go_must ((with_reducible refine Calls.mono (HI.out _ b1) ?_); rintro _ w3 ⟨⟨r, rfl, hr⟩, hb3⟩; have hr0 : ¬ (0 ≤ r) := fun h => hm (hr.1 h); clear hr; dsimp only)) | go_step)
       go_ret
       exact ⟨rfl, bvia b1 hb3⟩
theorem boxSz (w : World) (o : Obj) : (w.alloc o).heap.size = w.heap.size + 1 := Array.size_push _
theorem IsNo.boxed {w w2 : World} {S : Nat → Prop} {b : Nat} {ch : List Lk} {code : Nat} {v : Value} {W : World} (h : IsNo w2 (Fr W (fun b => S b ∧ b < w.heap.size)) ch code v) (hb : w.heap.size ≤ b) (hW : b < W.heap.size) (hWw : w.heap.size ≤ W.heap.size) (x y z : Value) :
 IsNo (((w2.setCell ⟨b, 0, none⟩ x).setCell ⟨b, 1, none⟩ y).setCell ⟨b, 2, none⟩ z) (Fr w S) ch code v := by
 obtain ⟨h1, A, n, c, B, d, rfl, hr1, hr2⟩ := h
 have ns : ¬ Fr W (fun b => S b ∧ b < w.heap.size) b := fun h => by
  rcases h with h | h
  · omega
  · omega
 have sm : Same (Fr W (fun b => S b ∧ b < w.heap.size)) w2 (((w2.setCell ⟨b, 0, none⟩ x).setCell ⟨b, 1, none⟩ y).setCell ⟨b, 2, none⟩ z) :=
  ((Same.setCell w2 ns _).trans (by simp [World.setCell]) (Same.setCell _ ns _)).trans (by simp [World.setCell]) (Same.setCell _ ns _)
 have hre : ∀ b, Fr W (fun b => S b ∧ b < w.heap.size) b → Fr w S b := by
  intro b h
  rcases h with h | h
  · exact .inl h.1
  · exact .inr (Nat.le_trans hWw h)
 exact ⟨h1, A, n, c, B, d, rfl, (hr1.keep (by simp [World.setCell]) sm).more fun b _ h => hre b h, (hr2.keep (by simp [World.setCell]) sm).more fun b _ h => hre b h⟩
theorem refInsert_ok (A : Option Addr) (n c i : Nat) (es : List El) (S : Nat → Prop) (e : El) (w : World) (h : Row w S A n c es) (hn : n ≤ 1073741824) (hi : i ≤ n) (hw : wrongOf es e = 0) :
 Calls Tryz.prog 155 #[.slice A n c, .int .i64 i, .agg #[.int .i64 e.epoch, .int .i64 e.rep, .int .i64 e.num, .int .i32 e.char, .int .i64 e.hides]] w fun r w' => ∃ A' c', r = .returned (.tuple #[.slice A' (n + 1) c', noNone]) ∧ Own w' w.heap.size A' (n + 1) c' (es.take i ++ e :: es.drop i) ∧ Below w.heap.size w w' := by
 obtain ⟨hX, hR, hb⟩ := boxes2 w 113 62 #[.int .i64 e.epoch, .int .i64 e.rep, .int .i64 e.num, .int .i32 e.char, .int .i64 e.hides] #[.int .i64 0, .slice none 0 0, .slice none 0 0]
 have HW := hid (fun W (hb : Below w.heap.size w W) => wrong_any A n c es S e W (h.step hb) hn)
 rw [hw] at HW
 have n1 : ¬ ((i : Int) > n) := by omega
 clear hw
 unfold noNone
 obtain ⟨x0, x1, x2, x3, x4, xl⟩ := hX.five
 go_enter Tryz.func155, Tryz.ntmps155
 repeat' (first | (go_at_call 96; go_must ((with_reducible refine Calls.mono (HW.out _ hb) ?_); rintro _ w2 ⟨rfl, hb2⟩; obtain ⟨x0, x1, x2, x3, x4, xl⟩ := (hX.step hb2).five; dsimp only)) | (with_reducible refine stop_region 6 ?_) | go_guarded | go_step)
 refine Stop.go ?_
 have e1 := Row.one w2 e
 have eZ := balloc (o := .cells #[.int .i64 e.epoch, .int .i64 e.rep, .int .i64 e.num, .int .i32 e.char, .int .i64 e.hides] 113) (Below.refl _ w2)
 have hbZ := bvia (bvia hb hb2) eZ
 have HP := hid (refPut_any A n c i (some ⟨w2.heap.size, 0, none⟩) 1 1 es [e] S (fun _ => True) _ (h.step hbZ) e1 (by omega) hi)
 have hR2 := (hR.step hb2).step eZ
 have hzZ := hbZ.size
 repeat' (first | (go_at_call 159; go_must ((with_reducible refine Calls.mono HP.out ?_); rintro _ w3 ⟨A', c', rfl, ho, hb3⟩; have hR3 := hR2.step hb3; obtain ⟨rl, r0, r1, r2, f0, f1, f2⟩ := bl3 hR3; dsimp only)) | go_step)
 refine bodyPost_ret (v := .tuple #[.slice A' (n + 1) c', .agg #[.int .i64 0, .slice none 0 0, .slice none 0 0]]) (by simp [results, Tryz.results155, go_sem, r0, r1, r2, rl, size_set]) rfl ⟨A', c', rfl, ?_, ?_⟩
 · have hne : ∀ a, A' = some a → a.block ≠ w.heap.size + 1 := fun a ha => by
    have := (ho.block a ha).1
    have h2 := hR2.lt
    omega
   have h1 := ((ho.keep (S := fun b => b ≠ w.heap.size + 1) (Same.setCell (p := ⟨w.heap.size + 1, 0, none⟩) w3 (fun h => h rfl) (.int .i64 0)) hne).keep (S := fun b => b ≠ w.heap.size + 1) (Same.setCell (p := ⟨w.heap.size + 1, 1, none⟩) _ (fun h => h rfl) (.slice none 0 0)) hne).keep (S := fun b => b ≠ w.heap.size + 1) (Same.setCell (p := ⟨w.heap.size + 1, 2, none⟩) _ (fun h => h rfl) (.slice none 0 0)) hne
   have h2 := h1.mono hzZ
   simpa using h2
 · exact bset (bset (bset (bvia hbZ hb3) (Nat.le_succ _)) (Nat.le_succ _)) (Nat.le_succ _)
theorem refInsert_no (A : Option Addr) (n c i code : Nat) (es : List El) (S S' : Nat → Prop) (e : El) (w : World) (h : Row w S A n c es) (hn : n ≤ 1073741824) (hi : i ≤ n) (hw : wrongOf es e = code) (h1 : 1 ≤ code) (h2 : code ≤ 13) :
 Calls Tryz.prog 155 #[.slice A n c, .int .i64 i, .agg #[.int .i64 e.epoch, .int .i64 e.rep, .int .i64 e.num, .int .i32 e.char, .int .i64 e.hides]] w fun r w' => ∃ v, r = .returned (.tuple #[.slice A n c, v]) ∧ IsNo w' (Fr w S') [⟨({ data := #[109, 111, 100, 101, 108] } : ByteArray), ({ data := #[73, 110, 115, 101, 114, 116] } : ByteArray), atOf i⟩] code v ∧ Below w.heap.size w w' := by
 obtain ⟨hX, hR, hb⟩ := boxes2 w 113 62 #[.int .i64 e.epoch, .int .i64 e.rep, .int .i64 e.num, .int .i32 e.char, .int .i64 e.hides] #[.int .i64 0, .slice none 0 0, .slice none 0 0]
 have HW := hid (fun W (hb : Below w.heap.size w W) => wrong_any A n c es S e W (h.step hb) hn)
 rw [hw] at HW
 have n1 : ¬ ((i : Int) > n) := by omega
 have n2 : ¬ ((code : Int) = 0) := by omega
 have n3 : ((code : Int) == 0) = false := by simpa using n2
 have HS := hid (fun W => say_any ({ data := #[109, 111, 100, 101, 108] } : ByteArray) ({ data := #[73, 110, 115, 101, 114, 116] } : ByteArray) i code h1 h2 (fun b => S' b ∧ b < w.heap.size) W)
 clear hw
 obtain ⟨x0, x1, x2, x3, x4, xl⟩ := hX.five
 go_enter Tryz.func155, Tryz.ntmps155
 repeat' (first | (go_at_call 96; go_must ((with_reducible refine Calls.mono (HW.out _ hb) ?_); rintro _ w2 ⟨rfl, hb2⟩; obtain ⟨x0, x1, x2, x3, x4, xl⟩ := (hX.step hb2).five; dsimp only)) | (go_at_call 57; go_must ((with_reducible refine Calls.mono (HS.out _) ?_); rintro _ w3 ⟨v, rfl, ⟨g1, B, m, d, C, k, rfl, hr1, hr2⟩, hb3⟩; have hR3 := (hR.step hb2).step hb3; obtain ⟨rl, r0, r1, r2, f0, f1, f2⟩ := bl3 hR3; dsimp only)) | go_guarded | go_step)
 have hbb := bvia hb hb2
 have hz2 := hbb.size
 have hRl := (hR.step hb2).lt
 refine bodyPost_ret (v := .tuple #[.slice A n c, .agg #[.int .i64 code, .slice B m d, .slice C 1 k]]) (by simp [results, Tryz.results155, go_sem, r0, r1, r2, rl, size_set]) rfl ⟨_, rfl, ?_, ?_⟩
 · exact IsNo.boxed (W := w2) ⟨g1, B, m, d, C, k, rfl, hr1, hr2⟩ (Nat.le_succ _) hRl hz2 _ _ _
 · exact bset (bset (bset (bvia hbb hb3) (Nat.le_succ _)) (Nat.le_succ _)) (Nat.le_succ _)
theorem cellsOf_hides {es : List El} {i : Nat} {e : El} {d : Int} (he : es[i]? = some e) : cellsOf (es.set i (e.hide d)) = (cellsOf es).set (i * 5 + 4) (.int .i64 (e.hides + d)) := by
 have hi := (List.getElem?_eq_some_iff.1 he).1
 have hlen : (cellsOf es).length = es.length * 5 := cellsOf_length es
 refine List.ext_getElem? fun p => ?_
 rw [List.getElem?_set]
 by_cases hp : p < es.length * 5
 · have hq : p = p / 5 * 5 + p % 5 := by omega
   have hr : p % 5 < 5 := by omega
   by_cases hpi : p / 5 = i
   · have hs : (es.set i (e.hide d))[p / 5]? = some (e.hide d) := by rw [hpi, List.getElem?_set_self hi]
     have h1 := cellsOf_at hs hr
     have h2 := cellsOf_at (show es[p / 5]? = some e by rw [hpi]; exact he) hr
     rw [← hq] at h1 h2
     rw [h1]
     by_cases h4 : p % 5 = 4
     · rw [if_pos (by omega), if_pos (by omega), h4]
       rfl
     · rw [if_neg (by omega), h2]
       rcases (show p % 5 = 0 ∨ p % 5 = 1 ∨ p % 5 = 2 ∨ p % 5 = 3 from by omega) with h | h | h | h <;> rw [h] <;> rfl
   · obtain ⟨x, hx⟩ : ∃ x, es[p / 5]? = some x := ⟨es[p / 5]'(by omega), List.getElem?_eq_getElem _⟩
     have h1 := cellsOf_at (show (es.set i (e.hide d))[p / 5]? = some x by rw [List.getElem?_set_ne (Ne.symm hpi)]; exact hx) hr
     have h2 := cellsOf_at hx hr
     rw [← hq] at h1 h2
     rw [h1, if_neg (by omega), h2]
 · rw [List.getElem?_eq_none (by rw [cellsOf_length, List.length_set]; omega), if_neg (by omega), List.getElem?_eq_none (by omega)]
theorem Own.setHides {w : World} {base g n c i : Nat} {es : List El} {e : El} {d : Int} (h : Own w base (some ⟨g, 0, none⟩) n c es) (he : es[i]? = some e) : Own (w.setCell ⟨g, i * 5 + 4, none⟩ (.int .i64 (e.hides + d))) base (some ⟨g, 0, none⟩) n c (es.set i (e.hide d)) := by
 have hc := h.cap_le
 have hi : i < n := by rw [← h.1]; exact (List.getElem?_eq_some_iff.1 he).1
 obtain ⟨g', cur, e1, hbg, hb, hs, hnc, ht⟩ := own_at h (by omega)
 injection e1 with e1
 injection e1 with e1
 subst e1
 have hb' := hb.set_ (i * 5 + 4) (.int .i64 (e.hides + d))
 refine ⟨by simpa using h.1, by rw [cellsOf_length, List.length_set, h.1], .inr ⟨g, c, _, rfl, hbg, hb', hnc, hc.2, by simp [hs], ?_⟩⟩
 rw [cellsOf_hides he, ← ht]
 simp only [Array.toList_setIfInBounds, List.take_set]
theorem refAdd_ok (A : Option Addr) (n c i : Nat) (es : List El) (S : Nat → Prop) (e : El) (d : Int) (hd : d = 1 ∨ d = -1) (w : World) (h : Row w S A n c es) (hn : n ≤ 1073741824) (he : es[i]? = some e) (hf : fairH (e.hides + d) = true) :
 Calls Tryz.prog 156 #[.slice A n c, .int .i64 i, .int .i64 d] w fun r w' => ∃ A' c', r = .returned (.tuple #[.slice A' n c', noNone]) ∧ Own w' w.heap.size A' n c' (es.set i (e.hide d)) ∧ Below w.heap.size w w' := by
 have hi : i < n := by rw [← h.1]; exact (List.getElem?_eq_some_iff.1 he).1
 have b1 : Below w.heap.size w (w.alloc (.cells #[.int .i64 0, .slice none 0 0, .slice none 0 0] 62)) := balloc (Below.refl _ _)
 have hR := Blk.new w 62 #[.int .i64 0, .slice none 0 0, .slice none 0 0]
 have HC := hid (refCopy_any A n c es S _ (h.step b1) (by omega))
 obtain ⟨b, off, rfl, -, hbl, c0, c1, c2, c3, c4⟩ := h.el he
 have He := hid he
 have n1 : ¬ ((i : Int) ≥ n) := by omega
 have n2 : (i : Int) < n := by omega
 clear he c0 c1 c2 c3 h
 unfold noNone
 rcases hd with rfl | rfl
 · skip
   have HF := hid (fun W => ref5Fair_any (e.hides + 1) W)
   rw [hf] at HF
   have hfb := fairH_bounds hf
   have n3 : -9223372036854775808 ≤ e.hides + 1 := by omega
   have n4 : e.hides + 1 ≤ 9223372036854775807 := by omega
   clear hf
   go_enter Tryz.func156, Tryz.ntmps156
   repeat' (first | (go_at_call 129; go_must ((with_reducible refine Calls.mono (HF.out _) ?_); rintro _ _ ⟨rfl, rfl⟩; dsimp only)) | (go_at_call 160; go_must ((with_reducible refine Calls.mono HC.out ?_); rintro _ w3 ⟨A', c', rfl, ho, hb3⟩; have hR3 := hR.step hb3; have hrow3 := (ho.row (S := fun _ => True) fun _ _ _ => trivial).el He.out; obtain ⟨g, off, hge, -, hgl, d0, d1, d2, d3, d4⟩ := hrow3; obtain ⟨g', cur, hge', hgb, hcur, -, -, -⟩ := own_at ho (by omega); injection hge'.symm.trans hge with hg3; injection hg3 with hg4 hg5; subst hg4 hg5; simp only [Nat.zero_add] at d4; have fg := hcur.frozen (i * 5 + 4); have hgR : g' ≠ w.heap.size := (by have := hR.lt; omega); subst hge; obtain ⟨rl, r0, r1, r2, f0, f1, f2⟩ := bl3 hR3; dsimp only)) | go_skip | go_guarded | go_step)
   refine bodyPost_ret (v := .tuple #[.slice (some ⟨g', 0, none⟩) n c', .agg #[.int .i64 0, .slice none 0 0, .slice none 0 0]]) (by simp [results, Tryz.results156, go_sem, r0, r1, r2, rl, hgR, Ne.symm hgR, size_set]) rfl ⟨some ⟨g', 0, none⟩, c', rfl, ?_, ?_⟩
   · have hne : ∀ a, (some (⟨g', 0, none⟩ : Addr)) = some a → a.block ≠ w.heap.size := fun a ha => by injection ha with ha; rw [← ha]; exact hgR
     have h0 := (ho.setHides (d := 1) He.out)
     have h1 := ((h0.keep (S := fun b => b ≠ w.heap.size) (Same.setCell (p := ⟨w.heap.size, 0, none⟩) _ (fun h => h rfl) (.int .i64 0)) hne).keep (S := fun b => b ≠ w.heap.size) (Same.setCell (p := ⟨w.heap.size, 1, none⟩) _ (fun h => h rfl) (.slice none 0 0)) hne).keep (S := fun b => b ≠ w.heap.size) (Same.setCell (p := ⟨w.heap.size, 2, none⟩) _ (fun h => h rfl) (.slice none 0 0)) hne
     exact h1.mono b1.size
   · refine bset (bset (bset (bset (bvia b1 hb3) ?_) (Nat.le_refl _)) (Nat.le_refl _)) (Nat.le_refl _)
     exact Nat.le_trans b1.size hgb
 · skip
   have HF := hid (fun W => ref5Fair_any (e.hides + (-1)) W)
   rw [hf] at HF
   have hfb := fairH_bounds hf
   have n3 : -9223372036854775808 ≤ e.hides + (-1) := by omega
   have n4 : e.hides + (-1) ≤ 9223372036854775807 := by omega
   clear hf
   go_enter Tryz.func156, Tryz.ntmps156
   repeat' (first | (go_at_call 129; go_must ((with_reducible refine Calls.mono (HF.out _) ?_); rintro _ _ ⟨rfl, rfl⟩; dsimp only)) | (go_at_call 160; go_must ((with_reducible refine Calls.mono HC.out ?_); rintro _ w3 ⟨A', c', rfl, ho, hb3⟩; have hR3 := hR.step hb3; have hrow3 := (ho.row (S := fun _ => True) fun _ _ _ => trivial).el He.out; obtain ⟨g, off, hge, -, hgl, d0, d1, d2, d3, d4⟩ := hrow3; obtain ⟨g', cur, hge', hgb, hcur, -, -, -⟩ := own_at ho (by omega); injection hge'.symm.trans hge with hg3; injection hg3 with hg4 hg5; subst hg4 hg5; simp only [Nat.zero_add] at d4; have fg := hcur.frozen (i * 5 + 4); have hgR : g' ≠ w.heap.size := (by have := hR.lt; omega); subst hge; obtain ⟨rl, r0, r1, r2, f0, f1, f2⟩ := bl3 hR3; dsimp only)) | go_guarded | go_step)
   refine bodyPost_ret (v := .tuple #[.slice (some ⟨g', 0, none⟩) n c', .agg #[.int .i64 0, .slice none 0 0, .slice none 0 0]]) (by simp [results, Tryz.results156, go_sem, r0, r1, r2, rl, hgR, Ne.symm hgR, size_set]) rfl ⟨some ⟨g', 0, none⟩, c', rfl, ?_, ?_⟩
   · have hne : ∀ a, (some (⟨g', 0, none⟩ : Addr)) = some a → a.block ≠ w.heap.size := fun a ha => by injection ha with ha; rw [← ha]; exact hgR
     have h0 := (ho.setHides (d := (-1)) He.out)
     have h1 := ((h0.keep (S := fun b => b ≠ w.heap.size) (Same.setCell (p := ⟨w.heap.size, 0, none⟩) _ (fun h => h rfl) (.int .i64 0)) hne).keep (S := fun b => b ≠ w.heap.size) (Same.setCell (p := ⟨w.heap.size, 1, none⟩) _ (fun h => h rfl) (.slice none 0 0)) hne).keep (S := fun b => b ≠ w.heap.size) (Same.setCell (p := ⟨w.heap.size, 2, none⟩) _ (fun h => h rfl) (.slice none 0 0)) hne
     exact h1.mono b1.size
   · refine bset (bset (bset (bset (bvia b1 hb3) ?_) (Nat.le_refl _)) (Nat.le_refl _)) (Nat.le_refl _)
     exact Nat.le_trans b1.size hgb
def rightOp (o : Opn) : Bool := if o.rep < 0 ∨ 8 ≤ o.rep then false else if o.kind = 1 then rightC o.char else if o.kind = 2 ∨ o.kind = 3 then decide (o.char = 0) else false
def validOp (o : Opn) (n : Int) : Bool := rightOp o && decide (0 ≤ o.at_ ∧ (o.at_ < n ∨ o.at_ = n ∧ o.kind = 1))
theorem rightOp_any (o : Opn) (w : World) : Calls Tryz.prog 64 #[o.agg] w fun e w' => e = .returned (.bool (rightOp o)) ∧ Below w.heap.size w w' := by
 unfold Opn.agg
 go_enter Tryz.func64, Tryz.ntmps64
 repeat' (first | go_skip | go_guarded | go_step)
 all_goals
  go_ret
  refine ⟨congrArg (fun x => Ending.returned (.bool x)) ?_, (Below.refl _ _).alloc (Nat.le_refl _) _⟩
  try simp only [beq_iff_eq, beq_eq_false_iff_ne, ne_eq] at *
  unfold rightOp rightC
  first
   | (simp_all; done)
   | (simp_all; omega)
   | (rw [Bool.eq_iff_iff]; simp_all; done)
   | (rw [Bool.eq_iff_iff]; simp_all; omega)
   | (go_goals; fail)
theorem validOp_any (o : Opn) (n : Int) (w : World) : Calls Tryz.prog 111 #[o.agg, .int .i64 n] w fun e w' => e = .returned (.bool (validOp o n)) ∧ Below w.heap.size w w' := by
 have HR := hid (fun W => rightOp_any o W)
 have b1 : Below w.heap.size w (w.alloc (.cells (opCells o) 37)) := (Below.refl _ _).alloc (Nat.le_refl _) _
 have hx := Blk.new w 37 (opCells o)
 unfold opCells at b1 hx
 cases hr : rightOp o
 · rw [hr] at HR
   have hv : validOp o n = false := by unfold validOp; rw [hr]; rfl
   rw [hv]
   clear hv hr
   unfold Opn.agg at HR ⊢
   go_enter Tryz.func111, Tryz.ntmps111
   repeat' (first | (go_at_call 64; go_must ((with_reducible refine Calls.mono (HR.out _) ?_); rintro _ w1 ⟨rfl, hb1⟩; dsimp only)) | go_skip | go_step)
   go_ret
   exact ⟨rfl, b1.trans (hb1.mono b1.size)⟩
 · rw [hr] at HR
   have hv : validOp o n = decide (0 ≤ o.at_ ∧ (o.at_ < n ∨ o.at_ = n ∧ o.kind = 1)) := by unfold validOp; rw [hr]; rfl
   rw [hv]
   clear hv hr
   unfold Opn.agg at HR ⊢
   go_enter Tryz.func111, Tryz.ntmps111
   repeat' (first | (go_at_call 64; go_must ((with_reducible refine Calls.mono (HR.out _) ?_); rintro _ w1 ⟨rfl, hb1⟩; have hx1 := hx.step hb1; obtain ⟨x0, x1, x2, x3, -, -, -, -, xl⟩ := hx1.four; dsimp only)) | go_skip | go_guarded | go_step)
   all_goals
    go_ret
    refine ⟨congrArg (fun x => Ending.returned (.bool x)) ?_, b1.trans (hb1.mono b1.size)⟩
    clear HR x0 x1 x2 x3 b1 hx hb1 hx1
    try simp only [beq_iff_eq, beq_eq_false_iff_ne, ne_eq] at *
    first
     | (simp_all; done)
     | (simp_all; omega)
     | (rw [Bool.eq_iff_iff]; simp_all; done)
     | (rw [Bool.eq_iff_iff]; simp_all; omega)
     | (go_goals; fail)
def insEl (i : Nm) (c : Int) : El := ⟨i.epoch, i.rep, i.num, c, 0⟩
theorem Out.mono {S S' : Nat → Prop} {w w' : World} (h : Out S w w') (hs : ∀ b, b < w.heap.size → S b → S' b) : Out S' w w' := ⟨h.os, h.tape, h.output, h.size, fun k hk hn => h.block k hk (fun h' => hn (hs k hk h'))⟩
def doneOp (l : List El) (o : Opn) (id : Nm) : List El :=
 if o.kind = 1 then l.take o.at_.toNat ++ insEl id o.char :: l.drop o.at_.toNat
 else match l[o.at_.toNat]? with
  | some e => l.set o.at_.toNat (e.hide (if o.kind = 2 then 1 else -1))
  | none => l
structure CanDo (l : List El) (o : Opn) (id : Nm) : Prop where
 valid : validOp o l.length = true
 ins : o.kind = 1 → id.In ∧ id ∉ l.map El.nm
 hide : o.kind ≠ 1 → ∀ e, l[o.at_.toNat]? = some e → fairH (e.hides + (if o.kind = 2 then 1 else -1)) = true
theorem validOp_right {o : Opn} {n : Int} (h : validOp o n = true) : rightOp o = true ∧ 0 ≤ o.at_ ∧ (o.at_ < n ∨ o.at_ = n ∧ o.kind = 1) := by
 unfold validOp at h
 rw [Bool.and_eq_true] at h
 exact ⟨h.1, by simpa using h.2⟩
theorem rightOp_kind {o : Opn} (h : rightOp o = true) : o.kind = 1 ∧ rightC o.char = true ∨ o.kind = 2 ∨ o.kind = 3 := by
 unfold rightOp at h
 split at h
 · cases h
 · split at h
   · exact .inl ⟨by assumption, h⟩
   · split at h
     · exact .inr (by assumption)
     · cases h
theorem apply_ins (w : World) (S : Nat → Prop) (mb : Nat) (l : List El) (K i : Nat) (c r : Int) (id : Nm) (h : Mdl w S mb l K) (hl : l.length ≤ 536870912) (hK : K ≤ 1099511627776) (hi : i ≤ l.length) (hc : rightC c = true) (hro : rightOp ⟨1, i, c, r⟩ = true) (hvo : validOp ⟨1, i, c, r⟩ l.length = true) (hid' : id.In) (hn : id ∉ l.map El.nm) :
 Calls Tryz.prog 102 #[.pointer (some ⟨mb, 0, none⟩), .agg #[.int .i64 1, .int .i64 i, .int .i32 c, .int .i64 r], .agg #[.int .i64 id.epoch, .int .i64 id.rep, .int .i64 id.num]] w fun e w' => e = .returned .nilIface ∧ Mdl w' (Fr w S) mb (l.take i ++ insEl id c :: l.drop i) (K + 1) ∧ Out S w w' := by
 have b1 : Below w.heap.size w ((w.alloc (.cells #[.int .i64 1, .int .i64 i, .int .i32 c, .int .i64 r] 37)).alloc (.cells #[.int .i64 id.epoch, .int .i64 id.rep, .int .i64 id.num] 70)) := ((Below.refl _ _).alloc (Nat.le_refl _) _).alloc (by simp) _
 have s1 : (w.alloc (.cells #[.int .i64 1, .int .i64 i, .int .i32 c, .int .i64 r] 37)).heap.size = w.heap.size + 1 := Array.size_push _
 have hx := (Blk.new w 37 #[.int .i64 1, .int .i64 i, .int .i32 c, .int .i64 r]).alloc (.cells #[.int .i64 id.epoch, .int .i64 id.rep, .int .i64 id.num] 70)
 have hy := Blk.new (w.alloc (.cells #[.int .i64 1, .int .i64 i, .int .i32 c, .int .i64 r] 37)) 70 #[.int .i64 id.epoch, .int .i64 id.rep, .int .i64 id.num]
 rw [s1] at hy
 have HR := hid (fun W => rightOp_any ⟨1, i, c, r⟩ W)
 have HV := hid (fun W => validOp_any ⟨1, i, c, r⟩ l.length W)
 rw [hro] at HR
 rw [hvo] at HV
 unfold Opn.agg at HR HV
 dsimp only at HR HV
 have hM0 := (h.more (S' := fun b => S b ∧ b < w.heap.size) fun b hl hs => ⟨hs, hl⟩).step b1
 have HN := hid new_nil
 clear hro hvo h
 go_enter Tryz.func102, Tryz.ntmps102
 repeat' (first | (go_at_call 64; go_must ((with_reducible refine Calls.mono (HR.out _) ?_); rintro _ w1 ⟨rfl, hb1⟩; have hx1 := hx.step hb1; have hy1 := hy.step hb1; obtain ⟨x0, x1, x2, x3, -, -, -, -, xl⟩ := hx1.four; have hM1 := (hM0.step hb1).keep (w' := w1.drew) (fun _ _ _ => rfl); have HL := hid (mlen_any w1.drew _ mb l K hM1); dsimp only)) | ((with_reducible refine region_at 5 ?_); refine wp_region_order (rgl [0,4,9,13,16,20]) (by kernel_rfl) (by kernel_rfl) (by kernel_rfl) rfl rfl ?_) | (go_at_call 43; go_must ((with_reducible refine Calls.mono HL.out ?_); rintro _ _ ⟨rfl, rfl⟩; dsimp only)) | (go_at_call 111; go_must ((with_reducible refine Calls.mono (HV.out _) ?_); rintro _ w2 ⟨rfl, hb2⟩; have hx2 := hx1.drew.step hb2; have hy2 := hy1.drew.step hb2; obtain ⟨u0, u1, u2, u3, -, -, -, -, ul⟩ := hx2.four; have y0 := hy2.cell 0; have y1 := hy2.cell 1; have y2 := hy2.cell 2; simp at y0 y1 y2; have hM2 := hM1.step hb2; have HI := hid (minsert_ok w2 _ mb l K i (insEl id c) hM2 hl hK hi ⟨hc, show fairH 0 = true by decide, hid'⟩ hn); (try (unfold insEl at HI; dsimp only at HI)); dsimp only)) | (go_at_call 134; go_must ((with_reducible refine Calls.mono HI.out ?_); rintro _ w3 ⟨rfl, hM3, hO3⟩; have hx3 := hO3.blk hx2 (fun h => by have := h.2; omega); obtain ⟨v0, v1, v2, v3, -, -, -, -, vl⟩ := hx3.four; dsimp only)) | (go_at_call 51; go_must ((with_reducible refine Calls.mono (HN.out _ _ _ _) ?_); rintro _ _ ⟨rfl, rfl⟩; dsimp only)) | (with_reducible first | refine Keep.below (by assumption) ?_ | refine Keep.same ?_) | ((with_reducible refine WpH.here ?_); first | (refine WpH.nil ?_; refine NoP.normal ?_) | ((first | refine WpH.load (by rfl) (by rfl) (by go_simp; rfl) ?_ | refine WpH.pure (by rfl) (fun w_ => by go_simp; (try go_bits); rfl) ?_); go_frame) | (refine WpH.wild1 (by rfl) (fun _ _ => ?_))) | go_guarded | go_step)
 go_ret
 have B2 := b1.trans ((hb1.drew.trans (hb2.mono hb1.size)).mono b1.size)
 refine ⟨rfl, ?_, ((Out.of_below B2).trans hO3 fun b _ h => h).mono fun b _ h => h.1⟩
 refine hM3.more fun b _ h => ?_
 rcases h with h | h
 · exact .inl h.1
 · exact .inr (Nat.le_trans B2.size h)
theorem apply_era (w : World) (S : Nat → Prop) (mb : Nat) (l : List El) (K i : Nat) (c r : Int) (id : Nm) (e : El) (h : Mdl w S mb l K) (hl : l.length ≤ 536870912) (he : l[i]? = some e) (hf : fairH (e.hides + 1) = true) (hro : rightOp ⟨2, i, c, r⟩ = true) (hvo : validOp ⟨2, i, c, r⟩ l.length = true) :
 Calls Tryz.prog 102 #[.pointer (some ⟨mb, 0, none⟩), .agg #[.int .i64 2, .int .i64 i, .int .i32 c, .int .i64 r], .agg #[.int .i64 id.epoch, .int .i64 id.rep, .int .i64 id.num]] w fun e' w' => e' = .returned .nilIface ∧ Mdl w' (Fr w S) mb (l.set i (e.hide 1)) K ∧ Out S w w' := by
 have He := hid he
 clear he
 have b1 : Below w.heap.size w ((w.alloc (.cells #[.int .i64 2, .int .i64 i, .int .i32 c, .int .i64 r] 37)).alloc (.cells #[.int .i64 id.epoch, .int .i64 id.rep, .int .i64 id.num] 70)) := ((Below.refl _ _).alloc (Nat.le_refl _) _).alloc (by simp) _
 have s1 : (w.alloc (.cells #[.int .i64 2, .int .i64 i, .int .i32 c, .int .i64 r] 37)).heap.size = w.heap.size + 1 := Array.size_push _
 have hx := (Blk.new w 37 #[.int .i64 2, .int .i64 i, .int .i32 c, .int .i64 r]).alloc (.cells #[.int .i64 id.epoch, .int .i64 id.rep, .int .i64 id.num] 70)
 have hy := Blk.new (w.alloc (.cells #[.int .i64 2, .int .i64 i, .int .i32 c, .int .i64 r] 37)) 70 #[.int .i64 id.epoch, .int .i64 id.rep, .int .i64 id.num]
 rw [s1] at hy
 have HR := hid (fun W => rightOp_any ⟨2, i, c, r⟩ W)
 have HV := hid (fun W => validOp_any ⟨2, i, c, r⟩ l.length W)
 rw [hro] at HR
 rw [hvo] at HV
 unfold Opn.agg at HR HV
 dsimp only at HR HV
 have hM0 := (h.more (S' := fun b => S b ∧ b < w.heap.size) fun b hl hs => ⟨hs, hl⟩).step b1
 have HN := hid new_nil
 clear hro hvo h
 go_enter Tryz.func102, Tryz.ntmps102
 repeat' (first | (go_at_call 64; go_must ((with_reducible refine Calls.mono (HR.out _) ?_); rintro _ w1 ⟨rfl, hb1⟩; have hx1 := hx.step hb1; have hy1 := hy.step hb1; obtain ⟨x0, x1, x2, x3, -, -, -, -, xl⟩ := hx1.four; have hM1 := (hM0.step hb1).keep (w' := w1.drew) (fun _ _ _ => rfl); have HL := hid (mlen_any w1.drew _ mb l K hM1); dsimp only)) | ((with_reducible refine region_at 5 ?_); refine wp_region_order (rgl [0,4,9,13,16,20]) (by kernel_rfl) (by kernel_rfl) (by kernel_rfl) rfl rfl ?_) | (go_at_call 43; go_must ((with_reducible refine Calls.mono HL.out ?_); rintro _ _ ⟨rfl, rfl⟩; dsimp only)) | (go_at_call 111; go_must ((with_reducible refine Calls.mono (HV.out _) ?_); rintro _ w2 ⟨rfl, hb2⟩; have hx2 := hx1.drew.step hb2; have hy2 := hy1.drew.step hb2; obtain ⟨u0, u1, u2, u3, -, -, -, -, ul⟩ := hx2.four; have y0 := hy2.cell 0; have y1 := hy2.cell 1; have y2 := hy2.cell 2; simp at y0 y1 y2; have hM2 := hM1.step hb2; have HI := hid (madd_ok w2 _ mb l K i e 1 (.inl rfl) hM2 hl He.out hf); (try (unfold insEl at HI; dsimp only at HI)); dsimp only)) | (go_at_call 135; go_must ((with_reducible refine Calls.mono HI.out ?_); rintro _ w3 ⟨rfl, hM3, hO3⟩; have hx3 := hO3.blk hx2 (fun h => by have := h.2; omega); obtain ⟨v0, v1, v2, v3, -, -, -, -, vl⟩ := hx3.four; dsimp only)) | (go_at_call 51; go_must ((with_reducible refine Calls.mono (HN.out _ _ _ _) ?_); rintro _ _ ⟨rfl, rfl⟩; dsimp only)) | (with_reducible first | refine Keep.below (by assumption) ?_ | refine Keep.same ?_) | ((with_reducible refine WpH.here ?_); first | (refine WpH.nil ?_; refine NoP.normal ?_) | ((first | refine WpH.load (by rfl) (by rfl) (by go_simp; rfl) ?_ | refine WpH.pure (by rfl) (fun w_ => by go_simp; (try go_bits); rfl) ?_); go_frame) | (refine WpH.wild1 (by rfl) (fun _ _ => ?_))) | go_guarded | go_step)
 go_ret
 have B2 := b1.trans ((hb1.drew.trans (hb2.mono hb1.size)).mono b1.size)
 refine ⟨rfl, ?_, ((Out.of_below B2).trans hO3 fun b _ h => h).mono fun b _ h => h.1⟩
 refine hM3.more fun b _ h => ?_
 rcases h with h | h
 · exact .inl h.1
 · exact .inr (Nat.le_trans B2.size h)
theorem apply_res (w : World) (S : Nat → Prop) (mb : Nat) (l : List El) (K i : Nat) (c r : Int) (id : Nm) (e : El) (h : Mdl w S mb l K) (hl : l.length ≤ 536870912) (he : l[i]? = some e) (hf : fairH (e.hides + -1) = true) (hro : rightOp ⟨3, i, c, r⟩ = true) (hvo : validOp ⟨3, i, c, r⟩ l.length = true) :
 Calls Tryz.prog 102 #[.pointer (some ⟨mb, 0, none⟩), .agg #[.int .i64 3, .int .i64 i, .int .i32 c, .int .i64 r], .agg #[.int .i64 id.epoch, .int .i64 id.rep, .int .i64 id.num]] w fun e' w' => e' = .returned .nilIface ∧ Mdl w' (Fr w S) mb (l.set i (e.hide (-1))) K ∧ Out S w w' := by
 have He := hid he
 clear he
 have b1 : Below w.heap.size w ((w.alloc (.cells #[.int .i64 3, .int .i64 i, .int .i32 c, .int .i64 r] 37)).alloc (.cells #[.int .i64 id.epoch, .int .i64 id.rep, .int .i64 id.num] 70)) := ((Below.refl _ _).alloc (Nat.le_refl _) _).alloc (by simp) _
 have s1 : (w.alloc (.cells #[.int .i64 3, .int .i64 i, .int .i32 c, .int .i64 r] 37)).heap.size = w.heap.size + 1 := Array.size_push _
 have hx := (Blk.new w 37 #[.int .i64 3, .int .i64 i, .int .i32 c, .int .i64 r]).alloc (.cells #[.int .i64 id.epoch, .int .i64 id.rep, .int .i64 id.num] 70)
 have hy := Blk.new (w.alloc (.cells #[.int .i64 3, .int .i64 i, .int .i32 c, .int .i64 r] 37)) 70 #[.int .i64 id.epoch, .int .i64 id.rep, .int .i64 id.num]
 rw [s1] at hy
 have HR := hid (fun W => rightOp_any ⟨3, i, c, r⟩ W)
 have HV := hid (fun W => validOp_any ⟨3, i, c, r⟩ l.length W)
 rw [hro] at HR
 rw [hvo] at HV
 unfold Opn.agg at HR HV
 dsimp only at HR HV
 have hM0 := (h.more (S' := fun b => S b ∧ b < w.heap.size) fun b hl hs => ⟨hs, hl⟩).step b1
 have HN := hid new_nil
 clear hro hvo h
 go_enter Tryz.func102, Tryz.ntmps102
 repeat' (first | (go_at_call 64; go_must ((with_reducible refine Calls.mono (HR.out _) ?_); rintro _ w1 ⟨rfl, hb1⟩; have hx1 := hx.step hb1; have hy1 := hy.step hb1; obtain ⟨x0, x1, x2, x3, -, -, -, -, xl⟩ := hx1.four; have hM1 := (hM0.step hb1).keep (w' := w1.drew) (fun _ _ _ => rfl); have HL := hid (mlen_any w1.drew _ mb l K hM1); dsimp only)) | ((with_reducible refine region_at 5 ?_); refine wp_region_order (rgl [0,4,9,13,16,20]) (by kernel_rfl) (by kernel_rfl) (by kernel_rfl) rfl rfl ?_) | (go_at_call 43; go_must ((with_reducible refine Calls.mono HL.out ?_); rintro _ _ ⟨rfl, rfl⟩; dsimp only)) | (go_at_call 111; go_must ((with_reducible refine Calls.mono (HV.out _) ?_); rintro _ w2 ⟨rfl, hb2⟩; have hx2 := hx1.drew.step hb2; have hy2 := hy1.drew.step hb2; obtain ⟨u0, u1, u2, u3, -, -, -, -, ul⟩ := hx2.four; have y0 := hy2.cell 0; have y1 := hy2.cell 1; have y2 := hy2.cell 2; simp at y0 y1 y2; have hM2 := hM1.step hb2; have HI := hid (madd_ok w2 _ mb l K i e (-1) (.inr rfl) hM2 hl He.out hf); (try (unfold insEl at HI; dsimp only at HI)); dsimp only)) | (go_at_call 135; go_must ((with_reducible refine Calls.mono HI.out ?_); rintro _ w3 ⟨rfl, hM3, hO3⟩; have hx3 := hO3.blk hx2 (fun h => by have := h.2; omega); obtain ⟨v0, v1, v2, v3, -, -, -, -, vl⟩ := hx3.four; dsimp only)) | (go_at_call 51; go_must ((with_reducible refine Calls.mono (HN.out _ _ _ _) ?_); rintro _ _ ⟨rfl, rfl⟩; dsimp only)) | (with_reducible first | refine Keep.below (by assumption) ?_ | refine Keep.same ?_) | ((with_reducible refine WpH.here ?_); first | (refine WpH.nil ?_; refine NoP.normal ?_) | ((first | refine WpH.load (by rfl) (by rfl) (by go_simp; rfl) ?_ | refine WpH.pure (by rfl) (fun w_ => by go_simp; (try go_bits); rfl) ?_); go_frame) | (refine WpH.wild1 (by rfl) (fun _ _ => ?_))) | go_guarded | go_step)
 go_ret
 have B2 := b1.trans ((hb1.drew.trans (hb2.mono hb1.size)).mono b1.size)
 refine ⟨rfl, ?_, ((Out.of_below B2).trans hO3 fun b _ h => h).mono fun b _ h => h.1⟩
 refine hM3.more fun b _ h => ?_
 rcases h with h | h
 · exact .inl h.1
 · exact .inr (Nat.le_trans B2.size h)
def insAt (l : List El) (i : Nat) (e : El) : List El := l.take i ++ e :: l.drop i
def hidAt (l : List El) (i : Nat) (d : Int) : List El := match l[i]? with
 | some e => l.set i (e.hide d)
 | none => l
def Opn.by_ (o : Opn) : Int := if o.kind = 2 then 1 else -1
theorem doneOp_ins {l : List El} {o : Opn} {id : Nm} (h : o.kind = 1) : doneOp l o id = insAt l o.at_.toNat (insEl id o.char) := by
 unfold doneOp insAt
 rw [if_pos h]
theorem doneOp_hid {l : List El} {o : Opn} {id : Nm} (h : o.kind ≠ 1) : doneOp l o id = hidAt l o.at_.toNat o.by_ := by
 unfold doneOp hidAt Opn.by_
 rw [if_neg h]
 try (cases l[o.at_.toNat]? <;> rfl)
theorem Tof_rep (a b : Opn) : (Tof a b).rep = a.rep := by unfold Tof; split <;> rfl
structure Fits (o : Opn) (n : Nat) : Prop where
 right : rightOp o = true
 lo : 0 ≤ o.at_
 hi : o.at_ < n ∨ o.at_ = n ∧ o.kind = 1
theorem Fits.of_valid {o : Opn} {n : Nat} (h : validOp o n = true) : Fits o n := by
 obtain ⟨h1, h2, h3⟩ := validOp_right h
 exact ⟨h1, h2, h3⟩
theorem Fits.valid {o : Opn} {n : Nat} (h : Fits o n) : validOp o n = true := by
 unfold validOp
 rw [h.right]
 have h1 := h.lo
 have h2 := h.hi
 simp
 omega
theorem rightOp_rep {o : Opn} (h : rightOp o = true) : 0 ≤ o.rep ∧ o.rep < 8 := by
 unfold rightOp at h
 split at h
 · cases h
 · omega
def Calm (H : Int) (l : List El) : Prop := ∀ e ∈ l, -H ≤ e.hides ∧ e.hides ≤ H
theorem mem_insAt {l : List El} {i : Nat} {e x : El} (h : x ∈ insAt l i e) : x = e ∨ x ∈ l := by
 unfold insAt at h
 simp only [List.mem_append, List.mem_cons] at h
 rcases h with h | rfl | h
 · exact .inr (List.mem_of_mem_take h)
 · exact .inl rfl
 · exact .inr (List.mem_of_mem_drop h)
theorem mem_hidAt {l : List El} {i : Nat} {d : Int} {x : El} (h : x ∈ hidAt l i d) : x ∈ l ∨ ∃ e ∈ l, x = e.hide d := by
 unfold hidAt at h
 split at h
 · next e he =>
   rcases List.mem_or_eq_of_mem_set h with h | h
   · exact .inl h
   · exact .inr ⟨e, List.mem_of_getElem? he, h⟩
 · exact .inl h
theorem by_bounds (o : Opn) : -1 ≤ o.by_ ∧ o.by_ ≤ 1 := by unfold Opn.by_; split <;> omega
theorem Calm.done {H : Int} {l : List El} (h : Calm H l) (h0 : 0 ≤ H) (o : Opn) (id : Nm) : Calm (H + 1) (doneOp l o id) := by
 intro x hx
 by_cases hk : o.kind = 1
 · rw [doneOp_ins hk] at hx
   rcases mem_insAt hx with rfl | hx
   · simp only [insEl]; omega
   · have := h x hx; omega
 · rw [doneOp_hid hk] at hx
   have := by_bounds o
   rcases mem_hidAt hx with hx | ⟨e, he, rfl⟩
   · have := h x hx; omega
   · have := h e he
     simp only [El.hide]
     omega
theorem nm_done {l : List El} {o : Opn} {id i : Nm} (h : i ∈ (doneOp l o id).map El.nm) : o.kind = 1 ∧ i = id ∨ i ∈ l.map El.nm := by
 obtain ⟨x, hx, rfl⟩ := List.mem_map.1 h
 by_cases hk : o.kind = 1
 · rw [doneOp_ins hk] at hx
   rcases mem_insAt hx with rfl | hx
   · exact .inl ⟨hk, rfl⟩
   · exact .inr (List.mem_map.2 ⟨x, hx, rfl⟩)
 · rw [doneOp_hid hk] at hx
   rcases mem_hidAt hx with hx | ⟨e, he, rfl⟩
   · exact .inr (List.mem_map.2 ⟨x, hx, rfl⟩)
   · exact .inr (List.mem_map.2 ⟨e, he, rfl⟩)
theorem canDo_of {H : Int} {l : List El} {o : Opn} {id : Nm} (hf : Fits o l.length) (hc : Calm H l) (hH : H ≤ 1000000) (hi : id.In) (hn : o.kind = 1 → id ∉ l.map El.nm) : CanDo l o id := by
 refine ⟨hf.valid, fun hk => ⟨hi, hn hk⟩, fun hk e he => ?_⟩
 have h := hc e (List.mem_of_getElem? he)
 have : -1 ≤ (if o.kind = 2 then (1 : Int) else -1) ∧ (if o.kind = 2 then (1 : Int) else -1) ≤ 1 := by split <;> omega
 unfold fairH
 simp only [decide_eq_true_eq]
 omega
def whyOf (l : List El) (o : Opn) (id : Nm) : Nat := if rightOp o = false then 1 else if validOp o l.length = false then 2 else if o.kind = 1 ∧ id ∈ l.map El.nm then 9 else 0
def appOf (l : List El) (o : Opn) (id : Nm) : List El := if whyOf l o id = 0 then doneOp l o id else l
def chOf (o : Opn) (why : Nat) : List Lk := if why = 9 then [⟨({ data := #[120, 102, 111, 114, 109] } : ByteArray), ({ data := #[65, 112, 112, 108, 121] } : ByteArray), atOf o.at_⟩, ⟨({ data := #[109, 111, 100, 101, 108] } : ByteArray), ({ data := #[73, 110, 115, 101, 114, 116] } : ByteArray), atOf o.at_⟩] else [⟨({ data := #[120, 102, 111, 114, 109] } : ByteArray), ({ data := #[65, 112, 112, 108, 121] } : ByteArray), atOf o.at_⟩]
theorem why_cases (l : List El) (o : Opn) (id : Nm) : (whyOf l o id = 1 ∧ rightOp o = false) ∨ (whyOf l o id = 2 ∧ rightOp o = true ∧ validOp o l.length = false) ∨ (whyOf l o id = 9 ∧ validOp o l.length = true ∧ o.kind = 1 ∧ id ∈ l.map El.nm) ∨ (whyOf l o id = 0 ∧ validOp o l.length = true ∧ (o.kind = 1 → id ∉ l.map El.nm)) := by
 unfold whyOf
 cases h1 : rightOp o
 · exact .inl ⟨if_pos rfl, rfl⟩
 · right
   rw [if_neg (by simp)]
   cases h2 : validOp o l.length
   · exact .inl ⟨if_pos rfl, rfl, rfl⟩
   · right
     rw [if_neg (by simp)]
     by_cases h3 : o.kind = 1 ∧ id ∈ l.map El.nm
     · exact .inl ⟨if_pos h3, rfl, h3.1, h3.2⟩
     · exact .inr ⟨if_neg h3, rfl, fun h1 h2 => h3 ⟨h1, h2⟩⟩
theorem appOf_done {l : List El} {o : Opn} {id : Nm} (h : whyOf l o id = 0) : appOf l o id = doneOp l o id := if_pos h
theorem appOf_not {l : List El} {o : Opn} {id : Nm} (h : whyOf l o id ≠ 0) : appOf l o id = l := if_neg h
theorem why_can {l : List El} {o : Opn} {id : Nm} (h : whyOf l o id = 0) {H : Int} (hc : Calm H l) (hH : H ≤ 1000000) (hi : id.In) : CanDo l o id := by
 rcases why_cases l o id with ⟨h1, _⟩ | ⟨h1, _⟩ | ⟨h1, _⟩ | ⟨_, h2, h3⟩
 · omega
 · omega
 · omega
 · exact canDo_of (Fits.of_valid h2) hc hH hi h3
theorem valid_right {o : Opn} {n : Int} (h : validOp o n = true) : rightOp o = true := (validOp_right h).1
theorem wrong_ins {l : List El} {o : Opn} {id : Nm} {n : Int} (h : validOp o n = true) (hk : o.kind = 1) : wrongOf l (insEl id o.char) = if id ∈ l.map El.nm then 9 else 0 := by
 have hr := valid_right h
 have hc : rightC o.char = true := by
  rcases rightOp_kind hr with ⟨_, h⟩ | h | h
  · exact h
  · omega
  · omega
 unfold wrongOf
 rw [if_neg (by show ¬ rightC o.char = false; rw [hc]; simp), if_neg (by show ¬ fairH 0 = false; decide)]
 rfl
def ixOf (l : List El) (id : Nm) : Option Nat := l.findIdx? fun e => decide (e.nm = id)
theorem ixOf_get {l : List El} {id : Nm} {k : Nat} (h : ixOf l id = some k) : ∃ x, l[k]? = some x ∧ x.nm = id ∧ id ∉ (l.take k).map El.nm := by
 unfold ixOf at h
 rw [List.findIdx?_eq_some_iff_getElem] at h
 obtain ⟨hk, h1, h2⟩ := h
 refine ⟨l[k], List.getElem?_eq_getElem hk, by simpa using h1, fun hm => ?_⟩
 obtain ⟨x, hx, hn⟩ := List.mem_map.1 hm
 obtain ⟨j, hj, rfl⟩ := List.getElem_of_mem hx
 rw [List.length_take] at hj
 have := h2 j (by omega)
 rw [List.getElem_take] at hn
 simp [hn] at this
structure Clk where
 c0 : Int
 c1 : Int
 c2 : Int
 c3 : Int
 c4 : Int
 c5 : Int
 c6 : Int
 c7 : Int
deriving DecidableEq
def Clk.list (c : Clk) : List Int := [c.c0, c.c1, c.c2, c.c3, c.c4, c.c5, c.c6, c.c7]
def Clk.get (c : Clk) (r : Nat) : Int := (c.list[r]?).getD 0
def Clk.zero : Clk := ⟨0, 0, 0, 0, 0, 0, 0, 0⟩
def Clk.set (c : Clk) (r : Nat) (n : Int) : Clk :=
 match r with
 | 0 => { c with c0 := n } | 1 => { c with c1 := n } | 2 => { c with c2 := n } | 3 => { c with c3 := n }
 | 4 => { c with c4 := n } | 5 => { c with c5 := n } | 6 => { c with c6 := n } | 7 => { c with c7 := n }
 | _ => c
def Clk.vals (c : Clk) : Array Value := #[.int .i64 c.c0, .int .i64 c.c1, .int .i64 c.c2, .int .i64 c.c3, .int .i64 c.c4, .int .i64 c.c5, .int .i64 c.c6, .int .i64 c.c7]
def Clk.agg (c : Clk) : Value := .agg c.vals
theorem lt8 {r : Nat} (h : r < 8) : r = 0 ∨ r = 1 ∨ r = 2 ∨ r = 3 ∨ r = 4 ∨ r = 5 ∨ r = 6 ∨ r = 7 := by omega
theorem Clk.vals_get (c : Clk) {r : Nat} (h : r < 8) : c.vals[r]? = some (.int .i64 (c.get r)) := by
 rcases lt8 h with rfl | rfl | rfl | rfl | rfl | rfl | rfl | rfl <;> rfl
theorem Clk.get_set (c : Clk) {r : Nat} (h : r < 8) (n : Int) (k : Nat) : (c.set r n).get k = if k = r then n else c.get k := by
 rcases lt8 h with rfl | rfl | rfl | rfl | rfl | rfl | rfl | rfl <;> (
  by_cases hk : k < 8
  · rcases lt8 hk with rfl | rfl | rfl | rfl | rfl | rfl | rfl | rfl <;> rfl
  · rw [if_neg (by omega)]
    have : ∀ d : Clk, d.get k = 0 := fun d => by
     unfold Clk.get
     rw [List.getElem?_eq_none (by show 8 ≤ k; omega)]
     rfl
    rw [this, this])
theorem Clk.get_zero (r : Nat) : Clk.zero.get r = 0 := by
 by_cases h : r < 8
 · rcases lt8 h with rfl | rfl | rfl | rfl | rfl | rfl | rfl | rfl <;> rfl
 · unfold Clk.get
   rw [List.getElem?_eq_none (by show 8 ≤ r; omega)]
   rfl
def Clk.In (c : Clk) : Prop := ∀ r, r < 8 → I64 (c.get r)
def hasC (c : Clk) (r n : Int) : Bool := decide (0 ≤ r ∧ r < 8 ∧ 1 ≤ n ∧ n ≤ c.get r.toNat)
def coversC (a b : Clk) : Bool := (List.range 8).all fun k => decide (b.get k ≤ a.get k)
theorem coversC_iff (a b : Clk) : coversC a b = true ↔ ∀ k, k < 8 → b.get k ≤ a.get k := by
 unfold coversC
 simp
def validC (a : Clk) : Bool := (List.range 8).all fun k => decide (0 ≤ a.get k)
theorem validC_iff (a : Clk) : validC a = true ↔ ∀ k, k < 8 → 0 ≤ a.get k := by
 unfold validC
 simp
structure Actn where
 op : Opn
 num : Int
 clk : Clk
deriving DecidableEq
structure Actn.In (x : Actn) : Prop where
 op : x.op.In
 num : I64 x.num
 clk : x.clk.In
def Actn.vals (x : Actn) : Array Value := #[.int .i64 x.op.kind, .int .i64 x.op.at_, .int .i32 x.op.char, .int .i64 x.op.rep, .int .i64 x.num, .int .i64 x.clk.c0, .int .i64 x.clk.c1, .int .i64 x.clk.c2, .int .i64 x.clk.c3, .int .i64 x.clk.c4, .int .i64 x.clk.c5, .int .i64 x.clk.c6, .int .i64 x.clk.c7]
def Actn.agg (x : Actn) : Value := .agg x.vals
def noOpn : Opn := ⟨0, 0, 0, 0⟩
def noActn : Actn := ⟨noOpn, 0, Clk.zero⟩
instance : Enc Actn where
 k := 13
 cells x := x.vals.toList
 len _ := rfl
 one := by
  intro a u hu
  simp only [Actn.vals, List.mem_cons, List.not_mem_nil, or_false] at hu
  rcases hu with rfl | rfl | rfl | rfl | rfl | rfl | rfl | rfl | rfl | rfl | rfl | rfl | rfl <;> rfl
def readyC (have_ : Clk) (x : Actn) : Bool :=
 decide (0 ≤ x.op.rep ∧ x.op.rep < 8 ∧ have_.get x.op.rep.toNat ≠ 9223372036854775807 ∧ 1 ≤ x.num ∧ x.num = have_.get x.op.rep.toNat + 1 ∧ x.clk.get x.op.rep.toNat = have_.get x.op.rep.toNat) && coversC have_ x.clk
structure Lg where
 ep : Int
 base : List El
 acts : List Actn
 forms : List Opn
 clk : Clk
 l : List El
def Lg.name (g : Lg) (x : Actn) : Nm := ⟨g.ep, x.op.rep, x.num⟩
def Lg.inC (g : Lg) (c : Clk) (e : El) : Bool := decide (e.nm ∈ g.base.map El.nm) || (decide (e.epoch = g.ep) && hasC c e.rep e.num)
def Lg.had (g : Lg) (c : Clk) : List Actn := g.acts.filter fun x => decide (x.op.kind = 1) && hasC c x.op.rep x.num
def Lg.ctx (g : Lg) (c : Clk) : Nat := g.base.length + (g.had c).length
def besideC (acts : List Actn) (c : Clk) : List Actn := acts.filter fun x => ! hasC c x.op.rep x.num
def countT (s : List Bool) (k : Nat) : Nat := ((s.take k).filter id).length
def metStep (g : Lg) (s : List Bool × Opn) (x : Actn) : List Bool × Opn :=
 if x.op.kind = 1 then
  let i := (ixOf g.l (g.name x)).getD 0
  (s.1.set i true, Tof s.2 ⟨1, countT s.1 i, 0, x.op.rep⟩)
 else s
def Lg.form (g : Lg) (x : Actn) : Opn := ((besideC g.acts x.clk).foldl (metStep g) (g.l.map (g.inC x.clk), x.op)).2
def Lg.why (g : Lg) (x : Actn) : Nat :=
 if rightOp x.op = false ∨ x.num < 1 ∨ validC x.clk = false ∨ x.clk.get x.op.rep.toNat ≠ x.num - 1 then 6
 else if hasC g.clk x.op.rep x.num then 9
 else if readyC g.clk x = false then 8
 else if validOp x.op (g.ctx x.clk) = false then 2
 else 0
def Lg.deliver (g : Lg) (x : Actn) (f : Opn) : Lg :=
 if whyOf g.l f (g.name x) = 0 then { g with acts := g.acts ++ [x], forms := g.forms ++ [f], clk := g.clk.set x.op.rep.toNat x.num, l := appOf g.l f (g.name x) } else g
def Lg.actOf (g : Lg) (o : Opn) : Actn := ⟨o, if rightOp o = true then g.clk.get o.rep.toNat + 1 else 0, g.clk⟩
end Go.Proofs.YteggpddlkkjmjaaGreatDoor
