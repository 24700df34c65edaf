/- barrowlaw13.AnchorStays: the walk: it returns true. Conditions: the rows and the reasons lie in memory, the elements and changes fit their kinds. -/
import Derived.Test.YtfihjajllfihjaaDoorAnchor
import Derived.Test.YtfihjajllfihjaaDoorOpenChg
namespace Go.Proofs.YtfihjajllfihjaaDoor
set_option linter.unusedSimpArgs false
set_option linter.unusedVariables false
open Go Go.RowKit
variable {a : Nat → Addr}
/-- what the loop keeps: the model, its plain row, the anchor's box -/
structure StaysAt (w : World) (mb b9 K : Nat) (an : Anc) (A : Option Addr) (c : Nat) (X : List El) (SM : Nat → Prop) (wr : World) : Prop where
  mdl : Mdl wr SM mb X K
  own : ∀ b, SM b → w.heap.size ≤ b ∧ b < wr.heap.size ∧ b ≠ b9
  row : Row wr (fun b => ¬ SM b) A X.length c X
  box : Blk wr b9 57 #[.bool an.front, .int .i64 an.id.epoch, .int .i64 an.id.rep, .int .i64 an.id.num]
  there : an.front = true ∨ an.id ∈ X.map El.nm
  below : Below w.heap.size w wr
theorem StaysAt.step {w : World} {mb b9 K : Nat} {an : Anc} {A : Option Addr} {c : Nat} {X : List El} {SM : Nat → Prop} {wr w' : World} (h : StaysAt w mb b9 K an A c X SM wr) (hb : Below wr.heap.size wr w') : StaysAt w mb b9 K an A c X SM w' :=
  ⟨h.mdl.step hb, fun b hs => ⟨(h.own b hs).1, Nat.lt_of_lt_of_le (h.own b hs).2.1 hb.size, (h.own b hs).2.2⟩, h.row.step hb, h.box.step hb, h.there, bvia h.below hb⟩
theorem StaysAt.turned {w : World} {mb b9 K K' : Nat} {an : Anc} {A A' : Option Addr} {c c' : Nat} {X X' : List El} {SM : Nat → Prop} {w4 w5 : World} (h : StaysAt w mb b9 K an A c X SM w4) (hM : Mdl w5 (Fr w4 SM) mb X' K') (hO : Out SM w4 w5)
    (hrow : Row w4 (fun b => ¬ SM b) A' X'.length c' X') (hn : an.front = true ∨ an.id ∈ X'.map El.nm) : StaysAt w mb b9 K' an A' c' X' (fun b => Fr w4 SM b ∧ b < w5.heap.size) w5 := by
  have hz := h.below.size
  have hz2 := hO.size
  have hb9 := h.box.lt
  refine ⟨hM.more fun b h1 h2 => ⟨h2, h1⟩, fun b hb => ?_, ?_, hO.blk h.box (fun hs => (h.own _ hs).2.2 rfl), hn, hO.below h.below (Nat.le_refl _) fun b hs => (h.own b hs).1⟩
  · rcases hb.1 with hs | hs
    · exact ⟨(h.own b hs).1, hb.2, (h.own b hs).2.2⟩
    · exact ⟨by omega, hb.2, by omega⟩
  · have h1 : Row w4 (fun b => ¬ SM b ∧ b < w4.heap.size) A' X'.length c' X' := hrow.more fun b hl hs => ⟨hs, hl⟩
    refine (h1.keep (w' := w5) fun b hb hl => hO.block b hl hb.1).more fun b _ hb hn => ?_
    rcases hn.1 with hs | hs
    · exact hb.1 hs
    · omega
theorem Mdl.good {w : World} {S : Nat → Prop} {mb : Nat} {l : List El} {K : Nat} (h : Mdl w S mb l K) : ∀ e ∈ l, e.Good := by
  obtain ⟨gt, gm, p, T, h1, h2, h3, h4, h5, h6, h7, h8, h9⟩ := h
  exact h9
set_option maxRecDepth 200000 in
set_option maxHeartbeats 16000000 in
theorem astays_empty (w : World) (A C : Option Addr) (n c m d : Nat) (at_ : Int) (ls : List El) (cs : List Chg) (S S' : Nat → Prop) (hr : Row w S A n c ls) (hin : ∀ e ∈ ls, e.In) (hc : GRow w S C m d cs) (hci : ∀ x ∈ cs, x.e.In) (hs : Sents w S' a) (h0 : (accOf ls).length = 0) :
    Calls Tryd.prog 9 #[.slice A n c, .int .i64 at_, .slice C m d] w fun e w' => e = .returned (.bool true) ∧ Below w.heap.size w w' := by
  have HB := hid (begun13_any w A n c ls S hr hin)
  have Hs := hid hs
  have Hc := hid hc
  have Hci := hid hci
  have hml := hc.1
  have hmm := hc.len_le
  unfold maxLen at hmm
  have Hh := hid h0
  clear hr hin hs hc hci
  go_enter Tryd.func9, Tryd.ntmps9
  repeat' (first | (go_at_call 30; go_must ((with_reducible refine Calls.mono HB.out ?_); rintro _ w1 ⟨⟨mb, A1, c1_, X0, n1, hXe, rfl, hM, hrow, hn1, hR, h80, hXin⟩, hb1⟩; have HXe := hid hXe; clear hXe; dsimp only)) | (with_reducible refine stop_region 5 ?_) | (with_reducible refine Keep.last ?_) | (with_reducible refine Keep.below (by assumption) ?_) | (with_reducible refine Keep.kept (by assumption) ?_) | (with_reducible refine Keep.alloc ?_) | (with_reducible refine Keep.same ?_) | ((with_reducible refine WpH.here ?_); first | (refine WpH.nil ?_; refine NoP.normal ?_) | (refine WpH.load (by rfl) (by rfl) (by go_simp; rfl) ?_; simp only [Act.put, List.setIfInBounds_toArray, List.set_cons_zero, List.set_cons_succ]) | (refine WpH.loadT (by rfl) (by rfl) (by go_simp; rfl) (by rintro _ _ ⟨⟩; exact ⟨_, _, _, _, _, _, by rfl, by assumption, by assumption⟩) ?_; simp only [Act.put, List.setIfInBounds_toArray, List.set_cons_zero, List.set_cons_succ]) | (refine WpH.pure (by rfl) (fun w_ => by go_simp; (try go_bits); rfl) ?_; simp only [Act.put, List.setIfInBounds_toArray, List.set_cons_zero, List.set_cons_succ]) | (refine WpH.wild1 (by rfl) (fun _ _ => ?_)) | (refine WpH.skip (by rfl) ?_; simp only [Act.put, List.setIfInBounds_toArray, List.set_cons_zero, List.set_cons_succ])) | go_values | go_skip | go_guarded | go_step | go_upon | go_back)
  refine Stop.go ?_
  have hh0 := Hh.out
  rw [← HXe.out] at hh0
  clear HXe
  have hXn := hid (fun (e : El) (he : e ∈ X0) => (⟨(hXin e he).1, (hXin e he).2.1, (hXin e he).2.2.1⟩ : e.nm.In))
  have hz1 := hb1.size
  have hM1 := hM.more (S' := fun b => n1 ≤ b ∧ b < w1.heap.size) fun b h1 h2 => ⟨h2, h1⟩
  have hrow1 := hrow.more (S' := fun b => ¬ (n1 ≤ b ∧ b < w1.heap.size)) fun b _ h h2 => by omega
  have Hst0 := hid (fun (an : Anc) (h : an.front = true ∨ an.id ∈ X0.map El.nm) => (⟨hM1.step (balloc (Below.refl _ _)), fun b hs => ⟨by omega, by rw [boxSz]; omega, by omega⟩, hrow1.step (balloc (Below.refl _ _)), Blk.new w1 _ _, h, balloc hb1⟩ : StaysAt w mb w1.heap.size X0.length an A1 c1_ X0 (fun b => n1 ≤ b ∧ b < w1.heap.size) (w1.alloc (.cells #[.bool an.front, .int .i64 an.id.epoch, .int .i64 an.id.rep, .int .i64 an.id.num] 57))))
  clear HB hR hXin hM hM1 hrow1 Hh
  have HX0 := hid hh0
  have hX0 : ¬ (X0.length : Int) > 0 := by omega
  have hanI : (⟨true, ⟨0, 0, 0⟩⟩ : Anc).id.In := ⟨⟨by decide, by decide⟩, ⟨by decide, by decide⟩, ⟨by decide, by decide⟩⟩
  have hst0 := Hst0.out ⟨true, ⟨0, 0, 0⟩⟩ (.inl rfl)
  clear Hst0 hh0
  repeat' (first | (with_reducible refine Keep.last ?_) | (with_reducible refine Keep.below (by assumption) ?_) | (with_reducible refine Keep.kept (by assumption) ?_) | (with_reducible refine Keep.alloc ?_) | (with_reducible refine Keep.same ?_) | ((with_reducible refine WpH.here ?_); first | (refine WpH.nil ?_; refine NoP.normal ?_) | (refine WpH.load (by rfl) (by rfl) (by go_simp; rfl) ?_; simp only [Act.put, List.setIfInBounds_toArray, List.set_cons_zero, List.set_cons_succ]) | (refine WpH.loadT (by rfl) (by rfl) (by go_simp; rfl) (by rintro _ _ ⟨⟩; exact ⟨_, _, _, _, _, _, by rfl, by assumption, by assumption⟩) ?_; simp only [Act.put, List.setIfInBounds_toArray, List.set_cons_zero, List.set_cons_succ]) | (refine WpH.pure (by rfl) (fun w_ => by go_simp; (try go_bits); rfl) ?_; simp only [Act.put, List.setIfInBounds_toArray, List.set_cons_zero, List.set_cons_succ]) | (refine WpH.wild1 (by rfl) (fun _ _ => ?_)) | (refine WpH.skip (by rfl) ?_; simp only [Act.put, List.setIfInBounds_toArray, List.set_cons_zero, List.set_cons_succ])) | go_values | go_skip | go_guarded | go_step | go_upon | go_back)
  go_loopw [8, 11] (fun xs i wr => ∃ (k : Nat) (A' : Option Addr) (c' : Nat) (X : List El) (SM : Nat → Prop) (K : Nat), i = .int .i64 k ∧ xs = .slice A' X.length c' ∧ k ≤ m ∧ k ≤ 40 ∧ X.length ≤ 80 + k ∧ K ≤ 80 + k ∧ StaysAt w mb w1.heap.size K (⟨true, ⟨0, 0, 0⟩⟩ : Anc) A' c' X SM wr) (fun _ i _ => m - (intOf i).toNat)
  case atStart => exact ⟨0, _, _, X0, _, _, rfl, by first | rfl | rw [HX0.out], Nat.zero_le _, Nat.zero_le _, by omega, by omega, hst0⟩
  case round =>
    clear hst0
    obtain ⟨k, A', c', X, SM, K, rfl, rfl, hk, hk4, hXl, hKl, hst⟩ := hrel
    have hbr := hst.below
    by_cases hlt : k < m ∧ k < 40
    · obtain ⟨hlt1, hlt2⟩ := hlt
      obtain ⟨b, off, x, rfl, hSb, hbl, hxk, hcell⟩ := (Hc.out.step hbr).at_ hlt1
      have c0 : wr.cell? ⟨b, off + k * 8, none⟩ = some (.int .i64 x.do_) := hcell 0 _ rfl
      have c1 : wr.cell? ⟨b, off + k * 8 + 1, none⟩ = some (.int .i64 x.i) := hcell 1 _ rfl
      have c2 : wr.cell? ⟨b, off + k * 8 + 2, none⟩ = some (.bool x.down) := hcell 2 _ rfl
      have c3 : wr.cell? ⟨b, off + k * 8 + 3, none⟩ = some (.int .i64 x.e.epoch) := hcell 3 _ rfl
      have c4 : wr.cell? ⟨b, off + k * 8 + 4, none⟩ = some (.int .i64 x.e.rep) := hcell 4 _ rfl
      have c5 : wr.cell? ⟨b, off + k * 8 + 5, none⟩ = some (.int .i64 x.e.num) := hcell 5 _ rfl
      have c6 : wr.cell? ⟨b, off + k * 8 + 6, none⟩ = some (.int .i32 x.e.char) := hcell 6 _ rfl
      have c7 : wr.cell? ⟨b, off + k * 8 + 7, none⟩ = some (.int .i64 x.e.hides) := hcell 7 _ rfl
      have hkm : (k : Int) < m := by omega
      have hxin := Hci.out x (List.mem_of_getElem? hxk)
      have eC := balloc (o := .cells #[.int .i64 x.do_, .int .i64 x.i, .bool x.down, .int .i64 x.e.epoch, .int .i64 x.e.rep, .int .i64 x.e.num, .int .i32 x.e.char, .int .i64 x.e.hides] 86) (Below.refl _ wr)
      have hC := Blk.new wr 86 #[.int .i64 x.do_, .int .i64 x.i, .bool x.down, .int .i64 x.e.epoch, .int .i64 x.e.rep, .int .i64 x.e.num, .int .i32 x.e.char, .int .i64 x.e.hides]
      have hst2 := hst.step eC
      have hHW := awhere_any _ _ mb X K (⟨true, ⟨0, 0, 0⟩⟩ : Anc) hst2.mdl (by omega) hanI
      have hwt := where_there hst.there
      obtain ⟨own, hown⟩ : ∃ o, o = ownOf X (⟨true, ⟨0, 0, 0⟩⟩ : Anc) := ⟨_, rfl⟩
      obtain ⟨v, hv⟩ : ∃ v, whereOf X (⟨true, ⟨0, 0, 0⟩⟩ : Anc) = (v, true) := ⟨_, hwt⟩
      rw [hv] at hHW
      dsimp only at hHW
      have HW := hid hHW
      have Hv := hid hv
      have hvl : v ≤ 200 := by have h1 := whereOf_le (l := X) (x := (⟨true, ⟨0, 0, 0⟩⟩ : Anc)); rw [hv] at h1; have := liveOf_le X; dsimp only at h1; omega
      have Hown := hid hown
      clear hHW hwt hv hcell hxk hown
      have ha := (hst2).box; have g0 := ha.cell 0; have g1 := ha.cell 1; have g2 := ha.cell 2; have g3 := ha.cell 3; have gl := ha.lt; simp at g0 g1 g2 g3; clear ha
      have hown1 : own = -1 := Hown.out.trans (ownOf_front rfl)
      subst hown1
      repeat' (first | (go_at_call 33; go_must ((with_reducible refine Calls.mono HW.out ?_); rintro _ W4 ⟨rfl, hb3⟩; have hst4 := hst2.step hb3; have hC4 := hC.step hb3; have hh := hC4; have q0 := hh.cell 0; have q1 := hh.cell 1; have q2 := hh.cell 2; have q3 := hh.cell 3; have q4 := hh.cell 4; have q5 := hh.cell 5; have q6 := hh.cell 6; have q7 := hh.cell 7; have ql := hh.lt; simp at q0 q1 q2 q3 q4 q5 q6 q7; clear hh; have ha := (hst4).box; have g0 := ha.cell 0; have g1 := ha.cell 1; have g2 := ha.cell 2; have g3 := ha.cell 3; have gl := ha.lt; simp at g0 g1 g2 g3; clear ha; dsimp only)) | (with_reducible refine stop_region 20 ?_) | (with_reducible refine Keep.last ?_) | (with_reducible refine Keep.below (by assumption) ?_) | (with_reducible refine Keep.kept (by assumption) ?_) | (with_reducible refine Keep.alloc ?_) | (with_reducible refine Keep.same ?_) | ((with_reducible refine WpH.here ?_); first | (refine WpH.nil ?_; refine NoP.normal ?_) | (refine WpH.load (by rfl) (by rfl) (by go_simp; rfl) ?_; simp only [Act.put, List.setIfInBounds_toArray, List.set_cons_zero, List.set_cons_succ]) | (refine WpH.loadT (by rfl) (by rfl) (by go_simp; rfl) (by rintro _ _ ⟨⟩; exact ⟨_, _, _, _, _, _, by rfl, by assumption, by assumption⟩) ?_; simp only [Act.put, List.setIfInBounds_toArray, List.set_cons_zero, List.set_cons_succ]) | (refine WpH.pure (by rfl) (fun w_ => by go_simp; (try go_bits); rfl) ?_; simp only [Act.put, List.setIfInBounds_toArray, List.set_cons_zero, List.set_cons_succ]) | (refine WpH.wild1 (by rfl) (fun _ _ => ?_)) | (refine WpH.skip (by rfl) ?_; simp only [Act.put, List.setIfInBounds_toArray, List.set_cons_zero, List.set_cons_succ])) | go_values | go_skip | go_guarded | go_step | go_upon | go_back)
      refine Stop.go ?_
      rcases Int.emod_two_eq x.do_ with hd2 | hd2
      · have HWi := hid (fun W => within_any x.do_ 2 (by decide) (by decide) W)
        rw [hd2] at HWi
        obtain ⟨p, hp⟩ : ∃ p : Nat, x.i % ((X.length : Int) + 1) = p := ⟨(x.i % ((X.length : Int) + 1)).toNat, by rw [Int.toNat_of_nonneg (Int.emod_nonneg _ (by omega))]⟩
        have hpL : p ≤ X.length := by have := Int.emod_lt_of_pos x.i (show (0 : Int) < X.length + 1 by omega); omega
        have HWp := hid (fun W => within_any x.i ((X.length : Int) + 1) (by omega) (by omega) W)
        rw [hp] at HWp
        clear hp hd2
        obtain ⟨xdo, xi, xdn, xe⟩ := x
        dsimp only at HWi HWp hC4 q0 q1 q2 q3 q4 q5 q6 q7 hxin
        have hcl := wrongS_le (X.map El.nm) xe
        by_cases hw0 : wrongS (X.map El.nm) xe = 0
        · have HI := hid (refInsert_ok A' X.length c' p X _ xe W4 hst4.row (by omega) hpL hw0)
          unfold noNone at HI
          have hgd : xe.Good ∧ xe.nm ∉ X.map El.nm := by
            rcases wrongS_cases (X.map El.nm) xe with ⟨h1, _⟩ | ⟨h1, _⟩ | ⟨h1, _⟩ | ⟨_, h2, h3, h4⟩
            · omega
            · omega
            · omega
            · exact ⟨⟨h2, h3, ⟨hxin.1, hxin.2.1, hxin.2.2.1⟩⟩, h4⟩
          obtain ⟨hgd, hnn⟩ := hgd
          have hlen' : (X.take p ++ xe :: X.drop p).length = X.length + 1 := by simp; omega
          have hsub : ∀ {id : Nm}, id ∈ X.map El.nm → id ∈ (X.take p ++ xe :: X.drop p).map El.nm := fun {id} h => (mem_ins X p xe id).1 (List.mem_cons_of_mem _ h)
          have HLv := hid (fun W => refLive_any xe W)
          clear hw0 hcl
          by_cases hpo : (p : Int) ≤ (-1)
          · skip
            as_aux_lemma =>
              exact absurd hpo (by omega)
          · skip
            as_aux_lemma =>
              repeat' (first | (go_at_call 26; go_must ((first | (with_reducible refine Calls.mono (HWi.out _) ?_) | (with_reducible refine Calls.mono (HWp.out _) ?_)); rintro _ _ ⟨rfl, rfl⟩; dsimp only)) | (go_at_call 46; go_must ((with_reducible refine Calls.mono HI.out ?_); rintro _ w5 ⟨A2, c2, rfl, hO2, hb5⟩; have eN : Below w5.heap.size w5 (w5.alloc (.cells #[.int .i64 0, .slice none 0 0, .slice none 0 0] 75)) := balloc (Below.refl _ _); have hst6 := (hst4.step hb5).step eN; have hC6 := (hC4.step hb5).step eN; have hh := hC6; have q0 := hh.cell 0; have q1 := hh.cell 1; have q2 := hh.cell 2; have q3 := hh.cell 3; have q4 := hh.cell 4; have q5 := hh.cell 5; have q6 := hh.cell 6; have q7 := hh.cell 7; have ql := hh.lt; simp at q0 q1 q2 q3 q4 q5 q6 q7; clear hh; have hr6 := (hO2.row (S := fun b => ¬ SM b) fun b h1 h2 h3 => (by have := (hst4.own b h3).2.1; omega)).step eN; have HMI := hid (minsert_ok _ SM mb X K p xe hst6.mdl (by omega) (by omega) hpL hgd hnn); dsimp only)) | (go_at_call 38; go_must ((with_reducible refine Calls.mono HMI.out ?_); rintro _ w7 ⟨rfl, hM7, hO7⟩; have hst7 := hst6.turned hM7 hO7 (by rw [hlen']; exact hr6) (hst4.there.imp id hsub); have hC7 := hO7.blk hC6 (fun h => by have := (hst.own _ h).2.1; omega); have hh := hC7; have q0 := hh.cell 0; have q1 := hh.cell 1; have q2 := hh.cell 2; have q3 := hh.cell 3; have q4 := hh.cell 4; have q5 := hh.cell 5; have q6 := hh.cell 6; have q7 := hh.cell 7; have ql := hh.lt; simp at q0 q1 q2 q3 q4 q5 q6 q7; clear hh; have ha := (hst7).box; have g0 := ha.cell 0; have g1 := ha.cell 1; have g2 := ha.cell 2; have g3 := ha.cell 3; have gl := ha.lt; simp at g0 g1 g2 g3; clear ha; have HW7 := hid (fun W (hb : Below w7.heap.size w7 W) => awhere_any W _ mb _ _ _ (hst7.step hb).mdl (by rw [hlen']; omega) hanI); rw [where_ins' hst4.there hpL hnn, Hv.out, ← Hown.out, if_neg hpo] at HW7; dsimp only at HW7; have D7 := Below.refl w7.heap.size w7; dsimp only)) | (go_at_call 47; go_must ((with_reducible refine Calls.mono (HLv.out _) ?_); rintro _ w8 ⟨rfl, hb8⟩; have D7 : Below w7.heap.size w7 w8 := hb8; have ha := (hst7.step hb8).box; have g0 := ha.cell 0; have g1 := ha.cell 1; have g2 := ha.cell 2; have g3 := ha.cell 3; have gl := ha.lt; simp at g0 g1 g2 g3; clear ha; dsimp only)) | (go_at_call 33; go_must ((with_reducible refine Calls.mono (HW7.out _ D7) ?_); rintro _ w9 ⟨rfl, hb9⟩; dsimp only)) | (with_reducible refine Keep.last ?_) | (with_reducible refine Keep.below (by assumption) ?_) | (with_reducible refine Keep.kept (by assumption) ?_) | (with_reducible refine Keep.alloc ?_) | (with_reducible refine Keep.same ?_) | ((with_reducible refine WpH.here ?_); first | (refine WpH.nil ?_; refine NoP.normal ?_) | (refine WpH.load (by rfl) (by rfl) (by go_simp; rfl) ?_; simp only [Act.put, List.setIfInBounds_toArray, List.set_cons_zero, List.set_cons_succ]) | (refine WpH.loadT (by rfl) (by rfl) (by go_simp; rfl) (by rintro _ _ ⟨⟩; exact ⟨_, _, _, _, _, _, by rfl, by assumption, by assumption⟩) ?_; simp only [Act.put, List.setIfInBounds_toArray, List.set_cons_zero, List.set_cons_succ]) | (refine WpH.pure (by rfl) (fun w_ => by go_simp; (try go_bits); rfl) ?_; simp only [Act.put, List.setIfInBounds_toArray, List.set_cons_zero, List.set_cons_succ]) | (refine WpH.wild1 (by rfl) (fun _ _ => ?_)) | (refine WpH.skip (by rfl) ?_; simp only [Act.put, List.setIfInBounds_toArray, List.set_cons_zero, List.set_cons_succ])) | go_values | go_skip | go_guarded | go_step | go_upon | go_back)
              go_roundw
              case rel => exact ⟨k + 1, A2, c2, X.take p ++ xe :: X.drop p, _, K + 1, by go_num, by rw [hlen'], by omega, by omega, by rw [hlen']; omega, by omega, hst7.step (bvia D7 hb9)⟩
              case measure => simp [intOf]; omega
        · have HI := hid (refInsert_no A' X.length c' p (wrongS (X.map El.nm) xe) X _ (fun _ => False) xe W4 hst4.row (by omega) hpL rfl (by omega) hcl)
          generalize wrongS (X.map El.nm) xe = code at *
          have hc0 : ¬ ((code : Int) = 0) := by omega
          repeat' (first | (go_at_call 26; go_must ((first | (with_reducible refine Calls.mono (HWi.out _) ?_) | (with_reducible refine Calls.mono (HWp.out _) ?_)); rintro _ _ ⟨rfl, rfl⟩; dsimp only)) | (go_at_call 46; go_must ((with_reducible refine Calls.mono HI.out ?_); rintro _ w5 ⟨v5, rfl, ⟨h1', B, m5, d5, C5, q5, rfl, hr1, hr2⟩, hb5⟩; clear hr1 hr2; dsimp only)) | (with_reducible refine Keep.last ?_) | (with_reducible refine Keep.below (by assumption) ?_) | (with_reducible refine Keep.kept (by assumption) ?_) | (with_reducible refine Keep.alloc ?_) | (with_reducible refine Keep.same ?_) | ((with_reducible refine WpH.here ?_); first | (refine WpH.nil ?_; refine NoP.normal ?_) | (refine WpH.load (by rfl) (by rfl) (by go_simp; rfl) ?_; simp only [Act.put, List.setIfInBounds_toArray, List.set_cons_zero, List.set_cons_succ]) | (refine WpH.loadT (by rfl) (by rfl) (by go_simp; rfl) (by rintro _ _ ⟨⟩; exact ⟨_, _, _, _, _, _, by rfl, by assumption, by assumption⟩) ?_; simp only [Act.put, List.setIfInBounds_toArray, List.set_cons_zero, List.set_cons_succ]) | (refine WpH.pure (by rfl) (fun w_ => by go_simp; (try go_bits); rfl) ?_; simp only [Act.put, List.setIfInBounds_toArray, List.set_cons_zero, List.set_cons_succ]) | (refine WpH.wild1 (by rfl) (fun _ _ => ?_)) | (refine WpH.skip (by rfl) ?_; simp only [Act.put, List.setIfInBounds_toArray, List.set_cons_zero, List.set_cons_succ])) | go_values | go_skip | go_guarded | go_step | go_upon | go_back)
          go_roundw
          case rel => exact ⟨k + 1, A', c', X, SM, K, by go_num, rfl, by omega, by omega, by omega, by omega, hst4.step (balloc hb5)⟩
          case measure => simp [intOf]; omega
      · have HWi := hid (fun W => within_any x.do_ 2 (by decide) (by decide) W)
        rw [hd2] at HWi
        clear hd2
        by_cases hX0 : X.length = 0
        · skip
          have hX0' : ¬ (X.length : Int) > 0 := by omega
          have HW4 := hid (awhere_any _ _ mb X K _ hst4.mdl (by omega) hanI)
          rw [Hv.out] at HW4
          dsimp only at HW4
          clear hX0
          repeat' (first | (go_at_call 26; go_must ((with_reducible refine Calls.mono (HWi.out _) ?_); rintro _ _ ⟨rfl, rfl⟩; dsimp only)) | (go_at_call 33; go_must ((with_reducible refine Calls.mono HW4.out ?_); rintro _ w9 ⟨rfl, hb9⟩; dsimp only)) | (with_reducible refine Keep.last ?_) | (with_reducible refine Keep.below (by assumption) ?_) | (with_reducible refine Keep.kept (by assumption) ?_) | (with_reducible refine Keep.alloc ?_) | (with_reducible refine Keep.same ?_) | ((with_reducible refine WpH.here ?_); first | (refine WpH.nil ?_; refine NoP.normal ?_) | (refine WpH.load (by rfl) (by rfl) (by go_simp; rfl) ?_; simp only [Act.put, List.setIfInBounds_toArray, List.set_cons_zero, List.set_cons_succ]) | (refine WpH.loadT (by rfl) (by rfl) (by go_simp; rfl) (by rintro _ _ ⟨⟩; exact ⟨_, _, _, _, _, _, by rfl, by assumption, by assumption⟩) ?_; simp only [Act.put, List.setIfInBounds_toArray, List.set_cons_zero, List.set_cons_succ]) | (refine WpH.pure (by rfl) (fun w_ => by go_simp; (try go_bits); rfl) ?_; simp only [Act.put, List.setIfInBounds_toArray, List.set_cons_zero, List.set_cons_succ]) | (refine WpH.wild1 (by rfl) (fun _ _ => ?_)) | (refine WpH.skip (by rfl) ?_; simp only [Act.put, List.setIfInBounds_toArray, List.set_cons_zero, List.set_cons_succ])) | go_values | go_skip | go_guarded | go_step | go_upon | go_back)
          go_roundw
          case rel => exact ⟨k + 1, A', c', X, SM, K, by go_num, rfl, by omega, by omega, by omega, by omega, hst4.step hb9⟩
          case measure => simp [intOf]; omega
        · have hX0' : (X.length : Int) > 0 := by omega
          obtain ⟨p, hp⟩ : ∃ p : Nat, x.i % (X.length : Int) = p := ⟨(x.i % (X.length : Int)).toNat, by rw [Int.toNat_of_nonneg (Int.emod_nonneg _ (by omega))]⟩
          have hpL : p < X.length := by have := Int.emod_lt_of_pos x.i (show (0 : Int) < X.length by omega); omega
          have HWp := hid (fun W => within_any x.i (X.length : Int) (by omega) (by omega) W)
          rw [hp] at HWp
          obtain ⟨xdo, xi, xdn, xe⟩ := x
          dsimp only at HWi HWp hC4 q0 q1 q2 q3 q4 q5 q6 q7 hxin
          clear hX0 hp
          have he : X[p]? = some X[p] := List.getElem?_eq_getElem hpL
          generalize X[p] = e at he
          have hgb := fairH_bounds (hst4.mdl.good e (List.mem_of_getElem? he)).hides
          have hm0 : -9223372036854775808 ≤ e.hides + 1 := by omega
          have hm1 : e.hides + 1 ≤ 9223372036854775807 := by omega
          have hm2 : -9223372036854775808 ≤ e.hides + -1 := by omega
          have hm3 : e.hides + -1 ≤ 9223372036854775807 := by omega
          have hpLi : (p : Int) < X.length := by omega
          have He := hid he
          clear he
          cases xdn
          · skip
            as_aux_lemma =>
              cases hf : fairH (e.hides + 1)
              · have HA := hid (refAdd_no A' X.length c' p X _ (fun _ => False) e 1 (by omega) W4 hst4.row (by omega) He.out (by omega) hf)
                repeat' (first | (go_at_call 26; go_must ((first | (with_reducible refine Calls.mono (HWi.out _) ?_) | (with_reducible refine Calls.mono (HWp.out _) ?_)); rintro _ _ ⟨rfl, rfl⟩; dsimp only)) | (go_at_call 48; go_must ((with_reducible refine Calls.mono HA.out ?_); rintro _ w5 ⟨v5, rfl, ⟨h1', B, m5, d5, C5, q5, rfl, hr1, hr2⟩, hb5⟩; clear hr1 hr2; dsimp only)) | (with_reducible refine Keep.last ?_) | (with_reducible refine Keep.below (by assumption) ?_) | (with_reducible refine Keep.kept (by assumption) ?_) | (with_reducible refine Keep.alloc ?_) | (with_reducible refine Keep.same ?_) | ((with_reducible refine WpH.here ?_); first | (refine WpH.nil ?_; refine NoP.normal ?_) | (refine WpH.load (by rfl) (by rfl) (by go_simp; rfl) ?_; simp only [Act.put, List.setIfInBounds_toArray, List.set_cons_zero, List.set_cons_succ]) | (refine WpH.loadT (by rfl) (by rfl) (by go_simp; rfl) (by rintro _ _ ⟨⟩; exact ⟨_, _, _, _, _, _, by rfl, by assumption, by assumption⟩) ?_; simp only [Act.put, List.setIfInBounds_toArray, List.set_cons_zero, List.set_cons_succ]) | (refine WpH.pure (by rfl) (fun w_ => by go_simp; (try go_bits); rfl) ?_; simp only [Act.put, List.setIfInBounds_toArray, List.set_cons_zero, List.set_cons_succ]) | (refine WpH.wild1 (by rfl) (fun _ _ => ?_)) | (refine WpH.skip (by rfl) ?_; simp only [Act.put, List.setIfInBounds_toArray, List.set_cons_zero, List.set_cons_succ])) | go_values | go_skip | go_guarded | go_step | go_upon | go_back)
                go_roundw
                case rel => exact ⟨k + 1, A', c', X, SM, K, by go_num, rfl, by omega, by omega, by omega, by omega, hst4.step (balloc hb5)⟩
                case measure => simp [intOf]; omega
              · have HA := hid (refAdd_ok A' X.length c' p X _ e 1 (by omega) W4 hst4.row (by omega) He.out hf)
                unfold noNone at HA
                obtain ⟨v', hv1, hv2, hv3⟩ := where_set' (d := 1) hst4.there He.out
                rw [Hv.out, ← Hown.out] at hv2 hv3
                dsimp only at hv2 hv3
                have Hv1 := hid hv1
                have hnms := map_nm_set X p e 1 He.out
                have Hnm := hid hnms
                clear hv1 hnms
                by_cases hpo : (p : Int) ≤ (-1)
                · have hv2' := hv2 hpo
                  have Hv2 := hid hv2'
                  clear hv2 hv3 hv2'
                  have hl1 := e.live_le
                  have hl2 := (e.hide 1).live_le
                  exact absurd hpo (by omega)
                · have hv3' := hv3 hpo
                  subst hv3'
                  clear hv2 hv3
                  repeat' (first | (go_at_call 26; go_must ((first | (with_reducible refine Calls.mono (HWi.out _) ?_) | (with_reducible refine Calls.mono (HWp.out _) ?_)); rintro _ _ ⟨rfl, rfl⟩; dsimp only)) | (go_at_call 48; go_must ((with_reducible refine Calls.mono HA.out ?_); rintro _ w5 ⟨A2, c2, rfl, hO2, hb5⟩; have eN : Below w5.heap.size w5 (w5.alloc (.cells #[.int .i64 0, .slice none 0 0, .slice none 0 0] 75)) := balloc (Below.refl _ _); have hst6 := (hst4.step hb5).step eN; have hr6 := (hO2.row (S := fun b => ¬ SM b) fun b h1 h2 h3 => (by have := (hst4.own b h3).2.1; omega)).step eN; have HMA := hid (madd_ok _ SM mb X K p e 1 (by omega) hst6.mdl (by omega) He.out hf); dsimp only)) | (go_at_call 40; go_must ((with_reducible refine Calls.mono HMA.out ?_); rintro _ w7 ⟨rfl, hM7, hO7⟩; have hst7 := hst6.turned (A' := A2) (c' := c2) (X' := X.set p (e.hide 1)) hM7 hO7 (by rw [List.length_set]; exact hr6) (by rw [Hnm.out]; exact hst4.there); have ha := (hst7).box; have g0 := ha.cell 0; have g1 := ha.cell 1; have g2 := ha.cell 2; have g3 := ha.cell 3; have gl := ha.lt; simp at g0 g1 g2 g3; clear ha; have HW7 := hid (awhere_any w7 _ mb _ _ _ hst7.mdl (by rw [List.length_set]; omega) hanI); rw [Hv1.out] at HW7; dsimp only at HW7; dsimp only)) | (go_at_call 33; go_must ((with_reducible refine Calls.mono HW7.out ?_); rintro _ w9 ⟨rfl, hb9⟩; dsimp only)) | (with_reducible refine Keep.last ?_) | (with_reducible refine Keep.below (by assumption) ?_) | (with_reducible refine Keep.kept (by assumption) ?_) | (with_reducible refine Keep.alloc ?_) | (with_reducible refine Keep.same ?_) | ((with_reducible refine WpH.here ?_); first | (refine WpH.nil ?_; refine NoP.normal ?_) | (refine WpH.load (by rfl) (by rfl) (by go_simp; rfl) ?_; simp only [Act.put, List.setIfInBounds_toArray, List.set_cons_zero, List.set_cons_succ]) | (refine WpH.loadT (by rfl) (by rfl) (by go_simp; rfl) (by rintro _ _ ⟨⟩; exact ⟨_, _, _, _, _, _, by rfl, by assumption, by assumption⟩) ?_; simp only [Act.put, List.setIfInBounds_toArray, List.set_cons_zero, List.set_cons_succ]) | (refine WpH.pure (by rfl) (fun w_ => by go_simp; (try go_bits); rfl) ?_; simp only [Act.put, List.setIfInBounds_toArray, List.set_cons_zero, List.set_cons_succ]) | (refine WpH.wild1 (by rfl) (fun _ _ => ?_)) | (refine WpH.skip (by rfl) ?_; simp only [Act.put, List.setIfInBounds_toArray, List.set_cons_zero, List.set_cons_succ])) | go_values | go_skip | go_guarded | go_step | go_upon | go_back)
                  go_roundw
                  case rel => exact ⟨k + 1, A2, c2, X.set p (e.hide 1), _, K, by go_num, by rw [List.length_set], by omega, by omega, by rw [List.length_set]; omega, by omega, hst7.step hb9⟩
                  case measure => simp [intOf]; omega
          · skip
            as_aux_lemma =>
              cases hf : fairH (e.hides + (-1))
              · have HA := hid (refAdd_no A' X.length c' p X _ (fun _ => False) e (-1) (by omega) W4 hst4.row (by omega) He.out (by omega) hf)
                repeat' (first | (go_at_call 26; go_must ((first | (with_reducible refine Calls.mono (HWi.out _) ?_) | (with_reducible refine Calls.mono (HWp.out _) ?_)); rintro _ _ ⟨rfl, rfl⟩; dsimp only)) | (go_at_call 48; go_must ((with_reducible refine Calls.mono HA.out ?_); rintro _ w5 ⟨v5, rfl, ⟨h1', B, m5, d5, C5, q5, rfl, hr1, hr2⟩, hb5⟩; clear hr1 hr2; dsimp only)) | (with_reducible refine Keep.last ?_) | (with_reducible refine Keep.below (by assumption) ?_) | (with_reducible refine Keep.kept (by assumption) ?_) | (with_reducible refine Keep.alloc ?_) | (with_reducible refine Keep.same ?_) | ((with_reducible refine WpH.here ?_); first | (refine WpH.nil ?_; refine NoP.normal ?_) | (refine WpH.load (by rfl) (by rfl) (by go_simp; rfl) ?_; simp only [Act.put, List.setIfInBounds_toArray, List.set_cons_zero, List.set_cons_succ]) | (refine WpH.loadT (by rfl) (by rfl) (by go_simp; rfl) (by rintro _ _ ⟨⟩; exact ⟨_, _, _, _, _, _, by rfl, by assumption, by assumption⟩) ?_; simp only [Act.put, List.setIfInBounds_toArray, List.set_cons_zero, List.set_cons_succ]) | (refine WpH.pure (by rfl) (fun w_ => by go_simp; (try go_bits); rfl) ?_; simp only [Act.put, List.setIfInBounds_toArray, List.set_cons_zero, List.set_cons_succ]) | (refine WpH.wild1 (by rfl) (fun _ _ => ?_)) | (refine WpH.skip (by rfl) ?_; simp only [Act.put, List.setIfInBounds_toArray, List.set_cons_zero, List.set_cons_succ])) | go_values | go_skip | go_guarded | go_step | go_upon | go_back)
                go_roundw
                case rel => exact ⟨k + 1, A', c', X, SM, K, by go_num, rfl, by omega, by omega, by omega, by omega, hst4.step (balloc hb5)⟩
                case measure => simp [intOf]; omega
              · have HA := hid (refAdd_ok A' X.length c' p X _ e (-1) (by omega) W4 hst4.row (by omega) He.out hf)
                unfold noNone at HA
                obtain ⟨v', hv1, hv2, hv3⟩ := where_set' (d := (-1)) hst4.there He.out
                rw [Hv.out, ← Hown.out] at hv2 hv3
                dsimp only at hv2 hv3
                have Hv1 := hid hv1
                have hnms := map_nm_set X p e (-1) He.out
                have Hnm := hid hnms
                clear hv1 hnms
                by_cases hpo : (p : Int) ≤ (-1)
                · have hv2' := hv2 hpo
                  have Hv2 := hid hv2'
                  clear hv2 hv3 hv2'
                  have hl1 := e.live_le
                  have hl2 := (e.hide (-1)).live_le
                  exact absurd hpo (by omega)
                · have hv3' := hv3 hpo
                  subst hv3'
                  clear hv2 hv3
                  repeat' (first | (go_at_call 26; go_must ((first | (with_reducible refine Calls.mono (HWi.out _) ?_) | (with_reducible refine Calls.mono (HWp.out _) ?_)); rintro _ _ ⟨rfl, rfl⟩; dsimp only)) | (go_at_call 48; go_must ((with_reducible refine Calls.mono HA.out ?_); rintro _ w5 ⟨A2, c2, rfl, hO2, hb5⟩; have eN : Below w5.heap.size w5 (w5.alloc (.cells #[.int .i64 0, .slice none 0 0, .slice none 0 0] 75)) := balloc (Below.refl _ _); have hst6 := (hst4.step hb5).step eN; have hr6 := (hO2.row (S := fun b => ¬ SM b) fun b h1 h2 h3 => (by have := (hst4.own b h3).2.1; omega)).step eN; have HMA := hid (madd_ok _ SM mb X K p e (-1) (by omega) hst6.mdl (by omega) He.out hf); dsimp only)) | (go_at_call 40; go_must ((with_reducible refine Calls.mono HMA.out ?_); rintro _ w7 ⟨rfl, hM7, hO7⟩; have hst7 := hst6.turned (A' := A2) (c' := c2) (X' := X.set p (e.hide (-1))) hM7 hO7 (by rw [List.length_set]; exact hr6) (by rw [Hnm.out]; exact hst4.there); have ha := (hst7).box; have g0 := ha.cell 0; have g1 := ha.cell 1; have g2 := ha.cell 2; have g3 := ha.cell 3; have gl := ha.lt; simp at g0 g1 g2 g3; clear ha; have HW7 := hid (awhere_any w7 _ mb _ _ _ hst7.mdl (by rw [List.length_set]; omega) hanI); rw [Hv1.out] at HW7; dsimp only at HW7; dsimp only)) | (go_at_call 33; go_must ((with_reducible refine Calls.mono HW7.out ?_); rintro _ w9 ⟨rfl, hb9⟩; dsimp only)) | (with_reducible refine Keep.last ?_) | (with_reducible refine Keep.below (by assumption) ?_) | (with_reducible refine Keep.kept (by assumption) ?_) | (with_reducible refine Keep.alloc ?_) | (with_reducible refine Keep.same ?_) | ((with_reducible refine WpH.here ?_); first | (refine WpH.nil ?_; refine NoP.normal ?_) | (refine WpH.load (by rfl) (by rfl) (by go_simp; rfl) ?_; simp only [Act.put, List.setIfInBounds_toArray, List.set_cons_zero, List.set_cons_succ]) | (refine WpH.loadT (by rfl) (by rfl) (by go_simp; rfl) (by rintro _ _ ⟨⟩; exact ⟨_, _, _, _, _, _, by rfl, by assumption, by assumption⟩) ?_; simp only [Act.put, List.setIfInBounds_toArray, List.set_cons_zero, List.set_cons_succ]) | (refine WpH.pure (by rfl) (fun w_ => by go_simp; (try go_bits); rfl) ?_; simp only [Act.put, List.setIfInBounds_toArray, List.set_cons_zero, List.set_cons_succ]) | (refine WpH.wild1 (by rfl) (fun _ _ => ?_)) | (refine WpH.skip (by rfl) ?_; simp only [Act.put, List.setIfInBounds_toArray, List.set_cons_zero, List.set_cons_succ])) | go_values | go_skip | go_guarded | go_step | go_upon | go_back)
                  go_roundw
                  case rel => exact ⟨k + 1, A2, c2, X.set p (e.hide (-1)), _, K, by go_num, by rw [List.length_set], by omega, by omega, by rw [List.length_set]; omega, by omega, hst7.step hb9⟩
                  case measure => simp [intOf]; omega
    · have HK := hid (wakes13_any wr _ (Hs.out.step hbr))
      by_cases hlt1 : k < m
      · have hk40 : ¬ (k : Int) < 40 := by omega
        have hkm : (k : Int) < m := by omega
        clear hlt
        repeat' (first | (go_at_call 34; go_must ((with_reducible refine Calls.mono HK.out ?_); rintro _ w9 ⟨rfl, hb9⟩; dsimp only)) | (with_reducible refine Keep.last ?_) | (with_reducible refine Keep.below (by assumption) ?_) | (with_reducible refine Keep.kept (by assumption) ?_) | (with_reducible refine Keep.alloc ?_) | (with_reducible refine Keep.same ?_) | ((with_reducible refine WpH.here ?_); first | (refine WpH.nil ?_; refine NoP.normal ?_) | (refine WpH.load (by rfl) (by rfl) (by go_simp; rfl) ?_; simp only [Act.put, List.setIfInBounds_toArray, List.set_cons_zero, List.set_cons_succ]) | (refine WpH.loadT (by rfl) (by rfl) (by go_simp; rfl) (by rintro _ _ ⟨⟩; exact ⟨_, _, _, _, _, _, by rfl, by assumption, by assumption⟩) ?_; simp only [Act.put, List.setIfInBounds_toArray, List.set_cons_zero, List.set_cons_succ]) | (refine WpH.pure (by rfl) (fun w_ => by go_simp; (try go_bits); rfl) ?_; simp only [Act.put, List.setIfInBounds_toArray, List.set_cons_zero, List.set_cons_succ]) | (refine WpH.wild1 (by rfl) (fun _ _ => ?_)) | (refine WpH.skip (by rfl) ?_; simp only [Act.put, List.setIfInBounds_toArray, List.set_cons_zero, List.set_cons_succ])) | go_values | go_skip | go_guarded | go_step | go_upon | go_back)
        go_ret
        exact ⟨rfl, bvia hbr hb9⟩
      · obtain rfl : k = m := by omega
        clear hlt
        repeat' (first | (go_at_call 34; go_must ((with_reducible refine Calls.mono HK.out ?_); rintro _ w9 ⟨rfl, hb9⟩; dsimp only)) | (with_reducible refine Keep.last ?_) | (with_reducible refine Keep.below (by assumption) ?_) | (with_reducible refine Keep.kept (by assumption) ?_) | (with_reducible refine Keep.alloc ?_) | (with_reducible refine Keep.same ?_) | ((with_reducible refine WpH.here ?_); first | (refine WpH.nil ?_; refine NoP.normal ?_) | (refine WpH.load (by rfl) (by rfl) (by go_simp; rfl) ?_; simp only [Act.put, List.setIfInBounds_toArray, List.set_cons_zero, List.set_cons_succ]) | (refine WpH.loadT (by rfl) (by rfl) (by go_simp; rfl) (by rintro _ _ ⟨⟩; exact ⟨_, _, _, _, _, _, by rfl, by assumption, by assumption⟩) ?_; simp only [Act.put, List.setIfInBounds_toArray, List.set_cons_zero, List.set_cons_succ]) | (refine WpH.pure (by rfl) (fun w_ => by go_simp; (try go_bits); rfl) ?_; simp only [Act.put, List.setIfInBounds_toArray, List.set_cons_zero, List.set_cons_succ]) | (refine WpH.wild1 (by rfl) (fun _ _ => ?_)) | (refine WpH.skip (by rfl) ?_; simp only [Act.put, List.setIfInBounds_toArray, List.set_cons_zero, List.set_cons_succ])) | go_values | go_skip | go_guarded | go_step | go_upon | go_back)
        go_ret
        exact ⟨rfl, bvia hbr hb9⟩
set_option maxRecDepth 200000 in
set_option maxHeartbeats 16000000 in
theorem astays_front (w : World) (A C : Option Addr) (n c m d : Nat) (at_ : Int) (ls : List El) (cs : List Chg) (S S' : Nat → Prop) (hr : Row w S A n c ls) (hin : ∀ e ∈ ls, e.In) (hc : GRow w S C m d cs) (hci : ∀ x ∈ cs, x.e.In) (hs : Sents w S' a) (h0 : 0 < (accOf ls).length ∧ ¬ at_ % (((accOf ls).length : Int) + 1) < (accOf ls).length) :
    Calls Tryd.prog 9 #[.slice A n c, .int .i64 at_, .slice C m d] w fun e w' => e = .returned (.bool true) ∧ Below w.heap.size w w' := by
  have HB := hid (begun13_any w A n c ls S hr hin)
  have Hs := hid hs
  have Hc := hid hc
  have Hci := hid hci
  have hml := hc.1
  have hmm := hc.len_le
  unfold maxLen at hmm
  have Hh := hid h0
  clear hr hin hs hc hci
  go_enter Tryd.func9, Tryd.ntmps9
  repeat' (first | (go_at_call 30; go_must ((with_reducible refine Calls.mono HB.out ?_); rintro _ w1 ⟨⟨mb, A1, c1_, X0, n1, hXe, rfl, hM, hrow, hn1, hR, h80, hXin⟩, hb1⟩; have HXe := hid hXe; clear hXe; dsimp only)) | (with_reducible refine stop_region 5 ?_) | (with_reducible refine Keep.last ?_) | (with_reducible refine Keep.below (by assumption) ?_) | (with_reducible refine Keep.kept (by assumption) ?_) | (with_reducible refine Keep.alloc ?_) | (with_reducible refine Keep.same ?_) | ((with_reducible refine WpH.here ?_); first | (refine WpH.nil ?_; refine NoP.normal ?_) | (refine WpH.load (by rfl) (by rfl) (by go_simp; rfl) ?_; simp only [Act.put, List.setIfInBounds_toArray, List.set_cons_zero, List.set_cons_succ]) | (refine WpH.loadT (by rfl) (by rfl) (by go_simp; rfl) (by rintro _ _ ⟨⟩; exact ⟨_, _, _, _, _, _, by rfl, by assumption, by assumption⟩) ?_; simp only [Act.put, List.setIfInBounds_toArray, List.set_cons_zero, List.set_cons_succ]) | (refine WpH.pure (by rfl) (fun w_ => by go_simp; (try go_bits); rfl) ?_; simp only [Act.put, List.setIfInBounds_toArray, List.set_cons_zero, List.set_cons_succ]) | (refine WpH.wild1 (by rfl) (fun _ _ => ?_)) | (refine WpH.skip (by rfl) ?_; simp only [Act.put, List.setIfInBounds_toArray, List.set_cons_zero, List.set_cons_succ])) | go_values | go_skip | go_guarded | go_step | go_upon | go_back)
  refine Stop.go ?_
  have hh0 := Hh.out
  rw [← HXe.out] at hh0
  clear HXe
  have hXn := hid (fun (e : El) (he : e ∈ X0) => (⟨(hXin e he).1, (hXin e he).2.1, (hXin e he).2.2.1⟩ : e.nm.In))
  have hz1 := hb1.size
  have hM1 := hM.more (S' := fun b => n1 ≤ b ∧ b < w1.heap.size) fun b h1 h2 => ⟨h2, h1⟩
  have hrow1 := hrow.more (S' := fun b => ¬ (n1 ≤ b ∧ b < w1.heap.size)) fun b _ h h2 => by omega
  have Hst0 := hid (fun (an : Anc) (h : an.front = true ∨ an.id ∈ X0.map El.nm) => (⟨hM1.step (balloc (Below.refl _ _)), fun b hs => ⟨by omega, by rw [boxSz]; omega, by omega⟩, hrow1.step (balloc (Below.refl _ _)), Blk.new w1 _ _, h, balloc hb1⟩ : StaysAt w mb w1.heap.size X0.length an A1 c1_ X0 (fun b => n1 ≤ b ∧ b < w1.heap.size) (w1.alloc (.cells #[.bool an.front, .int .i64 an.id.epoch, .int .i64 an.id.rep, .int .i64 an.id.num] 57))))
  clear HB hR hXin hM hM1 hrow1 Hh
  obtain ⟨h0, hh0⟩ := hh0
  have hX0 : (X0.length : Int) > 0 := by omega
  obtain ⟨kk, hkk⟩ : ∃ kk : Nat, at_ % ((X0.length : Int) + 1) = kk := ⟨(at_ % ((X0.length : Int) + 1)).toNat, by rw [Int.toNat_of_nonneg (Int.emod_nonneg _ (by omega))]⟩
  have HI0 := hid (fun W => within_any at_ ((X0.length : Int) + 1) (by omega) (by omega) W)
  rw [hkk] at HI0 hh0
  have hanI : (⟨true, ⟨0, 0, 0⟩⟩ : Anc).id.In := ⟨⟨by decide, by decide⟩, ⟨by decide, by decide⟩, ⟨by decide, by decide⟩⟩
  have hst0 := Hst0.out ⟨true, ⟨0, 0, 0⟩⟩ (.inl rfl)
  clear Hst0 h0 hkk
  repeat' (first | (go_at_call 26; go_must ((with_reducible refine Calls.mono (HI0.out _) ?_); rintro _ _ ⟨rfl, rfl⟩; dsimp only)) | (with_reducible refine Keep.last ?_) | (with_reducible refine Keep.below (by assumption) ?_) | (with_reducible refine Keep.kept (by assumption) ?_) | (with_reducible refine Keep.alloc ?_) | (with_reducible refine Keep.same ?_) | ((with_reducible refine WpH.here ?_); first | (refine WpH.nil ?_; refine NoP.normal ?_) | (refine WpH.load (by rfl) (by rfl) (by go_simp; rfl) ?_; simp only [Act.put, List.setIfInBounds_toArray, List.set_cons_zero, List.set_cons_succ]) | (refine WpH.loadT (by rfl) (by rfl) (by go_simp; rfl) (by rintro _ _ ⟨⟩; exact ⟨_, _, _, _, _, _, by rfl, by assumption, by assumption⟩) ?_; simp only [Act.put, List.setIfInBounds_toArray, List.set_cons_zero, List.set_cons_succ]) | (refine WpH.pure (by rfl) (fun w_ => by go_simp; (try go_bits); rfl) ?_; simp only [Act.put, List.setIfInBounds_toArray, List.set_cons_zero, List.set_cons_succ]) | (refine WpH.wild1 (by rfl) (fun _ _ => ?_)) | (refine WpH.skip (by rfl) ?_; simp only [Act.put, List.setIfInBounds_toArray, List.set_cons_zero, List.set_cons_succ])) | go_values | go_skip | go_guarded | go_step | go_upon | go_back)
  go_loopw [8, 11] (fun xs i wr => ∃ (k : Nat) (A' : Option Addr) (c' : Nat) (X : List El) (SM : Nat → Prop) (K : Nat), i = .int .i64 k ∧ xs = .slice A' X.length c' ∧ k ≤ m ∧ k ≤ 40 ∧ X.length ≤ 80 + k ∧ K ≤ 80 + k ∧ StaysAt w mb w1.heap.size K (⟨true, ⟨0, 0, 0⟩⟩ : Anc) A' c' X SM wr) (fun _ i _ => m - (intOf i).toNat)
  case atStart => exact ⟨0, _, _, X0, _, _, rfl, by first | rfl | rw [HX0.out], Nat.zero_le _, Nat.zero_le _, by omega, by omega, hst0⟩
  case round =>
    clear hst0
    obtain ⟨k, A', c', X, SM, K, rfl, rfl, hk, hk4, hXl, hKl, hst⟩ := hrel
    have hbr := hst.below
    by_cases hlt : k < m ∧ k < 40
    · obtain ⟨hlt1, hlt2⟩ := hlt
      obtain ⟨b, off, x, rfl, hSb, hbl, hxk, hcell⟩ := (Hc.out.step hbr).at_ hlt1
      have c0 : wr.cell? ⟨b, off + k * 8, none⟩ = some (.int .i64 x.do_) := hcell 0 _ rfl
      have c1 : wr.cell? ⟨b, off + k * 8 + 1, none⟩ = some (.int .i64 x.i) := hcell 1 _ rfl
      have c2 : wr.cell? ⟨b, off + k * 8 + 2, none⟩ = some (.bool x.down) := hcell 2 _ rfl
      have c3 : wr.cell? ⟨b, off + k * 8 + 3, none⟩ = some (.int .i64 x.e.epoch) := hcell 3 _ rfl
      have c4 : wr.cell? ⟨b, off + k * 8 + 4, none⟩ = some (.int .i64 x.e.rep) := hcell 4 _ rfl
      have c5 : wr.cell? ⟨b, off + k * 8 + 5, none⟩ = some (.int .i64 x.e.num) := hcell 5 _ rfl
      have c6 : wr.cell? ⟨b, off + k * 8 + 6, none⟩ = some (.int .i32 x.e.char) := hcell 6 _ rfl
      have c7 : wr.cell? ⟨b, off + k * 8 + 7, none⟩ = some (.int .i64 x.e.hides) := hcell 7 _ rfl
      have hkm : (k : Int) < m := by omega
      have hxin := Hci.out x (List.mem_of_getElem? hxk)
      have eC := balloc (o := .cells #[.int .i64 x.do_, .int .i64 x.i, .bool x.down, .int .i64 x.e.epoch, .int .i64 x.e.rep, .int .i64 x.e.num, .int .i32 x.e.char, .int .i64 x.e.hides] 86) (Below.refl _ wr)
      have hC := Blk.new wr 86 #[.int .i64 x.do_, .int .i64 x.i, .bool x.down, .int .i64 x.e.epoch, .int .i64 x.e.rep, .int .i64 x.e.num, .int .i32 x.e.char, .int .i64 x.e.hides]
      have hst2 := hst.step eC
      have hHW := awhere_any _ _ mb X K (⟨true, ⟨0, 0, 0⟩⟩ : Anc) hst2.mdl (by omega) hanI
      have hwt := where_there hst.there
      obtain ⟨own, hown⟩ : ∃ o, o = ownOf X (⟨true, ⟨0, 0, 0⟩⟩ : Anc) := ⟨_, rfl⟩
      obtain ⟨v, hv⟩ : ∃ v, whereOf X (⟨true, ⟨0, 0, 0⟩⟩ : Anc) = (v, true) := ⟨_, hwt⟩
      rw [hv] at hHW
      dsimp only at hHW
      have HW := hid hHW
      have Hv := hid hv
      have hvl : v ≤ 200 := by have h1 := whereOf_le (l := X) (x := (⟨true, ⟨0, 0, 0⟩⟩ : Anc)); rw [hv] at h1; have := liveOf_le X; dsimp only at h1; omega
      have Hown := hid hown
      clear hHW hwt hv hcell hxk hown
      have ha := (hst2).box; have g0 := ha.cell 0; have g1 := ha.cell 1; have g2 := ha.cell 2; have g3 := ha.cell 3; have gl := ha.lt; simp at g0 g1 g2 g3; clear ha
      have hown1 : own = -1 := Hown.out.trans (ownOf_front rfl)
      subst hown1
      repeat' (first | (go_at_call 33; go_must ((with_reducible refine Calls.mono HW.out ?_); rintro _ W4 ⟨rfl, hb3⟩; have hst4 := hst2.step hb3; have hC4 := hC.step hb3; have hh := hC4; have q0 := hh.cell 0; have q1 := hh.cell 1; have q2 := hh.cell 2; have q3 := hh.cell 3; have q4 := hh.cell 4; have q5 := hh.cell 5; have q6 := hh.cell 6; have q7 := hh.cell 7; have ql := hh.lt; simp at q0 q1 q2 q3 q4 q5 q6 q7; clear hh; have ha := (hst4).box; have g0 := ha.cell 0; have g1 := ha.cell 1; have g2 := ha.cell 2; have g3 := ha.cell 3; have gl := ha.lt; simp at g0 g1 g2 g3; clear ha; dsimp only)) | (with_reducible refine stop_region 20 ?_) | (with_reducible refine Keep.last ?_) | (with_reducible refine Keep.below (by assumption) ?_) | (with_reducible refine Keep.kept (by assumption) ?_) | (with_reducible refine Keep.alloc ?_) | (with_reducible refine Keep.same ?_) | ((with_reducible refine WpH.here ?_); first | (refine WpH.nil ?_; refine NoP.normal ?_) | (refine WpH.load (by rfl) (by rfl) (by go_simp; rfl) ?_; simp only [Act.put, List.setIfInBounds_toArray, List.set_cons_zero, List.set_cons_succ]) | (refine WpH.loadT (by rfl) (by rfl) (by go_simp; rfl) (by rintro _ _ ⟨⟩; exact ⟨_, _, _, _, _, _, by rfl, by assumption, by assumption⟩) ?_; simp only [Act.put, List.setIfInBounds_toArray, List.set_cons_zero, List.set_cons_succ]) | (refine WpH.pure (by rfl) (fun w_ => by go_simp; (try go_bits); rfl) ?_; simp only [Act.put, List.setIfInBounds_toArray, List.set_cons_zero, List.set_cons_succ]) | (refine WpH.wild1 (by rfl) (fun _ _ => ?_)) | (refine WpH.skip (by rfl) ?_; simp only [Act.put, List.setIfInBounds_toArray, List.set_cons_zero, List.set_cons_succ])) | go_values | go_skip | go_guarded | go_step | go_upon | go_back)
      refine Stop.go ?_
      rcases Int.emod_two_eq x.do_ with hd2 | hd2
      · have HWi := hid (fun W => within_any x.do_ 2 (by decide) (by decide) W)
        rw [hd2] at HWi
        obtain ⟨p, hp⟩ : ∃ p : Nat, x.i % ((X.length : Int) + 1) = p := ⟨(x.i % ((X.length : Int) + 1)).toNat, by rw [Int.toNat_of_nonneg (Int.emod_nonneg _ (by omega))]⟩
        have hpL : p ≤ X.length := by have := Int.emod_lt_of_pos x.i (show (0 : Int) < X.length + 1 by omega); omega
        have HWp := hid (fun W => within_any x.i ((X.length : Int) + 1) (by omega) (by omega) W)
        rw [hp] at HWp
        clear hp hd2
        obtain ⟨xdo, xi, xdn, xe⟩ := x
        dsimp only at HWi HWp hC4 q0 q1 q2 q3 q4 q5 q6 q7 hxin
        have hcl := wrongS_le (X.map El.nm) xe
        by_cases hw0 : wrongS (X.map El.nm) xe = 0
        · have HI := hid (refInsert_ok A' X.length c' p X _ xe W4 hst4.row (by omega) hpL hw0)
          unfold noNone at HI
          have hgd : xe.Good ∧ xe.nm ∉ X.map El.nm := by
            rcases wrongS_cases (X.map El.nm) xe with ⟨h1, _⟩ | ⟨h1, _⟩ | ⟨h1, _⟩ | ⟨_, h2, h3, h4⟩
            · omega
            · omega
            · omega
            · exact ⟨⟨h2, h3, ⟨hxin.1, hxin.2.1, hxin.2.2.1⟩⟩, h4⟩
          obtain ⟨hgd, hnn⟩ := hgd
          have hlen' : (X.take p ++ xe :: X.drop p).length = X.length + 1 := by simp; omega
          have hsub : ∀ {id : Nm}, id ∈ X.map El.nm → id ∈ (X.take p ++ xe :: X.drop p).map El.nm := fun {id} h => (mem_ins X p xe id).1 (List.mem_cons_of_mem _ h)
          have HLv := hid (fun W => refLive_any xe W)
          clear hw0 hcl
          by_cases hpo : (p : Int) ≤ (-1)
          · skip
            as_aux_lemma =>
              exact absurd hpo (by omega)
          · skip
            as_aux_lemma =>
              repeat' (first | (go_at_call 26; go_must ((first | (with_reducible refine Calls.mono (HWi.out _) ?_) | (with_reducible refine Calls.mono (HWp.out _) ?_)); rintro _ _ ⟨rfl, rfl⟩; dsimp only)) | (go_at_call 46; go_must ((with_reducible refine Calls.mono HI.out ?_); rintro _ w5 ⟨A2, c2, rfl, hO2, hb5⟩; have eN : Below w5.heap.size w5 (w5.alloc (.cells #[.int .i64 0, .slice none 0 0, .slice none 0 0] 75)) := balloc (Below.refl _ _); have hst6 := (hst4.step hb5).step eN; have hC6 := (hC4.step hb5).step eN; have hh := hC6; have q0 := hh.cell 0; have q1 := hh.cell 1; have q2 := hh.cell 2; have q3 := hh.cell 3; have q4 := hh.cell 4; have q5 := hh.cell 5; have q6 := hh.cell 6; have q7 := hh.cell 7; have ql := hh.lt; simp at q0 q1 q2 q3 q4 q5 q6 q7; clear hh; have hr6 := (hO2.row (S := fun b => ¬ SM b) fun b h1 h2 h3 => (by have := (hst4.own b h3).2.1; omega)).step eN; have HMI := hid (minsert_ok _ SM mb X K p xe hst6.mdl (by omega) (by omega) hpL hgd hnn); dsimp only)) | (go_at_call 38; go_must ((with_reducible refine Calls.mono HMI.out ?_); rintro _ w7 ⟨rfl, hM7, hO7⟩; have hst7 := hst6.turned hM7 hO7 (by rw [hlen']; exact hr6) (hst4.there.imp id hsub); have hC7 := hO7.blk hC6 (fun h => by have := (hst.own _ h).2.1; omega); have hh := hC7; have q0 := hh.cell 0; have q1 := hh.cell 1; have q2 := hh.cell 2; have q3 := hh.cell 3; have q4 := hh.cell 4; have q5 := hh.cell 5; have q6 := hh.cell 6; have q7 := hh.cell 7; have ql := hh.lt; simp at q0 q1 q2 q3 q4 q5 q6 q7; clear hh; have ha := (hst7).box; have g0 := ha.cell 0; have g1 := ha.cell 1; have g2 := ha.cell 2; have g3 := ha.cell 3; have gl := ha.lt; simp at g0 g1 g2 g3; clear ha; have HW7 := hid (fun W (hb : Below w7.heap.size w7 W) => awhere_any W _ mb _ _ _ (hst7.step hb).mdl (by rw [hlen']; omega) hanI); rw [where_ins' hst4.there hpL hnn, Hv.out, ← Hown.out, if_neg hpo] at HW7; dsimp only at HW7; have D7 := Below.refl w7.heap.size w7; dsimp only)) | (go_at_call 47; go_must ((with_reducible refine Calls.mono (HLv.out _) ?_); rintro _ w8 ⟨rfl, hb8⟩; have D7 : Below w7.heap.size w7 w8 := hb8; have ha := (hst7.step hb8).box; have g0 := ha.cell 0; have g1 := ha.cell 1; have g2 := ha.cell 2; have g3 := ha.cell 3; have gl := ha.lt; simp at g0 g1 g2 g3; clear ha; dsimp only)) | (go_at_call 33; go_must ((with_reducible refine Calls.mono (HW7.out _ D7) ?_); rintro _ w9 ⟨rfl, hb9⟩; dsimp only)) | (with_reducible refine Keep.last ?_) | (with_reducible refine Keep.below (by assumption) ?_) | (with_reducible refine Keep.kept (by assumption) ?_) | (with_reducible refine Keep.alloc ?_) | (with_reducible refine Keep.same ?_) | ((with_reducible refine WpH.here ?_); first | (refine WpH.nil ?_; refine NoP.normal ?_) | (refine WpH.load (by rfl) (by rfl) (by go_simp; rfl) ?_; simp only [Act.put, List.setIfInBounds_toArray, List.set_cons_zero, List.set_cons_succ]) | (refine WpH.loadT (by rfl) (by rfl) (by go_simp; rfl) (by rintro _ _ ⟨⟩; exact ⟨_, _, _, _, _, _, by rfl, by assumption, by assumption⟩) ?_; simp only [Act.put, List.setIfInBounds_toArray, List.set_cons_zero, List.set_cons_succ]) | (refine WpH.pure (by rfl) (fun w_ => by go_simp; (try go_bits); rfl) ?_; simp only [Act.put, List.setIfInBounds_toArray, List.set_cons_zero, List.set_cons_succ]) | (refine WpH.wild1 (by rfl) (fun _ _ => ?_)) | (refine WpH.skip (by rfl) ?_; simp only [Act.put, List.setIfInBounds_toArray, List.set_cons_zero, List.set_cons_succ])) | go_values | go_skip | go_guarded | go_step | go_upon | go_back)
              go_roundw
              case rel => exact ⟨k + 1, A2, c2, X.take p ++ xe :: X.drop p, _, K + 1, by go_num, by rw [hlen'], by omega, by omega, by rw [hlen']; omega, by omega, hst7.step (bvia D7 hb9)⟩
              case measure => simp [intOf]; omega
        · have HI := hid (refInsert_no A' X.length c' p (wrongS (X.map El.nm) xe) X _ (fun _ => False) xe W4 hst4.row (by omega) hpL rfl (by omega) hcl)
          generalize wrongS (X.map El.nm) xe = code at *
          have hc0 : ¬ ((code : Int) = 0) := by omega
          repeat' (first | (go_at_call 26; go_must ((first | (with_reducible refine Calls.mono (HWi.out _) ?_) | (with_reducible refine Calls.mono (HWp.out _) ?_)); rintro _ _ ⟨rfl, rfl⟩; dsimp only)) | (go_at_call 46; go_must ((with_reducible refine Calls.mono HI.out ?_); rintro _ w5 ⟨v5, rfl, ⟨h1', B, m5, d5, C5, q5, rfl, hr1, hr2⟩, hb5⟩; clear hr1 hr2; dsimp only)) | (with_reducible refine Keep.last ?_) | (with_reducible refine Keep.below (by assumption) ?_) | (with_reducible refine Keep.kept (by assumption) ?_) | (with_reducible refine Keep.alloc ?_) | (with_reducible refine Keep.same ?_) | ((with_reducible refine WpH.here ?_); first | (refine WpH.nil ?_; refine NoP.normal ?_) | (refine WpH.load (by rfl) (by rfl) (by go_simp; rfl) ?_; simp only [Act.put, List.setIfInBounds_toArray, List.set_cons_zero, List.set_cons_succ]) | (refine WpH.loadT (by rfl) (by rfl) (by go_simp; rfl) (by rintro _ _ ⟨⟩; exact ⟨_, _, _, _, _, _, by rfl, by assumption, by assumption⟩) ?_; simp only [Act.put, List.setIfInBounds_toArray, List.set_cons_zero, List.set_cons_succ]) | (refine WpH.pure (by rfl) (fun w_ => by go_simp; (try go_bits); rfl) ?_; simp only [Act.put, List.setIfInBounds_toArray, List.set_cons_zero, List.set_cons_succ]) | (refine WpH.wild1 (by rfl) (fun _ _ => ?_)) | (refine WpH.skip (by rfl) ?_; simp only [Act.put, List.setIfInBounds_toArray, List.set_cons_zero, List.set_cons_succ])) | go_values | go_skip | go_guarded | go_step | go_upon | go_back)
          go_roundw
          case rel => exact ⟨k + 1, A', c', X, SM, K, by go_num, rfl, by omega, by omega, by omega, by omega, hst4.step (balloc hb5)⟩
          case measure => simp [intOf]; omega
      · have HWi := hid (fun W => within_any x.do_ 2 (by decide) (by decide) W)
        rw [hd2] at HWi
        clear hd2
        by_cases hX0 : X.length = 0
        · skip
          have hX0' : ¬ (X.length : Int) > 0 := by omega
          have HW4 := hid (awhere_any _ _ mb X K _ hst4.mdl (by omega) hanI)
          rw [Hv.out] at HW4
          dsimp only at HW4
          clear hX0
          repeat' (first | (go_at_call 26; go_must ((with_reducible refine Calls.mono (HWi.out _) ?_); rintro _ _ ⟨rfl, rfl⟩; dsimp only)) | (go_at_call 33; go_must ((with_reducible refine Calls.mono HW4.out ?_); rintro _ w9 ⟨rfl, hb9⟩; dsimp only)) | (with_reducible refine Keep.last ?_) | (with_reducible refine Keep.below (by assumption) ?_) | (with_reducible refine Keep.kept (by assumption) ?_) | (with_reducible refine Keep.alloc ?_) | (with_reducible refine Keep.same ?_) | ((with_reducible refine WpH.here ?_); first | (refine WpH.nil ?_; refine NoP.normal ?_) | (refine WpH.load (by rfl) (by rfl) (by go_simp; rfl) ?_; simp only [Act.put, List.setIfInBounds_toArray, List.set_cons_zero, List.set_cons_succ]) | (refine WpH.loadT (by rfl) (by rfl) (by go_simp; rfl) (by rintro _ _ ⟨⟩; exact ⟨_, _, _, _, _, _, by rfl, by assumption, by assumption⟩) ?_; simp only [Act.put, List.setIfInBounds_toArray, List.set_cons_zero, List.set_cons_succ]) | (refine WpH.pure (by rfl) (fun w_ => by go_simp; (try go_bits); rfl) ?_; simp only [Act.put, List.setIfInBounds_toArray, List.set_cons_zero, List.set_cons_succ]) | (refine WpH.wild1 (by rfl) (fun _ _ => ?_)) | (refine WpH.skip (by rfl) ?_; simp only [Act.put, List.setIfInBounds_toArray, List.set_cons_zero, List.set_cons_succ])) | go_values | go_skip | go_guarded | go_step | go_upon | go_back)
          go_roundw
          case rel => exact ⟨k + 1, A', c', X, SM, K, by go_num, rfl, by omega, by omega, by omega, by omega, hst4.step hb9⟩
          case measure => simp [intOf]; omega
        · have hX0' : (X.length : Int) > 0 := by omega
          obtain ⟨p, hp⟩ : ∃ p : Nat, x.i % (X.length : Int) = p := ⟨(x.i % (X.length : Int)).toNat, by rw [Int.toNat_of_nonneg (Int.emod_nonneg _ (by omega))]⟩
          have hpL : p < X.length := by have := Int.emod_lt_of_pos x.i (show (0 : Int) < X.length by omega); omega
          have HWp := hid (fun W => within_any x.i (X.length : Int) (by omega) (by omega) W)
          rw [hp] at HWp
          obtain ⟨xdo, xi, xdn, xe⟩ := x
          dsimp only at HWi HWp hC4 q0 q1 q2 q3 q4 q5 q6 q7 hxin
          clear hX0 hp
          have he : X[p]? = some X[p] := List.getElem?_eq_getElem hpL
          generalize X[p] = e at he
          have hgb := fairH_bounds (hst4.mdl.good e (List.mem_of_getElem? he)).hides
          have hm0 : -9223372036854775808 ≤ e.hides + 1 := by omega
          have hm1 : e.hides + 1 ≤ 9223372036854775807 := by omega
          have hm2 : -9223372036854775808 ≤ e.hides + -1 := by omega
          have hm3 : e.hides + -1 ≤ 9223372036854775807 := by omega
          have hpLi : (p : Int) < X.length := by omega
          have He := hid he
          clear he
          cases xdn
          · skip
            as_aux_lemma =>
              cases hf : fairH (e.hides + 1)
              · have HA := hid (refAdd_no A' X.length c' p X _ (fun _ => False) e 1 (by omega) W4 hst4.row (by omega) He.out (by omega) hf)
                repeat' (first | (go_at_call 26; go_must ((first | (with_reducible refine Calls.mono (HWi.out _) ?_) | (with_reducible refine Calls.mono (HWp.out _) ?_)); rintro _ _ ⟨rfl, rfl⟩; dsimp only)) | (go_at_call 48; go_must ((with_reducible refine Calls.mono HA.out ?_); rintro _ w5 ⟨v5, rfl, ⟨h1', B, m5, d5, C5, q5, rfl, hr1, hr2⟩, hb5⟩; clear hr1 hr2; dsimp only)) | (with_reducible refine Keep.last ?_) | (with_reducible refine Keep.below (by assumption) ?_) | (with_reducible refine Keep.kept (by assumption) ?_) | (with_reducible refine Keep.alloc ?_) | (with_reducible refine Keep.same ?_) | ((with_reducible refine WpH.here ?_); first | (refine WpH.nil ?_; refine NoP.normal ?_) | (refine WpH.load (by rfl) (by rfl) (by go_simp; rfl) ?_; simp only [Act.put, List.setIfInBounds_toArray, List.set_cons_zero, List.set_cons_succ]) | (refine WpH.loadT (by rfl) (by rfl) (by go_simp; rfl) (by rintro _ _ ⟨⟩; exact ⟨_, _, _, _, _, _, by rfl, by assumption, by assumption⟩) ?_; simp only [Act.put, List.setIfInBounds_toArray, List.set_cons_zero, List.set_cons_succ]) | (refine WpH.pure (by rfl) (fun w_ => by go_simp; (try go_bits); rfl) ?_; simp only [Act.put, List.setIfInBounds_toArray, List.set_cons_zero, List.set_cons_succ]) | (refine WpH.wild1 (by rfl) (fun _ _ => ?_)) | (refine WpH.skip (by rfl) ?_; simp only [Act.put, List.setIfInBounds_toArray, List.set_cons_zero, List.set_cons_succ])) | go_values | go_skip | go_guarded | go_step | go_upon | go_back)
                go_roundw
                case rel => exact ⟨k + 1, A', c', X, SM, K, by go_num, rfl, by omega, by omega, by omega, by omega, hst4.step (balloc hb5)⟩
                case measure => simp [intOf]; omega
              · have HA := hid (refAdd_ok A' X.length c' p X _ e 1 (by omega) W4 hst4.row (by omega) He.out hf)
                unfold noNone at HA
                obtain ⟨v', hv1, hv2, hv3⟩ := where_set' (d := 1) hst4.there He.out
                rw [Hv.out, ← Hown.out] at hv2 hv3
                dsimp only at hv2 hv3
                have Hv1 := hid hv1
                have hnms := map_nm_set X p e 1 He.out
                have Hnm := hid hnms
                clear hv1 hnms
                by_cases hpo : (p : Int) ≤ (-1)
                · have hv2' := hv2 hpo
                  have Hv2 := hid hv2'
                  clear hv2 hv3 hv2'
                  have hl1 := e.live_le
                  have hl2 := (e.hide 1).live_le
                  exact absurd hpo (by omega)
                · have hv3' := hv3 hpo
                  subst hv3'
                  clear hv2 hv3
                  repeat' (first | (go_at_call 26; go_must ((first | (with_reducible refine Calls.mono (HWi.out _) ?_) | (with_reducible refine Calls.mono (HWp.out _) ?_)); rintro _ _ ⟨rfl, rfl⟩; dsimp only)) | (go_at_call 48; go_must ((with_reducible refine Calls.mono HA.out ?_); rintro _ w5 ⟨A2, c2, rfl, hO2, hb5⟩; have eN : Below w5.heap.size w5 (w5.alloc (.cells #[.int .i64 0, .slice none 0 0, .slice none 0 0] 75)) := balloc (Below.refl _ _); have hst6 := (hst4.step hb5).step eN; have hr6 := (hO2.row (S := fun b => ¬ SM b) fun b h1 h2 h3 => (by have := (hst4.own b h3).2.1; omega)).step eN; have HMA := hid (madd_ok _ SM mb X K p e 1 (by omega) hst6.mdl (by omega) He.out hf); dsimp only)) | (go_at_call 40; go_must ((with_reducible refine Calls.mono HMA.out ?_); rintro _ w7 ⟨rfl, hM7, hO7⟩; have hst7 := hst6.turned (A' := A2) (c' := c2) (X' := X.set p (e.hide 1)) hM7 hO7 (by rw [List.length_set]; exact hr6) (by rw [Hnm.out]; exact hst4.there); have ha := (hst7).box; have g0 := ha.cell 0; have g1 := ha.cell 1; have g2 := ha.cell 2; have g3 := ha.cell 3; have gl := ha.lt; simp at g0 g1 g2 g3; clear ha; have HW7 := hid (awhere_any w7 _ mb _ _ _ hst7.mdl (by rw [List.length_set]; omega) hanI); rw [Hv1.out] at HW7; dsimp only at HW7; dsimp only)) | (go_at_call 33; go_must ((with_reducible refine Calls.mono HW7.out ?_); rintro _ w9 ⟨rfl, hb9⟩; dsimp only)) | (with_reducible refine Keep.last ?_) | (with_reducible refine Keep.below (by assumption) ?_) | (with_reducible refine Keep.kept (by assumption) ?_) | (with_reducible refine Keep.alloc ?_) | (with_reducible refine Keep.same ?_) | ((with_reducible refine WpH.here ?_); first | (refine WpH.nil ?_; refine NoP.normal ?_) | (refine WpH.load (by rfl) (by rfl) (by go_simp; rfl) ?_; simp only [Act.put, List.setIfInBounds_toArray, List.set_cons_zero, List.set_cons_succ]) | (refine WpH.loadT (by rfl) (by rfl) (by go_simp; rfl) (by rintro _ _ ⟨⟩; exact ⟨_, _, _, _, _, _, by rfl, by assumption, by assumption⟩) ?_; simp only [Act.put, List.setIfInBounds_toArray, List.set_cons_zero, List.set_cons_succ]) | (refine WpH.pure (by rfl) (fun w_ => by go_simp; (try go_bits); rfl) ?_; simp only [Act.put, List.setIfInBounds_toArray, List.set_cons_zero, List.set_cons_succ]) | (refine WpH.wild1 (by rfl) (fun _ _ => ?_)) | (refine WpH.skip (by rfl) ?_; simp only [Act.put, List.setIfInBounds_toArray, List.set_cons_zero, List.set_cons_succ])) | go_values | go_skip | go_guarded | go_step | go_upon | go_back)
                  go_roundw
                  case rel => exact ⟨k + 1, A2, c2, X.set p (e.hide 1), _, K, by go_num, by rw [List.length_set], by omega, by omega, by rw [List.length_set]; omega, by omega, hst7.step hb9⟩
                  case measure => simp [intOf]; omega
          · skip
            as_aux_lemma =>
              cases hf : fairH (e.hides + (-1))
              · have HA := hid (refAdd_no A' X.length c' p X _ (fun _ => False) e (-1) (by omega) W4 hst4.row (by omega) He.out (by omega) hf)
                repeat' (first | (go_at_call 26; go_must ((first | (with_reducible refine Calls.mono (HWi.out _) ?_) | (with_reducible refine Calls.mono (HWp.out _) ?_)); rintro _ _ ⟨rfl, rfl⟩; dsimp only)) | (go_at_call 48; go_must ((with_reducible refine Calls.mono HA.out ?_); rintro _ w5 ⟨v5, rfl, ⟨h1', B, m5, d5, C5, q5, rfl, hr1, hr2⟩, hb5⟩; clear hr1 hr2; dsimp only)) | (with_reducible refine Keep.last ?_) | (with_reducible refine Keep.below (by assumption) ?_) | (with_reducible refine Keep.kept (by assumption) ?_) | (with_reducible refine Keep.alloc ?_) | (with_reducible refine Keep.same ?_) | ((with_reducible refine WpH.here ?_); first | (refine WpH.nil ?_; refine NoP.normal ?_) | (refine WpH.load (by rfl) (by rfl) (by go_simp; rfl) ?_; simp only [Act.put, List.setIfInBounds_toArray, List.set_cons_zero, List.set_cons_succ]) | (refine WpH.loadT (by rfl) (by rfl) (by go_simp; rfl) (by rintro _ _ ⟨⟩; exact ⟨_, _, _, _, _, _, by rfl, by assumption, by assumption⟩) ?_; simp only [Act.put, List.setIfInBounds_toArray, List.set_cons_zero, List.set_cons_succ]) | (refine WpH.pure (by rfl) (fun w_ => by go_simp; (try go_bits); rfl) ?_; simp only [Act.put, List.setIfInBounds_toArray, List.set_cons_zero, List.set_cons_succ]) | (refine WpH.wild1 (by rfl) (fun _ _ => ?_)) | (refine WpH.skip (by rfl) ?_; simp only [Act.put, List.setIfInBounds_toArray, List.set_cons_zero, List.set_cons_succ])) | go_values | go_skip | go_guarded | go_step | go_upon | go_back)
                go_roundw
                case rel => exact ⟨k + 1, A', c', X, SM, K, by go_num, rfl, by omega, by omega, by omega, by omega, hst4.step (balloc hb5)⟩
                case measure => simp [intOf]; omega
              · have HA := hid (refAdd_ok A' X.length c' p X _ e (-1) (by omega) W4 hst4.row (by omega) He.out hf)
                unfold noNone at HA
                obtain ⟨v', hv1, hv2, hv3⟩ := where_set' (d := (-1)) hst4.there He.out
                rw [Hv.out, ← Hown.out] at hv2 hv3
                dsimp only at hv2 hv3
                have Hv1 := hid hv1
                have hnms := map_nm_set X p e (-1) He.out
                have Hnm := hid hnms
                clear hv1 hnms
                by_cases hpo : (p : Int) ≤ (-1)
                · have hv2' := hv2 hpo
                  have Hv2 := hid hv2'
                  clear hv2 hv3 hv2'
                  have hl1 := e.live_le
                  have hl2 := (e.hide (-1)).live_le
                  exact absurd hpo (by omega)
                · have hv3' := hv3 hpo
                  subst hv3'
                  clear hv2 hv3
                  repeat' (first | (go_at_call 26; go_must ((first | (with_reducible refine Calls.mono (HWi.out _) ?_) | (with_reducible refine Calls.mono (HWp.out _) ?_)); rintro _ _ ⟨rfl, rfl⟩; dsimp only)) | (go_at_call 48; go_must ((with_reducible refine Calls.mono HA.out ?_); rintro _ w5 ⟨A2, c2, rfl, hO2, hb5⟩; have eN : Below w5.heap.size w5 (w5.alloc (.cells #[.int .i64 0, .slice none 0 0, .slice none 0 0] 75)) := balloc (Below.refl _ _); have hst6 := (hst4.step hb5).step eN; have hr6 := (hO2.row (S := fun b => ¬ SM b) fun b h1 h2 h3 => (by have := (hst4.own b h3).2.1; omega)).step eN; have HMA := hid (madd_ok _ SM mb X K p e (-1) (by omega) hst6.mdl (by omega) He.out hf); dsimp only)) | (go_at_call 40; go_must ((with_reducible refine Calls.mono HMA.out ?_); rintro _ w7 ⟨rfl, hM7, hO7⟩; have hst7 := hst6.turned (A' := A2) (c' := c2) (X' := X.set p (e.hide (-1))) hM7 hO7 (by rw [List.length_set]; exact hr6) (by rw [Hnm.out]; exact hst4.there); have ha := (hst7).box; have g0 := ha.cell 0; have g1 := ha.cell 1; have g2 := ha.cell 2; have g3 := ha.cell 3; have gl := ha.lt; simp at g0 g1 g2 g3; clear ha; have HW7 := hid (awhere_any w7 _ mb _ _ _ hst7.mdl (by rw [List.length_set]; omega) hanI); rw [Hv1.out] at HW7; dsimp only at HW7; dsimp only)) | (go_at_call 33; go_must ((with_reducible refine Calls.mono HW7.out ?_); rintro _ w9 ⟨rfl, hb9⟩; dsimp only)) | (with_reducible refine Keep.last ?_) | (with_reducible refine Keep.below (by assumption) ?_) | (with_reducible refine Keep.kept (by assumption) ?_) | (with_reducible refine Keep.alloc ?_) | (with_reducible refine Keep.same ?_) | ((with_reducible refine WpH.here ?_); first | (refine WpH.nil ?_; refine NoP.normal ?_) | (refine WpH.load (by rfl) (by rfl) (by go_simp; rfl) ?_; simp only [Act.put, List.setIfInBounds_toArray, List.set_cons_zero, List.set_cons_succ]) | (refine WpH.loadT (by rfl) (by rfl) (by go_simp; rfl) (by rintro _ _ ⟨⟩; exact ⟨_, _, _, _, _, _, by rfl, by assumption, by assumption⟩) ?_; simp only [Act.put, List.setIfInBounds_toArray, List.set_cons_zero, List.set_cons_succ]) | (refine WpH.pure (by rfl) (fun w_ => by go_simp; (try go_bits); rfl) ?_; simp only [Act.put, List.setIfInBounds_toArray, List.set_cons_zero, List.set_cons_succ]) | (refine WpH.wild1 (by rfl) (fun _ _ => ?_)) | (refine WpH.skip (by rfl) ?_; simp only [Act.put, List.setIfInBounds_toArray, List.set_cons_zero, List.set_cons_succ])) | go_values | go_skip | go_guarded | go_step | go_upon | go_back)
                  go_roundw
                  case rel => exact ⟨k + 1, A2, c2, X.set p (e.hide (-1)), _, K, by go_num, by rw [List.length_set], by omega, by omega, by rw [List.length_set]; omega, by omega, hst7.step hb9⟩
                  case measure => simp [intOf]; omega
    · have HK := hid (wakes13_any wr _ (Hs.out.step hbr))
      by_cases hlt1 : k < m
      · have hk40 : ¬ (k : Int) < 40 := by omega
        have hkm : (k : Int) < m := by omega
        clear hlt
        repeat' (first | (go_at_call 34; go_must ((with_reducible refine Calls.mono HK.out ?_); rintro _ w9 ⟨rfl, hb9⟩; dsimp only)) | (with_reducible refine Keep.last ?_) | (with_reducible refine Keep.below (by assumption) ?_) | (with_reducible refine Keep.kept (by assumption) ?_) | (with_reducible refine Keep.alloc ?_) | (with_reducible refine Keep.same ?_) | ((with_reducible refine WpH.here ?_); first | (refine WpH.nil ?_; refine NoP.normal ?_) | (refine WpH.load (by rfl) (by rfl) (by go_simp; rfl) ?_; simp only [Act.put, List.setIfInBounds_toArray, List.set_cons_zero, List.set_cons_succ]) | (refine WpH.loadT (by rfl) (by rfl) (by go_simp; rfl) (by rintro _ _ ⟨⟩; exact ⟨_, _, _, _, _, _, by rfl, by assumption, by assumption⟩) ?_; simp only [Act.put, List.setIfInBounds_toArray, List.set_cons_zero, List.set_cons_succ]) | (refine WpH.pure (by rfl) (fun w_ => by go_simp; (try go_bits); rfl) ?_; simp only [Act.put, List.setIfInBounds_toArray, List.set_cons_zero, List.set_cons_succ]) | (refine WpH.wild1 (by rfl) (fun _ _ => ?_)) | (refine WpH.skip (by rfl) ?_; simp only [Act.put, List.setIfInBounds_toArray, List.set_cons_zero, List.set_cons_succ])) | go_values | go_skip | go_guarded | go_step | go_upon | go_back)
        go_ret
        exact ⟨rfl, bvia hbr hb9⟩
      · obtain rfl : k = m := by omega
        clear hlt
        repeat' (first | (go_at_call 34; go_must ((with_reducible refine Calls.mono HK.out ?_); rintro _ w9 ⟨rfl, hb9⟩; dsimp only)) | (with_reducible refine Keep.last ?_) | (with_reducible refine Keep.below (by assumption) ?_) | (with_reducible refine Keep.kept (by assumption) ?_) | (with_reducible refine Keep.alloc ?_) | (with_reducible refine Keep.same ?_) | ((with_reducible refine WpH.here ?_); first | (refine WpH.nil ?_; refine NoP.normal ?_) | (refine WpH.load (by rfl) (by rfl) (by go_simp; rfl) ?_; simp only [Act.put, List.setIfInBounds_toArray, List.set_cons_zero, List.set_cons_succ]) | (refine WpH.loadT (by rfl) (by rfl) (by go_simp; rfl) (by rintro _ _ ⟨⟩; exact ⟨_, _, _, _, _, _, by rfl, by assumption, by assumption⟩) ?_; simp only [Act.put, List.setIfInBounds_toArray, List.set_cons_zero, List.set_cons_succ]) | (refine WpH.pure (by rfl) (fun w_ => by go_simp; (try go_bits); rfl) ?_; simp only [Act.put, List.setIfInBounds_toArray, List.set_cons_zero, List.set_cons_succ]) | (refine WpH.wild1 (by rfl) (fun _ _ => ?_)) | (refine WpH.skip (by rfl) ?_; simp only [Act.put, List.setIfInBounds_toArray, List.set_cons_zero, List.set_cons_succ])) | go_values | go_skip | go_guarded | go_step | go_upon | go_back)
        go_ret
        exact ⟨rfl, bvia hbr hb9⟩
set_option maxRecDepth 200000 in
set_option maxHeartbeats 16000000 in
theorem astays_named (w : World) (A C : Option Addr) (n c m d : Nat) (at_ : Int) (ls : List El) (cs : List Chg) (S S' : Nat → Prop) (hr : Row w S A n c ls) (hin : ∀ e ∈ ls, e.In) (hc : GRow w S C m d cs) (hci : ∀ x ∈ cs, x.e.In) (hs : Sents w S' a) (h0 : 0 < (accOf ls).length ∧ at_ % (((accOf ls).length : Int) + 1) < (accOf ls).length) :
    Calls Tryd.prog 9 #[.slice A n c, .int .i64 at_, .slice C m d] w fun e w' => e = .returned (.bool true) ∧ Below w.heap.size w w' := by
  have HB := hid (begun13_any w A n c ls S hr hin)
  have Hs := hid hs
  have Hc := hid hc
  have Hci := hid hci
  have hml := hc.1
  have hmm := hc.len_le
  unfold maxLen at hmm
  have Hh := hid h0
  clear hr hin hs hc hci
  go_enter Tryd.func9, Tryd.ntmps9
  repeat' (first | (go_at_call 30; go_must ((with_reducible refine Calls.mono HB.out ?_); rintro _ w1 ⟨⟨mb, A1, c1_, X0, n1, hXe, rfl, hM, hrow, hn1, hR, h80, hXin⟩, hb1⟩; have HXe := hid hXe; clear hXe; dsimp only)) | (with_reducible refine stop_region 5 ?_) | (with_reducible refine Keep.last ?_) | (with_reducible refine Keep.below (by assumption) ?_) | (with_reducible refine Keep.kept (by assumption) ?_) | (with_reducible refine Keep.alloc ?_) | (with_reducible refine Keep.same ?_) | ((with_reducible refine WpH.here ?_); first | (refine WpH.nil ?_; refine NoP.normal ?_) | (refine WpH.load (by rfl) (by rfl) (by go_simp; rfl) ?_; simp only [Act.put, List.setIfInBounds_toArray, List.set_cons_zero, List.set_cons_succ]) | (refine WpH.loadT (by rfl) (by rfl) (by go_simp; rfl) (by rintro _ _ ⟨⟩; exact ⟨_, _, _, _, _, _, by rfl, by assumption, by assumption⟩) ?_; simp only [Act.put, List.setIfInBounds_toArray, List.set_cons_zero, List.set_cons_succ]) | (refine WpH.pure (by rfl) (fun w_ => by go_simp; (try go_bits); rfl) ?_; simp only [Act.put, List.setIfInBounds_toArray, List.set_cons_zero, List.set_cons_succ]) | (refine WpH.wild1 (by rfl) (fun _ _ => ?_)) | (refine WpH.skip (by rfl) ?_; simp only [Act.put, List.setIfInBounds_toArray, List.set_cons_zero, List.set_cons_succ])) | go_values | go_skip | go_guarded | go_step | go_upon | go_back)
  refine Stop.go ?_
  have hh0 := Hh.out
  rw [← HXe.out] at hh0
  clear HXe
  have hXn := hid (fun (e : El) (he : e ∈ X0) => (⟨(hXin e he).1, (hXin e he).2.1, (hXin e he).2.2.1⟩ : e.nm.In))
  have hz1 := hb1.size
  have hM1 := hM.more (S' := fun b => n1 ≤ b ∧ b < w1.heap.size) fun b h1 h2 => ⟨h2, h1⟩
  have hrow1 := hrow.more (S' := fun b => ¬ (n1 ≤ b ∧ b < w1.heap.size)) fun b _ h h2 => by omega
  have Hst0 := hid (fun (an : Anc) (h : an.front = true ∨ an.id ∈ X0.map El.nm) => (⟨hM1.step (balloc (Below.refl _ _)), fun b hs => ⟨by omega, by rw [boxSz]; omega, by omega⟩, hrow1.step (balloc (Below.refl _ _)), Blk.new w1 _ _, h, balloc hb1⟩ : StaysAt w mb w1.heap.size X0.length an A1 c1_ X0 (fun b => n1 ≤ b ∧ b < w1.heap.size) (w1.alloc (.cells #[.bool an.front, .int .i64 an.id.epoch, .int .i64 an.id.rep, .int .i64 an.id.num] 57))))
  clear HB hR hXin hM hM1 hrow1 Hh
  obtain ⟨h0, hh0⟩ := hh0
  have hX0 : (X0.length : Int) > 0 := by omega
  obtain ⟨kk, hkk⟩ : ∃ kk : Nat, at_ % ((X0.length : Int) + 1) = kk := ⟨(at_ % ((X0.length : Int) + 1)).toNat, by rw [Int.toNat_of_nonneg (Int.emod_nonneg _ (by omega))]⟩
  have HI0 := hid (fun W => within_any at_ ((X0.length : Int) + 1) (by omega) (by omega) W)
  rw [hkk] at HI0 hh0
  have hkl : kk < X0.length := by omega
  have he0 : X0[kk]? = some X0[kk] := List.getElem?_eq_getElem hkl
  generalize X0[kk] = e0 at he0
  have hanI : (⟨false, ⟨e0.epoch, e0.rep, e0.num⟩⟩ : Anc).id.In := hXn.out e0 (List.mem_of_getElem? he0)
  have hst0 := Hst0.out ⟨false, ⟨e0.epoch, e0.rep, e0.num⟩⟩ (.inr (List.mem_map.2 ⟨e0, List.mem_of_getElem? he0, rfl⟩))
  obtain ⟨b0, off0, e0', rfl, -, he0', s0, s1, s2, s3, s4⟩ := hrow.at_ hkl
  obtain rfl := Option.some.inj (he0'.symm.trans he0)
  have sb := lt_of_cell' s0
  dsimp only at sb
  clear Hst0 he0 he0' h0 hkk
  repeat' (first | (go_at_call 26; go_must ((with_reducible refine Calls.mono (HI0.out _) ?_); rintro _ _ ⟨rfl, rfl⟩; dsimp only)) | (with_reducible refine Keep.last ?_) | (with_reducible refine Keep.below (by assumption) ?_) | (with_reducible refine Keep.kept (by assumption) ?_) | (with_reducible refine Keep.alloc ?_) | (with_reducible refine Keep.same ?_) | ((with_reducible refine WpH.here ?_); first | (refine WpH.nil ?_; refine NoP.normal ?_) | (refine WpH.load (by rfl) (by rfl) (by go_simp; rfl) ?_; simp only [Act.put, List.setIfInBounds_toArray, List.set_cons_zero, List.set_cons_succ]) | (refine WpH.loadT (by rfl) (by rfl) (by go_simp; rfl) (by rintro _ _ ⟨⟩; exact ⟨_, _, _, _, _, _, by rfl, by assumption, by assumption⟩) ?_; simp only [Act.put, List.setIfInBounds_toArray, List.set_cons_zero, List.set_cons_succ]) | (refine WpH.pure (by rfl) (fun w_ => by go_simp; (try go_bits); rfl) ?_; simp only [Act.put, List.setIfInBounds_toArray, List.set_cons_zero, List.set_cons_succ]) | (refine WpH.wild1 (by rfl) (fun _ _ => ?_)) | (refine WpH.skip (by rfl) ?_; simp only [Act.put, List.setIfInBounds_toArray, List.set_cons_zero, List.set_cons_succ])) | go_values | go_skip | go_guarded | go_step | go_upon | go_back)
  go_loopw [8, 11] (fun xs i wr => ∃ (k : Nat) (A' : Option Addr) (c' : Nat) (X : List El) (SM : Nat → Prop) (K : Nat), i = .int .i64 k ∧ xs = .slice A' X.length c' ∧ k ≤ m ∧ k ≤ 40 ∧ X.length ≤ 80 + k ∧ K ≤ 80 + k ∧ StaysAt w mb w1.heap.size K (⟨false, ⟨e0'.epoch, e0'.rep, e0'.num⟩⟩ : Anc) A' c' X SM wr) (fun _ i _ => m - (intOf i).toNat)
  case atStart => exact ⟨0, _, _, X0, _, _, rfl, by first | rfl | rw [HX0.out], Nat.zero_le _, Nat.zero_le _, by omega, by omega, hst0⟩
  case round =>
    clear hst0
    obtain ⟨k, A', c', X, SM, K, rfl, rfl, hk, hk4, hXl, hKl, hst⟩ := hrel
    have hbr := hst.below
    by_cases hlt : k < m ∧ k < 40
    · obtain ⟨hlt1, hlt2⟩ := hlt
      obtain ⟨b, off, x, rfl, hSb, hbl, hxk, hcell⟩ := (Hc.out.step hbr).at_ hlt1
      have c0 : wr.cell? ⟨b, off + k * 8, none⟩ = some (.int .i64 x.do_) := hcell 0 _ rfl
      have c1 : wr.cell? ⟨b, off + k * 8 + 1, none⟩ = some (.int .i64 x.i) := hcell 1 _ rfl
      have c2 : wr.cell? ⟨b, off + k * 8 + 2, none⟩ = some (.bool x.down) := hcell 2 _ rfl
      have c3 : wr.cell? ⟨b, off + k * 8 + 3, none⟩ = some (.int .i64 x.e.epoch) := hcell 3 _ rfl
      have c4 : wr.cell? ⟨b, off + k * 8 + 4, none⟩ = some (.int .i64 x.e.rep) := hcell 4 _ rfl
      have c5 : wr.cell? ⟨b, off + k * 8 + 5, none⟩ = some (.int .i64 x.e.num) := hcell 5 _ rfl
      have c6 : wr.cell? ⟨b, off + k * 8 + 6, none⟩ = some (.int .i32 x.e.char) := hcell 6 _ rfl
      have c7 : wr.cell? ⟨b, off + k * 8 + 7, none⟩ = some (.int .i64 x.e.hides) := hcell 7 _ rfl
      have hkm : (k : Int) < m := by omega
      have hxin := Hci.out x (List.mem_of_getElem? hxk)
      have eC := balloc (o := .cells #[.int .i64 x.do_, .int .i64 x.i, .bool x.down, .int .i64 x.e.epoch, .int .i64 x.e.rep, .int .i64 x.e.num, .int .i32 x.e.char, .int .i64 x.e.hides] 86) (Below.refl _ wr)
      have hC := Blk.new wr 86 #[.int .i64 x.do_, .int .i64 x.i, .bool x.down, .int .i64 x.e.epoch, .int .i64 x.e.rep, .int .i64 x.e.num, .int .i32 x.e.char, .int .i64 x.e.hides]
      have hst2 := hst.step eC
      have hHW := awhere_any _ _ mb X K (⟨false, ⟨e0'.epoch, e0'.rep, e0'.num⟩⟩ : Anc) hst2.mdl (by omega) hanI
      have hwt := where_there hst.there
      obtain ⟨own, hown⟩ : ∃ o, o = ownOf X (⟨false, ⟨e0'.epoch, e0'.rep, e0'.num⟩⟩ : Anc) := ⟨_, rfl⟩
      obtain ⟨v, hv⟩ : ∃ v, whereOf X (⟨false, ⟨e0'.epoch, e0'.rep, e0'.num⟩⟩ : Anc) = (v, true) := ⟨_, hwt⟩
      rw [hv] at hHW
      dsimp only at hHW
      have HW := hid hHW
      have Hv := hid hv
      have hvl : v ≤ 200 := by have h1 := whereOf_le (l := X) (x := (⟨false, ⟨e0'.epoch, e0'.rep, e0'.num⟩⟩ : Anc)); rw [hv] at h1; have := liveOf_le X; dsimp only at h1; omega
      have Hown := hid hown
      clear hHW hwt hv hcell hxk hown
      have ha := (hst2).box; have g0 := ha.cell 0; have g1 := ha.cell 1; have g2 := ha.cell 2; have g3 := ha.cell 3; have gl := ha.lt; simp at g0 g1 g2 g3; clear ha
      obtain ⟨k0, hk0⟩ := ixOf_mem (hst.there.resolve_left (by simp))
      have hown1 : own = (k0 : Int) := Hown.out.trans (ownOf_some rfl hk0)
      subst hown1
      have Hk0 := hid hk0
      have hk0b : k0 < X.length := by obtain ⟨y, hy, -⟩ := ixOf_get hk0; exact (List.getElem?_eq_some_iff.1 hy).1
      clear hk0
      repeat' (first | (go_at_call 33; go_must ((with_reducible refine Calls.mono HW.out ?_); rintro _ W3 ⟨rfl, hb3⟩; have hst3 := hst2.step hb3; have hC3 := hC.step hb3; have hh := hC3; have q0 := hh.cell 0; have q1 := hh.cell 1; have q2 := hh.cell 2; have q3 := hh.cell 3; have q4 := hh.cell 4; have q5 := hh.cell 5; have q6 := hh.cell 6; have q7 := hh.cell 7; have ql := hh.lt; simp at q0 q1 q2 q3 q4 q5 q6 q7; clear hh; have ha := (hst3).box; have g0 := ha.cell 0; have g1 := ha.cell 1; have g2 := ha.cell 2; have g3 := ha.cell 3; have gl := ha.lt; simp at g0 g1 g2 g3; clear ha; have HIX := hid (ref5Index_own A' X.length c' X _ _ W3 k0 hst3.row (by omega) Hk0.out); dsimp only at HIX; dsimp only)) | (go_at_call 35; go_must ((with_reducible refine Calls.mono HIX.out ?_); rintro _ W4 ⟨rfl, hb4⟩; have hst4 := hst3.step hb4; have hC4 := hC3.step hb4; have hh := hC4; have q0 := hh.cell 0; have q1 := hh.cell 1; have q2 := hh.cell 2; have q3 := hh.cell 3; have q4 := hh.cell 4; have q5 := hh.cell 5; have q6 := hh.cell 6; have q7 := hh.cell 7; have ql := hh.lt; simp at q0 q1 q2 q3 q4 q5 q6 q7; clear hh; have ha := (hst4).box; have g0 := ha.cell 0; have g1 := ha.cell 1; have g2 := ha.cell 2; have g3 := ha.cell 3; have gl := ha.lt; simp at g0 g1 g2 g3; clear ha; dsimp only)) | (with_reducible refine stop_region 20 ?_) | (with_reducible refine Keep.last ?_) | (with_reducible refine Keep.below (by assumption) ?_) | (with_reducible refine Keep.kept (by assumption) ?_) | (with_reducible refine Keep.alloc ?_) | (with_reducible refine Keep.same ?_) | ((with_reducible refine WpH.here ?_); first | (refine WpH.nil ?_; refine NoP.normal ?_) | (refine WpH.load (by rfl) (by rfl) (by go_simp; rfl) ?_; simp only [Act.put, List.setIfInBounds_toArray, List.set_cons_zero, List.set_cons_succ]) | (refine WpH.loadT (by rfl) (by rfl) (by go_simp; rfl) (by rintro _ _ ⟨⟩; exact ⟨_, _, _, _, _, _, by rfl, by assumption, by assumption⟩) ?_; simp only [Act.put, List.setIfInBounds_toArray, List.set_cons_zero, List.set_cons_succ]) | (refine WpH.pure (by rfl) (fun w_ => by go_simp; (try go_bits); rfl) ?_; simp only [Act.put, List.setIfInBounds_toArray, List.set_cons_zero, List.set_cons_succ]) | (refine WpH.wild1 (by rfl) (fun _ _ => ?_)) | (refine WpH.skip (by rfl) ?_; simp only [Act.put, List.setIfInBounds_toArray, List.set_cons_zero, List.set_cons_succ])) | go_values | go_skip | go_guarded | go_step | go_upon | go_back)
      refine Stop.go ?_
      rcases Int.emod_two_eq x.do_ with hd2 | hd2
      · have HWi := hid (fun W => within_any x.do_ 2 (by decide) (by decide) W)
        rw [hd2] at HWi
        obtain ⟨p, hp⟩ : ∃ p : Nat, x.i % ((X.length : Int) + 1) = p := ⟨(x.i % ((X.length : Int) + 1)).toNat, by rw [Int.toNat_of_nonneg (Int.emod_nonneg _ (by omega))]⟩
        have hpL : p ≤ X.length := by have := Int.emod_lt_of_pos x.i (show (0 : Int) < X.length + 1 by omega); omega
        have HWp := hid (fun W => within_any x.i ((X.length : Int) + 1) (by omega) (by omega) W)
        rw [hp] at HWp
        clear hp hd2
        obtain ⟨xdo, xi, xdn, xe⟩ := x
        dsimp only at HWi HWp hC4 q0 q1 q2 q3 q4 q5 q6 q7 hxin
        have hcl := wrongS_le (X.map El.nm) xe
        by_cases hw0 : wrongS (X.map El.nm) xe = 0
        · have HI := hid (refInsert_ok A' X.length c' p X _ xe W4 hst4.row (by omega) hpL hw0)
          unfold noNone at HI
          have hgd : xe.Good ∧ xe.nm ∉ X.map El.nm := by
            rcases wrongS_cases (X.map El.nm) xe with ⟨h1, _⟩ | ⟨h1, _⟩ | ⟨h1, _⟩ | ⟨_, h2, h3, h4⟩
            · omega
            · omega
            · omega
            · exact ⟨⟨h2, h3, ⟨hxin.1, hxin.2.1, hxin.2.2.1⟩⟩, h4⟩
          obtain ⟨hgd, hnn⟩ := hgd
          have hlen' : (X.take p ++ xe :: X.drop p).length = X.length + 1 := by simp; omega
          have hsub : ∀ {id : Nm}, id ∈ X.map El.nm → id ∈ (X.take p ++ xe :: X.drop p).map El.nm := fun {id} h => (mem_ins X p xe id).1 (List.mem_cons_of_mem _ h)
          have HLv := hid (fun W => refLive_any xe W)
          clear hw0 hcl
          by_cases hpo : (p : Int) ≤ (k0 : Int)
          · skip
            as_aux_lemma =>
              by_cases hh : xe.hides ≤ 0
              · have hl1 : xe.live = 1 := by unfold El.live; rw [if_neg (by omega)]
                rw [decide_eq_true hh] at HLv
                have Hh := hid hl1
                clear hl1 hh
                repeat' (first | (go_at_call 26; go_must ((first | (with_reducible refine Calls.mono (HWi.out _) ?_) | (with_reducible refine Calls.mono (HWp.out _) ?_)); rintro _ _ ⟨rfl, rfl⟩; dsimp only)) | (go_at_call 46; go_must ((with_reducible refine Calls.mono HI.out ?_); rintro _ w5 ⟨A2, c2, rfl, hO2, hb5⟩; have eN : Below w5.heap.size w5 (w5.alloc (.cells #[.int .i64 0, .slice none 0 0, .slice none 0 0] 75)) := balloc (Below.refl _ _); have hst6 := (hst4.step hb5).step eN; have hC6 := (hC4.step hb5).step eN; have hh := hC6; have q0 := hh.cell 0; have q1 := hh.cell 1; have q2 := hh.cell 2; have q3 := hh.cell 3; have q4 := hh.cell 4; have q5 := hh.cell 5; have q6 := hh.cell 6; have q7 := hh.cell 7; have ql := hh.lt; simp at q0 q1 q2 q3 q4 q5 q6 q7; clear hh; have hr6 := (hO2.row (S := fun b => ¬ SM b) fun b h1 h2 h3 => (by have := (hst4.own b h3).2.1; omega)).step eN; have HMI := hid (minsert_ok _ SM mb X K p xe hst6.mdl (by omega) (by omega) hpL hgd hnn); dsimp only)) | (go_at_call 38; go_must ((with_reducible refine Calls.mono HMI.out ?_); rintro _ w7 ⟨rfl, hM7, hO7⟩; have hst7 := hst6.turned hM7 hO7 (by rw [hlen']; exact hr6) (hst4.there.imp id hsub); have hC7 := hO7.blk hC6 (fun h => by have := (hst.own _ h).2.1; omega); have hh := hC7; have q0 := hh.cell 0; have q1 := hh.cell 1; have q2 := hh.cell 2; have q3 := hh.cell 3; have q4 := hh.cell 4; have q5 := hh.cell 5; have q6 := hh.cell 6; have q7 := hh.cell 7; have ql := hh.lt; simp at q0 q1 q2 q3 q4 q5 q6 q7; clear hh; have ha := (hst7).box; have g0 := ha.cell 0; have g1 := ha.cell 1; have g2 := ha.cell 2; have g3 := ha.cell 3; have gl := ha.lt; simp at g0 g1 g2 g3; clear ha; have HW7 := hid (fun W (hb : Below w7.heap.size w7 W) => awhere_any W _ mb _ _ _ (hst7.step hb).mdl (by rw [hlen']; omega) hanI); rw [where_ins' hst4.there hpL hnn, Hv.out, ← Hown.out, if_pos hpo, Hh.out] at HW7; dsimp only at HW7; have D7 := Below.refl w7.heap.size w7; dsimp only)) | (go_at_call 47; go_must ((with_reducible refine Calls.mono (HLv.out _) ?_); rintro _ w8 ⟨rfl, hb8⟩; have D7 : Below w7.heap.size w7 w8 := hb8; have ha := (hst7.step hb8).box; have g0 := ha.cell 0; have g1 := ha.cell 1; have g2 := ha.cell 2; have g3 := ha.cell 3; have gl := ha.lt; simp at g0 g1 g2 g3; clear ha; dsimp only)) | (go_at_call 33; go_must ((with_reducible refine Calls.mono (HW7.out _ D7) ?_); rintro _ w9 ⟨rfl, hb9⟩; dsimp only)) | (with_reducible refine Keep.last ?_) | (with_reducible refine Keep.below (by assumption) ?_) | (with_reducible refine Keep.kept (by assumption) ?_) | (with_reducible refine Keep.alloc ?_) | (with_reducible refine Keep.same ?_) | ((with_reducible refine WpH.here ?_); first | (refine WpH.nil ?_; refine NoP.normal ?_) | (refine WpH.load (by rfl) (by rfl) (by go_simp; rfl) ?_; simp only [Act.put, List.setIfInBounds_toArray, List.set_cons_zero, List.set_cons_succ]) | (refine WpH.loadT (by rfl) (by rfl) (by go_simp; rfl) (by rintro _ _ ⟨⟩; exact ⟨_, _, _, _, _, _, by rfl, by assumption, by assumption⟩) ?_; simp only [Act.put, List.setIfInBounds_toArray, List.set_cons_zero, List.set_cons_succ]) | (refine WpH.pure (by rfl) (fun w_ => by go_simp; (try go_bits); rfl) ?_; simp only [Act.put, List.setIfInBounds_toArray, List.set_cons_zero, List.set_cons_succ]) | (refine WpH.wild1 (by rfl) (fun _ _ => ?_)) | (refine WpH.skip (by rfl) ?_; simp only [Act.put, List.setIfInBounds_toArray, List.set_cons_zero, List.set_cons_succ])) | go_values | go_skip | go_guarded | go_step | go_upon | go_back)
                skip
                go_roundw
                case rel => exact ⟨k + 1, A2, c2, X.take p ++ xe :: X.drop p, _, K + 1, by go_num, by rw [hlen'], by omega, by omega, by rw [hlen']; omega, by omega, hst7.step (bvia D7 hb9)⟩
                case measure => simp [intOf]; omega
              · have hl1 : xe.live = 0 := by unfold El.live; rw [if_pos (by omega)]
                rw [decide_eq_false hh] at HLv
                have Hh := hid hl1
                clear hl1 hh
                repeat' (first | (go_at_call 26; go_must ((first | (with_reducible refine Calls.mono (HWi.out _) ?_) | (with_reducible refine Calls.mono (HWp.out _) ?_)); rintro _ _ ⟨rfl, rfl⟩; dsimp only)) | (go_at_call 46; go_must ((with_reducible refine Calls.mono HI.out ?_); rintro _ w5 ⟨A2, c2, rfl, hO2, hb5⟩; have eN : Below w5.heap.size w5 (w5.alloc (.cells #[.int .i64 0, .slice none 0 0, .slice none 0 0] 75)) := balloc (Below.refl _ _); have hst6 := (hst4.step hb5).step eN; have hC6 := (hC4.step hb5).step eN; have hh := hC6; have q0 := hh.cell 0; have q1 := hh.cell 1; have q2 := hh.cell 2; have q3 := hh.cell 3; have q4 := hh.cell 4; have q5 := hh.cell 5; have q6 := hh.cell 6; have q7 := hh.cell 7; have ql := hh.lt; simp at q0 q1 q2 q3 q4 q5 q6 q7; clear hh; have hr6 := (hO2.row (S := fun b => ¬ SM b) fun b h1 h2 h3 => (by have := (hst4.own b h3).2.1; omega)).step eN; have HMI := hid (minsert_ok _ SM mb X K p xe hst6.mdl (by omega) (by omega) hpL hgd hnn); dsimp only)) | (go_at_call 38; go_must ((with_reducible refine Calls.mono HMI.out ?_); rintro _ w7 ⟨rfl, hM7, hO7⟩; have hst7 := hst6.turned hM7 hO7 (by rw [hlen']; exact hr6) (hst4.there.imp id hsub); have hC7 := hO7.blk hC6 (fun h => by have := (hst.own _ h).2.1; omega); have hh := hC7; have q0 := hh.cell 0; have q1 := hh.cell 1; have q2 := hh.cell 2; have q3 := hh.cell 3; have q4 := hh.cell 4; have q5 := hh.cell 5; have q6 := hh.cell 6; have q7 := hh.cell 7; have ql := hh.lt; simp at q0 q1 q2 q3 q4 q5 q6 q7; clear hh; have ha := (hst7).box; have g0 := ha.cell 0; have g1 := ha.cell 1; have g2 := ha.cell 2; have g3 := ha.cell 3; have gl := ha.lt; simp at g0 g1 g2 g3; clear ha; have HW7 := hid (fun W (hb : Below w7.heap.size w7 W) => awhere_any W _ mb _ _ _ (hst7.step hb).mdl (by rw [hlen']; omega) hanI); rw [where_ins' hst4.there hpL hnn, Hv.out, ← Hown.out, if_pos hpo, Hh.out] at HW7; dsimp only at HW7; have D7 := Below.refl w7.heap.size w7; dsimp only)) | (go_at_call 47; go_must ((with_reducible refine Calls.mono (HLv.out _) ?_); rintro _ w8 ⟨rfl, hb8⟩; have D7 : Below w7.heap.size w7 w8 := hb8; have ha := (hst7.step hb8).box; have g0 := ha.cell 0; have g1 := ha.cell 1; have g2 := ha.cell 2; have g3 := ha.cell 3; have gl := ha.lt; simp at g0 g1 g2 g3; clear ha; dsimp only)) | (go_at_call 33; go_must ((with_reducible refine Calls.mono (HW7.out _ D7) ?_); rintro _ w9 ⟨rfl, hb9⟩; dsimp only)) | (with_reducible refine Keep.last ?_) | (with_reducible refine Keep.below (by assumption) ?_) | (with_reducible refine Keep.kept (by assumption) ?_) | (with_reducible refine Keep.alloc ?_) | (with_reducible refine Keep.same ?_) | ((with_reducible refine WpH.here ?_); first | (refine WpH.nil ?_; refine NoP.normal ?_) | (refine WpH.load (by rfl) (by rfl) (by go_simp; rfl) ?_; simp only [Act.put, List.setIfInBounds_toArray, List.set_cons_zero, List.set_cons_succ]) | (refine WpH.loadT (by rfl) (by rfl) (by go_simp; rfl) (by rintro _ _ ⟨⟩; exact ⟨_, _, _, _, _, _, by rfl, by assumption, by assumption⟩) ?_; simp only [Act.put, List.setIfInBounds_toArray, List.set_cons_zero, List.set_cons_succ]) | (refine WpH.pure (by rfl) (fun w_ => by go_simp; (try go_bits); rfl) ?_; simp only [Act.put, List.setIfInBounds_toArray, List.set_cons_zero, List.set_cons_succ]) | (refine WpH.wild1 (by rfl) (fun _ _ => ?_)) | (refine WpH.skip (by rfl) ?_; simp only [Act.put, List.setIfInBounds_toArray, List.set_cons_zero, List.set_cons_succ])) | go_values | go_skip | go_guarded | go_step | go_upon | go_back)
                go_roundw
                case rel => exact ⟨k + 1, A2, c2, X.take p ++ xe :: X.drop p, _, K + 1, by go_num, by rw [hlen'], by omega, by omega, by rw [hlen']; omega, by omega, hst7.step (bvia D7 hb9)⟩
                case measure => simp [intOf]; omega
          · skip
            as_aux_lemma =>
              repeat' (first | (go_at_call 26; go_must ((first | (with_reducible refine Calls.mono (HWi.out _) ?_) | (with_reducible refine Calls.mono (HWp.out _) ?_)); rintro _ _ ⟨rfl, rfl⟩; dsimp only)) | (go_at_call 46; go_must ((with_reducible refine Calls.mono HI.out ?_); rintro _ w5 ⟨A2, c2, rfl, hO2, hb5⟩; have eN : Below w5.heap.size w5 (w5.alloc (.cells #[.int .i64 0, .slice none 0 0, .slice none 0 0] 75)) := balloc (Below.refl _ _); have hst6 := (hst4.step hb5).step eN; have hC6 := (hC4.step hb5).step eN; have hh := hC6; have q0 := hh.cell 0; have q1 := hh.cell 1; have q2 := hh.cell 2; have q3 := hh.cell 3; have q4 := hh.cell 4; have q5 := hh.cell 5; have q6 := hh.cell 6; have q7 := hh.cell 7; have ql := hh.lt; simp at q0 q1 q2 q3 q4 q5 q6 q7; clear hh; have hr6 := (hO2.row (S := fun b => ¬ SM b) fun b h1 h2 h3 => (by have := (hst4.own b h3).2.1; omega)).step eN; have HMI := hid (minsert_ok _ SM mb X K p xe hst6.mdl (by omega) (by omega) hpL hgd hnn); dsimp only)) | (go_at_call 38; go_must ((with_reducible refine Calls.mono HMI.out ?_); rintro _ w7 ⟨rfl, hM7, hO7⟩; have hst7 := hst6.turned hM7 hO7 (by rw [hlen']; exact hr6) (hst4.there.imp id hsub); have hC7 := hO7.blk hC6 (fun h => by have := (hst.own _ h).2.1; omega); have hh := hC7; have q0 := hh.cell 0; have q1 := hh.cell 1; have q2 := hh.cell 2; have q3 := hh.cell 3; have q4 := hh.cell 4; have q5 := hh.cell 5; have q6 := hh.cell 6; have q7 := hh.cell 7; have ql := hh.lt; simp at q0 q1 q2 q3 q4 q5 q6 q7; clear hh; have ha := (hst7).box; have g0 := ha.cell 0; have g1 := ha.cell 1; have g2 := ha.cell 2; have g3 := ha.cell 3; have gl := ha.lt; simp at g0 g1 g2 g3; clear ha; have HW7 := hid (fun W (hb : Below w7.heap.size w7 W) => awhere_any W _ mb _ _ _ (hst7.step hb).mdl (by rw [hlen']; omega) hanI); rw [where_ins' hst4.there hpL hnn, Hv.out, ← Hown.out, if_neg hpo] at HW7; dsimp only at HW7; have D7 := Below.refl w7.heap.size w7; dsimp only)) | (go_at_call 47; go_must ((with_reducible refine Calls.mono (HLv.out _) ?_); rintro _ w8 ⟨rfl, hb8⟩; have D7 : Below w7.heap.size w7 w8 := hb8; have ha := (hst7.step hb8).box; have g0 := ha.cell 0; have g1 := ha.cell 1; have g2 := ha.cell 2; have g3 := ha.cell 3; have gl := ha.lt; simp at g0 g1 g2 g3; clear ha; dsimp only)) | (go_at_call 33; go_must ((with_reducible refine Calls.mono (HW7.out _ D7) ?_); rintro _ w9 ⟨rfl, hb9⟩; dsimp only)) | (with_reducible refine Keep.last ?_) | (with_reducible refine Keep.below (by assumption) ?_) | (with_reducible refine Keep.kept (by assumption) ?_) | (with_reducible refine Keep.alloc ?_) | (with_reducible refine Keep.same ?_) | ((with_reducible refine WpH.here ?_); first | (refine WpH.nil ?_; refine NoP.normal ?_) | (refine WpH.load (by rfl) (by rfl) (by go_simp; rfl) ?_; simp only [Act.put, List.setIfInBounds_toArray, List.set_cons_zero, List.set_cons_succ]) | (refine WpH.loadT (by rfl) (by rfl) (by go_simp; rfl) (by rintro _ _ ⟨⟩; exact ⟨_, _, _, _, _, _, by rfl, by assumption, by assumption⟩) ?_; simp only [Act.put, List.setIfInBounds_toArray, List.set_cons_zero, List.set_cons_succ]) | (refine WpH.pure (by rfl) (fun w_ => by go_simp; (try go_bits); rfl) ?_; simp only [Act.put, List.setIfInBounds_toArray, List.set_cons_zero, List.set_cons_succ]) | (refine WpH.wild1 (by rfl) (fun _ _ => ?_)) | (refine WpH.skip (by rfl) ?_; simp only [Act.put, List.setIfInBounds_toArray, List.set_cons_zero, List.set_cons_succ])) | go_values | go_skip | go_guarded | go_step | go_upon | go_back)
              go_roundw
              case rel => exact ⟨k + 1, A2, c2, X.take p ++ xe :: X.drop p, _, K + 1, by go_num, by rw [hlen'], by omega, by omega, by rw [hlen']; omega, by omega, hst7.step (bvia D7 hb9)⟩
              case measure => simp [intOf]; omega
        · have HI := hid (refInsert_no A' X.length c' p (wrongS (X.map El.nm) xe) X _ (fun _ => False) xe W4 hst4.row (by omega) hpL rfl (by omega) hcl)
          generalize wrongS (X.map El.nm) xe = code at *
          have hc0 : ¬ ((code : Int) = 0) := by omega
          repeat' (first | (go_at_call 26; go_must ((first | (with_reducible refine Calls.mono (HWi.out _) ?_) | (with_reducible refine Calls.mono (HWp.out _) ?_)); rintro _ _ ⟨rfl, rfl⟩; dsimp only)) | (go_at_call 46; go_must ((with_reducible refine Calls.mono HI.out ?_); rintro _ w5 ⟨v5, rfl, ⟨h1', B, m5, d5, C5, q5, rfl, hr1, hr2⟩, hb5⟩; clear hr1 hr2; dsimp only)) | (with_reducible refine Keep.last ?_) | (with_reducible refine Keep.below (by assumption) ?_) | (with_reducible refine Keep.kept (by assumption) ?_) | (with_reducible refine Keep.alloc ?_) | (with_reducible refine Keep.same ?_) | ((with_reducible refine WpH.here ?_); first | (refine WpH.nil ?_; refine NoP.normal ?_) | (refine WpH.load (by rfl) (by rfl) (by go_simp; rfl) ?_; simp only [Act.put, List.setIfInBounds_toArray, List.set_cons_zero, List.set_cons_succ]) | (refine WpH.loadT (by rfl) (by rfl) (by go_simp; rfl) (by rintro _ _ ⟨⟩; exact ⟨_, _, _, _, _, _, by rfl, by assumption, by assumption⟩) ?_; simp only [Act.put, List.setIfInBounds_toArray, List.set_cons_zero, List.set_cons_succ]) | (refine WpH.pure (by rfl) (fun w_ => by go_simp; (try go_bits); rfl) ?_; simp only [Act.put, List.setIfInBounds_toArray, List.set_cons_zero, List.set_cons_succ]) | (refine WpH.wild1 (by rfl) (fun _ _ => ?_)) | (refine WpH.skip (by rfl) ?_; simp only [Act.put, List.setIfInBounds_toArray, List.set_cons_zero, List.set_cons_succ])) | go_values | go_skip | go_guarded | go_step | go_upon | go_back)
          go_roundw
          case rel => exact ⟨k + 1, A', c', X, SM, K, by go_num, rfl, by omega, by omega, by omega, by omega, hst4.step (balloc hb5)⟩
          case measure => simp [intOf]; omega
      · have HWi := hid (fun W => within_any x.do_ 2 (by decide) (by decide) W)
        rw [hd2] at HWi
        clear hd2
        by_cases hX0 : X.length = 0
        · skip
          exact absurd hX0 (by omega)
        · have hX0' : (X.length : Int) > 0 := by omega
          obtain ⟨p, hp⟩ : ∃ p : Nat, x.i % (X.length : Int) = p := ⟨(x.i % (X.length : Int)).toNat, by rw [Int.toNat_of_nonneg (Int.emod_nonneg _ (by omega))]⟩
          have hpL : p < X.length := by have := Int.emod_lt_of_pos x.i (show (0 : Int) < X.length by omega); omega
          have HWp := hid (fun W => within_any x.i (X.length : Int) (by omega) (by omega) W)
          rw [hp] at HWp
          obtain ⟨xdo, xi, xdn, xe⟩ := x
          dsimp only at HWi HWp hC4 q0 q1 q2 q3 q4 q5 q6 q7 hxin
          clear hX0 hp
          have he : X[p]? = some X[p] := List.getElem?_eq_getElem hpL
          generalize X[p] = e at he
          have hgb := fairH_bounds (hst4.mdl.good e (List.mem_of_getElem? he)).hides
          have hm0 : -9223372036854775808 ≤ e.hides + 1 := by omega
          have hm1 : e.hides + 1 ≤ 9223372036854775807 := by omega
          have hm2 : -9223372036854775808 ≤ e.hides + -1 := by omega
          have hm3 : e.hides + -1 ≤ 9223372036854775807 := by omega
          have hpLi : (p : Int) < X.length := by omega
          have He := hid he
          clear he
          cases xdn
          · skip
            as_aux_lemma =>
              cases hf : fairH (e.hides + 1)
              · have HA := hid (refAdd_no A' X.length c' p X _ (fun _ => False) e 1 (by omega) W4 hst4.row (by omega) He.out (by omega) hf)
                repeat' (first | (go_at_call 26; go_must ((first | (with_reducible refine Calls.mono (HWi.out _) ?_) | (with_reducible refine Calls.mono (HWp.out _) ?_)); rintro _ _ ⟨rfl, rfl⟩; dsimp only)) | (go_at_call 48; go_must ((with_reducible refine Calls.mono HA.out ?_); rintro _ w5 ⟨v5, rfl, ⟨h1', B, m5, d5, C5, q5, rfl, hr1, hr2⟩, hb5⟩; clear hr1 hr2; dsimp only)) | (with_reducible refine Keep.last ?_) | (with_reducible refine Keep.below (by assumption) ?_) | (with_reducible refine Keep.kept (by assumption) ?_) | (with_reducible refine Keep.alloc ?_) | (with_reducible refine Keep.same ?_) | ((with_reducible refine WpH.here ?_); first | (refine WpH.nil ?_; refine NoP.normal ?_) | (refine WpH.load (by rfl) (by rfl) (by go_simp; rfl) ?_; simp only [Act.put, List.setIfInBounds_toArray, List.set_cons_zero, List.set_cons_succ]) | (refine WpH.loadT (by rfl) (by rfl) (by go_simp; rfl) (by rintro _ _ ⟨⟩; exact ⟨_, _, _, _, _, _, by rfl, by assumption, by assumption⟩) ?_; simp only [Act.put, List.setIfInBounds_toArray, List.set_cons_zero, List.set_cons_succ]) | (refine WpH.pure (by rfl) (fun w_ => by go_simp; (try go_bits); rfl) ?_; simp only [Act.put, List.setIfInBounds_toArray, List.set_cons_zero, List.set_cons_succ]) | (refine WpH.wild1 (by rfl) (fun _ _ => ?_)) | (refine WpH.skip (by rfl) ?_; simp only [Act.put, List.setIfInBounds_toArray, List.set_cons_zero, List.set_cons_succ])) | go_values | go_skip | go_guarded | go_step | go_upon | go_back)
                go_roundw
                case rel => exact ⟨k + 1, A', c', X, SM, K, by go_num, rfl, by omega, by omega, by omega, by omega, hst4.step (balloc hb5)⟩
                case measure => simp [intOf]; omega
              · have HA := hid (refAdd_ok A' X.length c' p X _ e 1 (by omega) W4 hst4.row (by omega) He.out hf)
                unfold noNone at HA
                obtain ⟨v', hv1, hv2, hv3⟩ := where_set' (d := 1) hst4.there He.out
                rw [Hv.out, ← Hown.out] at hv2 hv3
                dsimp only at hv2 hv3
                have Hv1 := hid hv1
                have hnms := map_nm_set X p e 1 He.out
                have Hnm := hid hnms
                clear hv1 hnms
                by_cases hpo : (p : Int) ≤ (k0 : Int)
                · have hv2' := hv2 hpo
                  have Hv2 := hid hv2'
                  clear hv2 hv3 hv2'
                  have hl1 := e.live_le
                  have hl2 := (e.hide 1).live_le
                  repeat' (first | (go_at_call 26; go_must ((first | (with_reducible refine Calls.mono (HWi.out _) ?_) | (with_reducible refine Calls.mono (HWp.out _) ?_)); rintro _ _ ⟨rfl, rfl⟩; dsimp only)) | (go_at_call 48; go_must ((with_reducible refine Calls.mono HA.out ?_); rintro _ w5 ⟨A2, c2, rfl, hO2, hb5⟩; have eN : Below w5.heap.size w5 (w5.alloc (.cells #[.int .i64 0, .slice none 0 0, .slice none 0 0] 75)) := balloc (Below.refl _ _); have hst6 := (hst4.step hb5).step eN; have hr6 := (hO2.row (S := fun b => ¬ SM b) fun b h1 h2 h3 => (by have := (hst4.own b h3).2.1; omega)).step eN; obtain ⟨b2, off2, e2, rfl, -, he2, u0, u1, u2, u3, u4⟩ := hr6.at_ hpL; obtain ⟨b3, off3, e3, rfl, -, he3, t0, t1, t2, t3, t4⟩ := hst6.row.at_ hpL; obtain rfl := Option.some.inj (he3.symm.trans He.out); have he2' : e2 = e3.hide 1 := (by rw [List.getElem?_set_self hpL] at he2; exact (Option.some.inj he2).symm); have hq : (v : Int) + ((e2.live : Int) - (e3.live : Int)) = (v' : Int) := (by rw [he2']; have := Hv2.out; omega); have hle2 := e2.live_le; have hlq : -9223372036854775808 ≤ (v' : Int) := (by omega); have hlr : (v' : Int) ≤ 1000 := (by omega); have ub := lt_of_cell' u0; have tb := lt_of_cell' t0; dsimp only at ub tb; have HG1 := hid (fun W => refWeigh_any e2 W); have B6 : Below (w5.alloc (.cells #[.int .i64 0, .slice none 0 0, .slice none 0 0] 75)).heap.size (w5.alloc (.cells #[.int .i64 0, .slice none 0 0, .slice none 0 0] 75)) (w5.alloc (.cells #[.int .i64 0, .slice none 0 0, .slice none 0 0] 75)).drew := (Below.refl _ _).drew; have HG2 := hid (fun W => refWeigh_any e3 W); have He2 := hid he2'; have HMA := hid (fun W (hb : Below (w5.alloc (.cells #[.int .i64 0, .slice none 0 0, .slice none 0 0] 75)).heap.size (w5.alloc (.cells #[.int .i64 0, .slice none 0 0, .slice none 0 0] 75)) W) => madd_ok W SM mb X K p e3 1 (by omega) (hst6.step hb).mdl (by omega) He.out hf); clear he2 he3 he2' hl1 hl2; dsimp only)) | ((with_reducible refine region_at 37 ?_); refine wp_region_order [(0, true, false), (1, true, false), (2, true, false), (3, true, false), (6, true, false), (7, true, false), (8, true, false), (9, true, false), (4, false, false), (5, true, false), (10, false, false), (11, true, false), (12, true, false), (13, true, false)] (by kernel_rfl) (by kernel_rfl) (by kernel_rfl) rfl rfl ?_) | (go_at_call 49; go_must ((first | (with_reducible refine Calls.mono (HG1.out _) ?_) | (with_reducible refine Calls.mono (HG2.out _) ?_)); rintro _ wg ⟨rfl, hbg⟩; have B6 := bvia B6 hbg; dsimp only)) | (go_at_call 40; go_must ((with_reducible refine Calls.mono (HMA.out _ B6) ?_); rintro _ w7 ⟨rfl, hM7, hO7⟩; have hst7 := (hst6.step B6).turned (A' := some ⟨b2, off2, none⟩) (c' := c2) (X' := X.set p (e3.hide 1)) hM7 hO7 (by rw [List.length_set]; exact hr6.step B6) (by rw [Hnm.out]; exact hst4.there); have ha := (hst7).box; have g0 := ha.cell 0; have g1 := ha.cell 1; have g2 := ha.cell 2; have g3 := ha.cell 3; have gl := ha.lt; simp at g0 g1 g2 g3; clear ha; have HW7 := hid (awhere_any w7 _ mb _ _ _ hst7.mdl (by rw [List.length_set]; omega) hanI); rw [Hv1.out] at HW7; dsimp only at HW7; dsimp only)) | (go_at_call 33; go_must ((with_reducible refine Calls.mono HW7.out ?_); rintro _ w9 ⟨rfl, hb9⟩; dsimp only)) | (with_reducible refine Keep.last ?_) | (with_reducible refine Keep.below (by assumption) ?_) | (with_reducible refine Keep.kept (by assumption) ?_) | (with_reducible refine Keep.alloc ?_) | (with_reducible refine Keep.same ?_) | ((with_reducible refine WpH.here ?_); first | (refine WpH.nil ?_; refine NoP.normal ?_) | (refine WpH.load (by rfl) (by rfl) (by go_simp; rfl) ?_; simp only [Act.put, List.setIfInBounds_toArray, List.set_cons_zero, List.set_cons_succ]) | (refine WpH.loadT (by rfl) (by rfl) (by go_simp; rfl) (by rintro _ _ ⟨⟩; exact ⟨_, _, _, _, _, _, by rfl, by assumption, by assumption⟩) ?_; simp only [Act.put, List.setIfInBounds_toArray, List.set_cons_zero, List.set_cons_succ]) | (refine WpH.pure (by rfl) (fun w_ => by go_simp; (try go_bits); rfl) ?_; simp only [Act.put, List.setIfInBounds_toArray, List.set_cons_zero, List.set_cons_succ]) | (refine WpH.wild1 (by rfl) (fun _ _ => ?_)) | (refine WpH.skip (by rfl) ?_; simp only [Act.put, List.setIfInBounds_toArray, List.set_cons_zero, List.set_cons_succ])) | go_values | go_skip | go_guarded | go_step | go_upon | go_back)
                  skip
                  all_goals
                    go_roundw
                    case rel => exact ⟨k + 1, some ⟨b2, off2, none⟩, c2, X.set p (e3.hide 1), _, K, by go_num, by rw [List.length_set], by omega, by omega, by rw [List.length_set]; omega, by omega, hst7.step hb9⟩
                    case measure => simp [intOf]; omega
                · have hv3' := hv3 hpo
                  subst hv3'
                  clear hv2 hv3
                  repeat' (first | (go_at_call 26; go_must ((first | (with_reducible refine Calls.mono (HWi.out _) ?_) | (with_reducible refine Calls.mono (HWp.out _) ?_)); rintro _ _ ⟨rfl, rfl⟩; dsimp only)) | (go_at_call 48; go_must ((with_reducible refine Calls.mono HA.out ?_); rintro _ w5 ⟨A2, c2, rfl, hO2, hb5⟩; have eN : Below w5.heap.size w5 (w5.alloc (.cells #[.int .i64 0, .slice none 0 0, .slice none 0 0] 75)) := balloc (Below.refl _ _); have hst6 := (hst4.step hb5).step eN; have hr6 := (hO2.row (S := fun b => ¬ SM b) fun b h1 h2 h3 => (by have := (hst4.own b h3).2.1; omega)).step eN; have HMA := hid (madd_ok _ SM mb X K p e 1 (by omega) hst6.mdl (by omega) He.out hf); dsimp only)) | (go_at_call 40; go_must ((with_reducible refine Calls.mono HMA.out ?_); rintro _ w7 ⟨rfl, hM7, hO7⟩; have hst7 := hst6.turned (A' := A2) (c' := c2) (X' := X.set p (e.hide 1)) hM7 hO7 (by rw [List.length_set]; exact hr6) (by rw [Hnm.out]; exact hst4.there); have ha := (hst7).box; have g0 := ha.cell 0; have g1 := ha.cell 1; have g2 := ha.cell 2; have g3 := ha.cell 3; have gl := ha.lt; simp at g0 g1 g2 g3; clear ha; have HW7 := hid (awhere_any w7 _ mb _ _ _ hst7.mdl (by rw [List.length_set]; omega) hanI); rw [Hv1.out] at HW7; dsimp only at HW7; dsimp only)) | (go_at_call 33; go_must ((with_reducible refine Calls.mono HW7.out ?_); rintro _ w9 ⟨rfl, hb9⟩; dsimp only)) | (with_reducible refine Keep.last ?_) | (with_reducible refine Keep.below (by assumption) ?_) | (with_reducible refine Keep.kept (by assumption) ?_) | (with_reducible refine Keep.alloc ?_) | (with_reducible refine Keep.same ?_) | ((with_reducible refine WpH.here ?_); first | (refine WpH.nil ?_; refine NoP.normal ?_) | (refine WpH.load (by rfl) (by rfl) (by go_simp; rfl) ?_; simp only [Act.put, List.setIfInBounds_toArray, List.set_cons_zero, List.set_cons_succ]) | (refine WpH.loadT (by rfl) (by rfl) (by go_simp; rfl) (by rintro _ _ ⟨⟩; exact ⟨_, _, _, _, _, _, by rfl, by assumption, by assumption⟩) ?_; simp only [Act.put, List.setIfInBounds_toArray, List.set_cons_zero, List.set_cons_succ]) | (refine WpH.pure (by rfl) (fun w_ => by go_simp; (try go_bits); rfl) ?_; simp only [Act.put, List.setIfInBounds_toArray, List.set_cons_zero, List.set_cons_succ]) | (refine WpH.wild1 (by rfl) (fun _ _ => ?_)) | (refine WpH.skip (by rfl) ?_; simp only [Act.put, List.setIfInBounds_toArray, List.set_cons_zero, List.set_cons_succ])) | go_values | go_skip | go_guarded | go_step | go_upon | go_back)
                  go_roundw
                  case rel => exact ⟨k + 1, A2, c2, X.set p (e.hide 1), _, K, by go_num, by rw [List.length_set], by omega, by omega, by rw [List.length_set]; omega, by omega, hst7.step hb9⟩
                  case measure => simp [intOf]; omega
          · skip
            as_aux_lemma =>
              cases hf : fairH (e.hides + (-1))
              · have HA := hid (refAdd_no A' X.length c' p X _ (fun _ => False) e (-1) (by omega) W4 hst4.row (by omega) He.out (by omega) hf)
                repeat' (first | (go_at_call 26; go_must ((first | (with_reducible refine Calls.mono (HWi.out _) ?_) | (with_reducible refine Calls.mono (HWp.out _) ?_)); rintro _ _ ⟨rfl, rfl⟩; dsimp only)) | (go_at_call 48; go_must ((with_reducible refine Calls.mono HA.out ?_); rintro _ w5 ⟨v5, rfl, ⟨h1', B, m5, d5, C5, q5, rfl, hr1, hr2⟩, hb5⟩; clear hr1 hr2; dsimp only)) | (with_reducible refine Keep.last ?_) | (with_reducible refine Keep.below (by assumption) ?_) | (with_reducible refine Keep.kept (by assumption) ?_) | (with_reducible refine Keep.alloc ?_) | (with_reducible refine Keep.same ?_) | ((with_reducible refine WpH.here ?_); first | (refine WpH.nil ?_; refine NoP.normal ?_) | (refine WpH.load (by rfl) (by rfl) (by go_simp; rfl) ?_; simp only [Act.put, List.setIfInBounds_toArray, List.set_cons_zero, List.set_cons_succ]) | (refine WpH.loadT (by rfl) (by rfl) (by go_simp; rfl) (by rintro _ _ ⟨⟩; exact ⟨_, _, _, _, _, _, by rfl, by assumption, by assumption⟩) ?_; simp only [Act.put, List.setIfInBounds_toArray, List.set_cons_zero, List.set_cons_succ]) | (refine WpH.pure (by rfl) (fun w_ => by go_simp; (try go_bits); rfl) ?_; simp only [Act.put, List.setIfInBounds_toArray, List.set_cons_zero, List.set_cons_succ]) | (refine WpH.wild1 (by rfl) (fun _ _ => ?_)) | (refine WpH.skip (by rfl) ?_; simp only [Act.put, List.setIfInBounds_toArray, List.set_cons_zero, List.set_cons_succ])) | go_values | go_skip | go_guarded | go_step | go_upon | go_back)
                go_roundw
                case rel => exact ⟨k + 1, A', c', X, SM, K, by go_num, rfl, by omega, by omega, by omega, by omega, hst4.step (balloc hb5)⟩
                case measure => simp [intOf]; omega
              · have HA := hid (refAdd_ok A' X.length c' p X _ e (-1) (by omega) W4 hst4.row (by omega) He.out hf)
                unfold noNone at HA
                obtain ⟨v', hv1, hv2, hv3⟩ := where_set' (d := (-1)) hst4.there He.out
                rw [Hv.out, ← Hown.out] at hv2 hv3
                dsimp only at hv2 hv3
                have Hv1 := hid hv1
                have hnms := map_nm_set X p e (-1) He.out
                have Hnm := hid hnms
                clear hv1 hnms
                by_cases hpo : (p : Int) ≤ (k0 : Int)
                · have hv2' := hv2 hpo
                  have Hv2 := hid hv2'
                  clear hv2 hv3 hv2'
                  have hl1 := e.live_le
                  have hl2 := (e.hide (-1)).live_le
                  repeat' (first | (go_at_call 26; go_must ((first | (with_reducible refine Calls.mono (HWi.out _) ?_) | (with_reducible refine Calls.mono (HWp.out _) ?_)); rintro _ _ ⟨rfl, rfl⟩; dsimp only)) | (go_at_call 48; go_must ((with_reducible refine Calls.mono HA.out ?_); rintro _ w5 ⟨A2, c2, rfl, hO2, hb5⟩; have eN : Below w5.heap.size w5 (w5.alloc (.cells #[.int .i64 0, .slice none 0 0, .slice none 0 0] 75)) := balloc (Below.refl _ _); have hst6 := (hst4.step hb5).step eN; have hr6 := (hO2.row (S := fun b => ¬ SM b) fun b h1 h2 h3 => (by have := (hst4.own b h3).2.1; omega)).step eN; obtain ⟨b2, off2, e2, rfl, -, he2, u0, u1, u2, u3, u4⟩ := hr6.at_ hpL; obtain ⟨b3, off3, e3, rfl, -, he3, t0, t1, t2, t3, t4⟩ := hst6.row.at_ hpL; obtain rfl := Option.some.inj (he3.symm.trans He.out); have he2' : e2 = e3.hide (-1) := (by rw [List.getElem?_set_self hpL] at he2; exact (Option.some.inj he2).symm); have hq : (v : Int) + ((e2.live : Int) - (e3.live : Int)) = (v' : Int) := (by rw [he2']; have := Hv2.out; omega); have hle2 := e2.live_le; have hlq : -9223372036854775808 ≤ (v' : Int) := (by omega); have hlr : (v' : Int) ≤ 1000 := (by omega); have ub := lt_of_cell' u0; have tb := lt_of_cell' t0; dsimp only at ub tb; have HG1 := hid (fun W => refWeigh_any e2 W); have B6 : Below (w5.alloc (.cells #[.int .i64 0, .slice none 0 0, .slice none 0 0] 75)).heap.size (w5.alloc (.cells #[.int .i64 0, .slice none 0 0, .slice none 0 0] 75)) (w5.alloc (.cells #[.int .i64 0, .slice none 0 0, .slice none 0 0] 75)).drew := (Below.refl _ _).drew; have HG2 := hid (fun W => refWeigh_any e3 W); have He2 := hid he2'; have HMA := hid (fun W (hb : Below (w5.alloc (.cells #[.int .i64 0, .slice none 0 0, .slice none 0 0] 75)).heap.size (w5.alloc (.cells #[.int .i64 0, .slice none 0 0, .slice none 0 0] 75)) W) => madd_ok W SM mb X K p e3 (-1) (by omega) (hst6.step hb).mdl (by omega) He.out hf); clear he2 he3 he2' hl1 hl2; dsimp only)) | ((with_reducible refine region_at 37 ?_); refine wp_region_order [(0, true, false), (1, true, false), (2, true, false), (3, true, false), (6, true, false), (7, true, false), (8, true, false), (9, true, false), (4, false, false), (5, true, false), (10, false, false), (11, true, false), (12, true, false), (13, true, false)] (by kernel_rfl) (by kernel_rfl) (by kernel_rfl) rfl rfl ?_) | (go_at_call 49; go_must ((first | (with_reducible refine Calls.mono (HG1.out _) ?_) | (with_reducible refine Calls.mono (HG2.out _) ?_)); rintro _ wg ⟨rfl, hbg⟩; have B6 := bvia B6 hbg; dsimp only)) | (go_at_call 40; go_must ((with_reducible refine Calls.mono (HMA.out _ B6) ?_); rintro _ w7 ⟨rfl, hM7, hO7⟩; have hst7 := (hst6.step B6).turned (A' := some ⟨b2, off2, none⟩) (c' := c2) (X' := X.set p (e3.hide (-1))) hM7 hO7 (by rw [List.length_set]; exact hr6.step B6) (by rw [Hnm.out]; exact hst4.there); have ha := (hst7).box; have g0 := ha.cell 0; have g1 := ha.cell 1; have g2 := ha.cell 2; have g3 := ha.cell 3; have gl := ha.lt; simp at g0 g1 g2 g3; clear ha; have HW7 := hid (awhere_any w7 _ mb _ _ _ hst7.mdl (by rw [List.length_set]; omega) hanI); rw [Hv1.out] at HW7; dsimp only at HW7; dsimp only)) | (go_at_call 33; go_must ((with_reducible refine Calls.mono HW7.out ?_); rintro _ w9 ⟨rfl, hb9⟩; dsimp only)) | (with_reducible refine Keep.last ?_) | (with_reducible refine Keep.below (by assumption) ?_) | (with_reducible refine Keep.kept (by assumption) ?_) | (with_reducible refine Keep.alloc ?_) | (with_reducible refine Keep.same ?_) | ((with_reducible refine WpH.here ?_); first | (refine WpH.nil ?_; refine NoP.normal ?_) | (refine WpH.load (by rfl) (by rfl) (by go_simp; rfl) ?_; simp only [Act.put, List.setIfInBounds_toArray, List.set_cons_zero, List.set_cons_succ]) | (refine WpH.loadT (by rfl) (by rfl) (by go_simp; rfl) (by rintro _ _ ⟨⟩; exact ⟨_, _, _, _, _, _, by rfl, by assumption, by assumption⟩) ?_; simp only [Act.put, List.setIfInBounds_toArray, List.set_cons_zero, List.set_cons_succ]) | (refine WpH.pure (by rfl) (fun w_ => by go_simp; (try go_bits); rfl) ?_; simp only [Act.put, List.setIfInBounds_toArray, List.set_cons_zero, List.set_cons_succ]) | (refine WpH.wild1 (by rfl) (fun _ _ => ?_)) | (refine WpH.skip (by rfl) ?_; simp only [Act.put, List.setIfInBounds_toArray, List.set_cons_zero, List.set_cons_succ])) | go_values | go_skip | go_guarded | go_step | go_upon | go_back)
                  skip
                  all_goals
                    go_roundw
                    case rel => exact ⟨k + 1, some ⟨b2, off2, none⟩, c2, X.set p (e3.hide (-1)), _, K, by go_num, by rw [List.length_set], by omega, by omega, by rw [List.length_set]; omega, by omega, hst7.step hb9⟩
                    case measure => simp [intOf]; omega
                · have hv3' := hv3 hpo
                  subst hv3'
                  clear hv2 hv3
                  repeat' (first | (go_at_call 26; go_must ((first | (with_reducible refine Calls.mono (HWi.out _) ?_) | (with_reducible refine Calls.mono (HWp.out _) ?_)); rintro _ _ ⟨rfl, rfl⟩; dsimp only)) | (go_at_call 48; go_must ((with_reducible refine Calls.mono HA.out ?_); rintro _ w5 ⟨A2, c2, rfl, hO2, hb5⟩; have eN : Below w5.heap.size w5 (w5.alloc (.cells #[.int .i64 0, .slice none 0 0, .slice none 0 0] 75)) := balloc (Below.refl _ _); have hst6 := (hst4.step hb5).step eN; have hr6 := (hO2.row (S := fun b => ¬ SM b) fun b h1 h2 h3 => (by have := (hst4.own b h3).2.1; omega)).step eN; have HMA := hid (madd_ok _ SM mb X K p e (-1) (by omega) hst6.mdl (by omega) He.out hf); dsimp only)) | (go_at_call 40; go_must ((with_reducible refine Calls.mono HMA.out ?_); rintro _ w7 ⟨rfl, hM7, hO7⟩; have hst7 := hst6.turned (A' := A2) (c' := c2) (X' := X.set p (e.hide (-1))) hM7 hO7 (by rw [List.length_set]; exact hr6) (by rw [Hnm.out]; exact hst4.there); have ha := (hst7).box; have g0 := ha.cell 0; have g1 := ha.cell 1; have g2 := ha.cell 2; have g3 := ha.cell 3; have gl := ha.lt; simp at g0 g1 g2 g3; clear ha; have HW7 := hid (awhere_any w7 _ mb _ _ _ hst7.mdl (by rw [List.length_set]; omega) hanI); rw [Hv1.out] at HW7; dsimp only at HW7; dsimp only)) | (go_at_call 33; go_must ((with_reducible refine Calls.mono HW7.out ?_); rintro _ w9 ⟨rfl, hb9⟩; dsimp only)) | (with_reducible refine Keep.last ?_) | (with_reducible refine Keep.below (by assumption) ?_) | (with_reducible refine Keep.kept (by assumption) ?_) | (with_reducible refine Keep.alloc ?_) | (with_reducible refine Keep.same ?_) | ((with_reducible refine WpH.here ?_); first | (refine WpH.nil ?_; refine NoP.normal ?_) | (refine WpH.load (by rfl) (by rfl) (by go_simp; rfl) ?_; simp only [Act.put, List.setIfInBounds_toArray, List.set_cons_zero, List.set_cons_succ]) | (refine WpH.loadT (by rfl) (by rfl) (by go_simp; rfl) (by rintro _ _ ⟨⟩; exact ⟨_, _, _, _, _, _, by rfl, by assumption, by assumption⟩) ?_; simp only [Act.put, List.setIfInBounds_toArray, List.set_cons_zero, List.set_cons_succ]) | (refine WpH.pure (by rfl) (fun w_ => by go_simp; (try go_bits); rfl) ?_; simp only [Act.put, List.setIfInBounds_toArray, List.set_cons_zero, List.set_cons_succ]) | (refine WpH.wild1 (by rfl) (fun _ _ => ?_)) | (refine WpH.skip (by rfl) ?_; simp only [Act.put, List.setIfInBounds_toArray, List.set_cons_zero, List.set_cons_succ])) | go_values | go_skip | go_guarded | go_step | go_upon | go_back)
                  go_roundw
                  case rel => exact ⟨k + 1, A2, c2, X.set p (e.hide (-1)), _, K, by go_num, by rw [List.length_set], by omega, by omega, by rw [List.length_set]; omega, by omega, hst7.step hb9⟩
                  case measure => simp [intOf]; omega
    · have HK := hid (wakes13_any wr _ (Hs.out.step hbr))
      by_cases hlt1 : k < m
      · have hk40 : ¬ (k : Int) < 40 := by omega
        have hkm : (k : Int) < m := by omega
        clear hlt
        repeat' (first | (go_at_call 34; go_must ((with_reducible refine Calls.mono HK.out ?_); rintro _ w9 ⟨rfl, hb9⟩; dsimp only)) | (with_reducible refine Keep.last ?_) | (with_reducible refine Keep.below (by assumption) ?_) | (with_reducible refine Keep.kept (by assumption) ?_) | (with_reducible refine Keep.alloc ?_) | (with_reducible refine Keep.same ?_) | ((with_reducible refine WpH.here ?_); first | (refine WpH.nil ?_; refine NoP.normal ?_) | (refine WpH.load (by rfl) (by rfl) (by go_simp; rfl) ?_; simp only [Act.put, List.setIfInBounds_toArray, List.set_cons_zero, List.set_cons_succ]) | (refine WpH.loadT (by rfl) (by rfl) (by go_simp; rfl) (by rintro _ _ ⟨⟩; exact ⟨_, _, _, _, _, _, by rfl, by assumption, by assumption⟩) ?_; simp only [Act.put, List.setIfInBounds_toArray, List.set_cons_zero, List.set_cons_succ]) | (refine WpH.pure (by rfl) (fun w_ => by go_simp; (try go_bits); rfl) ?_; simp only [Act.put, List.setIfInBounds_toArray, List.set_cons_zero, List.set_cons_succ]) | (refine WpH.wild1 (by rfl) (fun _ _ => ?_)) | (refine WpH.skip (by rfl) ?_; simp only [Act.put, List.setIfInBounds_toArray, List.set_cons_zero, List.set_cons_succ])) | go_values | go_skip | go_guarded | go_step | go_upon | go_back)
        go_ret
        exact ⟨rfl, bvia hbr hb9⟩
      · obtain rfl : k = m := by omega
        clear hlt
        repeat' (first | (go_at_call 34; go_must ((with_reducible refine Calls.mono HK.out ?_); rintro _ w9 ⟨rfl, hb9⟩; dsimp only)) | (with_reducible refine Keep.last ?_) | (with_reducible refine Keep.below (by assumption) ?_) | (with_reducible refine Keep.kept (by assumption) ?_) | (with_reducible refine Keep.alloc ?_) | (with_reducible refine Keep.same ?_) | ((with_reducible refine WpH.here ?_); first | (refine WpH.nil ?_; refine NoP.normal ?_) | (refine WpH.load (by rfl) (by rfl) (by go_simp; rfl) ?_; simp only [Act.put, List.setIfInBounds_toArray, List.set_cons_zero, List.set_cons_succ]) | (refine WpH.loadT (by rfl) (by rfl) (by go_simp; rfl) (by rintro _ _ ⟨⟩; exact ⟨_, _, _, _, _, _, by rfl, by assumption, by assumption⟩) ?_; simp only [Act.put, List.setIfInBounds_toArray, List.set_cons_zero, List.set_cons_succ]) | (refine WpH.pure (by rfl) (fun w_ => by go_simp; (try go_bits); rfl) ?_; simp only [Act.put, List.setIfInBounds_toArray, List.set_cons_zero, List.set_cons_succ]) | (refine WpH.wild1 (by rfl) (fun _ _ => ?_)) | (refine WpH.skip (by rfl) ?_; simp only [Act.put, List.setIfInBounds_toArray, List.set_cons_zero, List.set_cons_succ])) | go_values | go_skip | go_guarded | go_step | go_upon | go_back)
        go_ret
        exact ⟨rfl, bvia hbr hb9⟩
theorem astays_true (w : World) (A C : Option Addr) (n c m d : Nat) (at_ : Int) (ls : List El) (cs : List Chg) (S S' : Nat → Prop) (hr : Row w S A n c ls) (hin : ∀ e ∈ ls, e.In) (hc : GRow w S C m d cs) (hci : ∀ x ∈ cs, x.e.In) (hs : Sents w S' a) :
    Calls Tryd.prog 9 #[.slice A n c, .int .i64 at_, .slice C m d] w fun e w' => e = .returned (.bool true) ∧ Below w.heap.size w w' := by
  by_cases h0 : (accOf ls).length = 0
  · exact astays_empty w A C n c m d at_ ls cs S S' hr hin hc hci hs h0
  · by_cases h1 : at_ % (((accOf ls).length : Int) + 1) < (accOf ls).length
    · exact astays_named w A C n c m d at_ ls cs S S' hr hin hc hci hs ⟨by omega, h1⟩
    · exact astays_front w A C n c m d at_ ls cs S S' hr hin hc hci hs ⟨by omega, h1⟩
end Go.Proofs.YtfihjajllfihjaaDoor
