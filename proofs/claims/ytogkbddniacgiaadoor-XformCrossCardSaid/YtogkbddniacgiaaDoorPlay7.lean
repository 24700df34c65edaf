/- Rows of operations made valid, played, spoilt: the IDs that they give, that each may be done; the walks. Conditions: the rows lie in memory. -/
import Derived.Test.YtogkbddniacgiaaDoorTrio
import Derived.Test.YtogkbddniacgiaaDoorOps5
namespace Go.Proofs.YtogkbddniacgiaaDoor
set_option linter.unusedSimpArgs false
set_option linter.unusedVariables false
open Go Go.RowKit
/-- how many inserts of a replica -/
def cntR (l : List Opn) (r : Int) : Nat := (l.filter fun o => decide (o.kind = 1 ∧ o.rep = r)).length
theorem cntR_snoc (l : List Opn) (o : Opn) (r : Int) : cntR (l ++ [o]) r = cntR l r + if o.kind = 1 ∧ o.rep = r then 1 else 0 := by
  unfold cntR
  rw [List.filter_append, List.length_append]
  congr 1
  split
  · next h => simp [h]
  · next h => simp [h]
theorem cntR_le (l : List Opn) (r : Int) : cntR l r ≤ l.length := List.length_filter_le _ _
theorem cntR_append (l m : List Opn) (r : Int) : cntR (l ++ m) r = cntR l r + cntR m r := by unfold cntR; rw [List.filter_append, List.length_append]
theorem cntR_none {l : List Opn} {r : Int} (h : ∀ o ∈ l, o.rep ≠ r) : cntR l r = 0 := by
  unfold cntR
  rw [List.length_eq_zero_iff, List.filter_eq_nil_iff]
  intro o ho hc
  exact h o ho (of_decide_eq_true hc).2
theorem cntR_like : ∀ {l m : List Opn}, l.map Opn.kind = m.map Opn.kind → l.map Opn.rep = m.map Opn.rep → ∀ r, cntR l r = cntR m r
  | [], [], _, _, _ => rfl
  | [], _ :: _, h, _, _ => by cases h
  | _ :: _, [], h, _, _ => by cases h
  | a :: l, b :: m, h, h', r => by
    simp only [List.map_cons, List.cons.injEq] at h h'
    have ih := cntR_like h.2 h'.2 r
    unfold cntR at ih ⊢
    rw [List.filter_cons, List.filter_cons, h.1, h'.1]
    split
    · rw [List.length_cons, List.length_cons, ih]
    · exact ih
/-- the ID of the operation number k -/
def idK (ops : List Opn) (k : Nat) (o : Opn) : Nm := nm4 o.rep (cntR (ops.take (k + 1)) o.rep)
def withIds (ops : List Opn) : List (Opn × Nm) := ops.zipIdx.map fun x => (x.1, idK ops x.2 x.1)
theorem withIds_get (ops : List Opn) (k : Nat) : (withIds ops)[k]? = ops[k]?.map fun o => (o, idK ops k o) := by
  unfold withIds
  rw [List.getElem?_map, List.getElem?_zipIdx]
  cases ops[k]? <;> simp
theorem withIds_length (ops : List Opn) : (withIds ops).length = ops.length := by simp [withIds]
theorem withIds_fst (ops : List Opn) : (withIds ops).map Prod.fst = ops := by
  refine List.ext_getElem? fun k => ?_
  rw [List.getElem?_map, withIds_get]
  cases ops[k]? <;> rfl
/-- the row behind the first k -/
def playOf (ls : List El) (ops : List Opn) (k : Nat) : List El := doneIds ls ((withIds ops).take k)
theorem playOf_succ {ls : List El} {ops : List Opn} {k : Nat} {o : Opn} (h : ops[k]? = some o) : playOf ls ops (k + 1) = doneOp (playOf ls ops k) o (idK ops k o) := by
  have h1 : (withIds ops)[k]? = some (o, idK ops k o) := by rw [withIds_get, h]; rfl
  obtain ⟨hk, he⟩ := List.getElem?_eq_some_iff.1 h1
  unfold playOf
  rw [List.take_succ_eq_append_getElem hk, he, doneIds_append]
  rfl
theorem playOf_all (ls : List El) (ops : List Opn) : playOf ls ops ops.length = doneIds ls (withIds ops) := by
  unfold playOf
  rw [List.take_of_length_le (by rw [withIds_length]; exact Nat.le_refl _)]
theorem FitAll.get : ∀ {ops : List Opn} {n k : Nat} {o : Opn}, FitAll n ops → ops[k]? = some o → Fits o (n + insOf (ops.take k))
  | [], _, _, _, _, h => by simp at h
  | a :: l, n, 0, o, h, h' => by
    obtain rfl : a = o := by simpa using h'
    simpa [insOf] using h.1
  | a :: l, n, k + 1, o, h, h' => by
    have := FitAll.get h.2 (show l[k]? = some o by simpa using h')
    rw [List.take_succ_cons, insOf_cons]
    rwa [Nat.add_assoc] at this
theorem fitAll_snoc : ∀ {ops : List Opn} {n : Nat} {o : Opn}, FitAll n (ops ++ [o]) ↔ FitAll n ops ∧ Fits o (n + insOf ops)
  | [], n, o => by simp [FitAll, insOf]
  | a :: l, n, o => by
    have ih := @fitAll_snoc l (n + a.ins) o
    rw [List.cons_append]
    simp only [FitAll, insOf_cons]
    rw [ih, Nat.add_assoc]
    exact and_assoc.symm
theorem fitAll_append : ∀ {p q : List Opn} {n : Nat}, FitAll n (p ++ q) ↔ FitAll n p ∧ FitAll (n + insOf p) q
  | [], q, n => by simp [FitAll, insOf]
  | a :: p, q, n => by
    have ih := @fitAll_append p q (n + a.ins)
    rw [List.cons_append]
    simp only [FitAll, insOf_cons]
    rw [ih, Nat.add_assoc]
    exact and_assoc.symm
theorem insOf_snoc {ops : List Opn} {k : Nat} {o : Opn} (h : ops[k]? = some o) : insOf (ops.take (k + 1)) = insOf (ops.take k) + o.ins := by
  obtain ⟨hk, rfl⟩ := List.getElem?_eq_some_iff.1 h
  rw [List.take_succ_eq_append_getElem hk]
  unfold insOf
  rw [List.map_append, List.sum_append]
  rfl
/-- what stands all along a play -/
structure PlayOk (ls : List El) (ops : List Opn) (k : Nat) : Prop where
  len : (playOf ls ops k).length = ls.length + insOf (ops.take k)
  calm : Calm (2 + k) (playOf ls ops k)
  names : ∀ i ∈ (playOf ls ops k).map El.nm, i ∈ ls.map El.nm ∨ i.epoch = 4 ∧ i.num ≤ cntR (ops.take k) i.rep
theorem playOk {ls : List El} {ops : List Opn} (hc : Calm 2 ls) : ∀ k, k ≤ ops.length → PlayOk ls ops k
  | 0, _ => ⟨by simp [playOf, doneIds, insOf], by simpa [playOf, doneIds] using hc, fun i hi => .inl (by simpa [playOf, doneIds] using hi)⟩
  | k + 1, hk => by
    have ih := playOk (ops := ops) hc k (by omega)
    obtain ⟨o, ho⟩ : ∃ o, ops[k]? = some o := ⟨ops[k]'(by omega), List.getElem?_eq_getElem _⟩
    have hsn : ops.take (k + 1) = ops.take k ++ [o] := by
      obtain ⟨h1, h2⟩ := List.getElem?_eq_some_iff.1 ho
      rw [List.take_succ_eq_append_getElem h1, h2]
    refine ⟨?_, ?_, fun i hi => ?_⟩
    · rw [playOf_succ ho, doneOp_len', ih.len, insOf_snoc ho, Nat.add_assoc]
    · rw [playOf_succ ho]
      have := ih.calm.done (by omega) o (idK ops k o)
      rwa [show (2 : Int) + ((k + 1 : Nat) : Int) = 2 + (k : Int) + 1 from by omega]
    · rw [playOf_succ ho] at hi
      rcases nm_done hi with ⟨hk1, rfl⟩ | hi
      · exact .inr ⟨rfl, Int.le_refl _⟩
      · rcases ih.names i hi with h | ⟨h1, h2⟩
        · exact .inl h
        · refine .inr ⟨h1, ?_⟩
          rw [hsn, cntR_snoc]
          omega
theorem play_can {ls : List El} {ops : List Opn} (hc : Calm 2 ls) (hf : FitAll ls.length ops) (hn : ∀ r n, nm4 r n ∉ ls.map El.nm) (hl : ops.length ≤ 1000) {k : Nat} {o : Opn} (ho : ops[k]? = some o) : CanDo (playOf ls ops k) o (idK ops k o) := by
  have hk : k < ops.length := (List.getElem?_eq_some_iff.1 ho).1
  have hp := playOk hc (ls := ls) (ops := ops) k (by omega)
  have hfit := hf.get ho
  rw [← hp.len] at hfit
  have hrep := rightOp_rep hfit.right
  have hle := cntR_le (ops.take (k + 1)) o.rep
  have hlt : (ops.take (k + 1)).length ≤ 1000 := Nat.le_trans (List.length_take_le _ _) (by omega)
  refine canDo_of hfit hp.calm (by omega) ⟨?_, ?_, ?_⟩ fun hk1 h => ?_
  · show I64 4; exact ⟨by decide, by decide⟩
  · show I64 o.rep; unfold I64; omega
  · show I64 (cntR (ops.take (k + 1)) o.rep : Nat); unfold I64; omega
  · rcases hp.names _ h with h | ⟨_, h⟩
    · exact hn _ _ h
    · have hsn : ops.take (k + 1) = ops.take k ++ [o] := by
        obtain ⟨h1, h2⟩ := List.getElem?_eq_some_iff.1 ho
        rw [List.take_succ_eq_append_getElem h1, h2]
      have h' : ((cntR (ops.take (k + 1)) o.rep : Nat) : Int) ≤ cntR (ops.take k) o.rep := h
      rw [hsn, cntR_snoc, if_pos ⟨hk1, rfl⟩] at h'
      omega
theorem withIds_zip (ops : List Opn) : withIds ops = ops.zip ((withIds ops).map Prod.snd) := by
  have h := List.zip_unzip (withIds ops)
  rw [List.unzip_eq_map, withIds_fst] at h
  exact h.symm
theorem snd_get (ops : List Opn) (k : Nat) : ((withIds ops).map Prod.snd)[k]? = ops[k]?.map (idK ops k) := by
  rw [List.getElem?_map, withIds_get]
  cases ops[k]? <;> rfl
theorem map_take_eq {α β : Type} {f : α → β} {l m : List α} (h : l.map f = m.map f) (k : Nat) : (l.take k).map f = (m.take k).map f := by
  rw [List.map_take, List.map_take, h]
/-- two rows of two replicas, one behind the other: each keeps its IDs -/
theorem withIds_append {a b y : List Opn} (hk : y.map Opn.kind = b.map Opn.kind) (hr : y.map Opn.rep = b.map Opn.rep) (hab : ∀ o ∈ a, ∀ p ∈ b, o.rep ≠ p.rep) :
    withIds (a ++ y) = a.zip ((withIds a).map Prod.snd) ++ y.zip ((withIds b).map Prod.snd) := by
  have hlen : y.length = b.length := by have := congrArg List.length hk; simpa using this
  have h : (withIds (a ++ y)).map Prod.snd = (withIds a).map Prod.snd ++ (withIds b).map Prod.snd := by
    refine List.ext_getElem? fun k => ?_
    rw [snd_get]
    by_cases h : k < a.length
    · rw [List.getElem?_append_left h, List.getElem?_append_left (by simpa [withIds_length] using h), snd_get]
      obtain ⟨o, ho⟩ : ∃ o, a[k]? = some o := ⟨a[k], List.getElem?_eq_getElem h⟩
      rw [ho]
      simp only [Option.map_some, idK]
      rw [List.take_append_of_le_length (by omega)]
    · rw [List.getElem?_append_right (by omega), List.getElem?_append_right (by simpa [withIds_length] using h)]
      simp only [List.length_map, withIds_length]
      rw [snd_get]
      obtain ⟨j, rfl⟩ := Nat.exists_eq_add_of_le (Nat.le_of_not_lt h)
      rw [Nat.add_sub_cancel_left]
      have hrj := congrArg (fun l => l[j]?) hr
      simp only [List.getElem?_map] at hrj
      cases hy : y[j]? with
      | none =>
        have hb : b[j]? = none := by
          rw [List.getElem?_eq_none_iff] at hy ⊢
          omega
        rw [hb]
        rfl
      | some p =>
        obtain ⟨q, hq⟩ : ∃ q, b[j]? = some q := ⟨b[j]'(by rw [← hlen]; exact (List.getElem?_eq_some_iff.1 hy).1), List.getElem?_eq_getElem _⟩
        rw [hy, hq] at hrj
        rw [hq]
        have hrep : p.rep = q.rep := by simpa using hrj
        simp only [Option.map_some, idK]
        rw [show a.length + j + 1 = a.length + (j + 1) from by omega, List.take_length_add_append, cntR_append, hrep, cntR_none (fun o ho => hab o ho q (List.mem_of_getElem? hq)), Nat.zero_add, cntR_like (map_take_eq hk (j + 1)) (map_take_eq hr (j + 1))]
  rw [withIds_zip, h, List.zip_append (by simp [withIds_length])]
/-- two rows of operations of two replicas, each behind the other: one row, whichever comes first -/
theorem cross_play {ls : List El} {a b : List Opn} (ha : FitAll ls.length a) (hb : FitAll ls.length b) (hab : ∀ o ∈ a, ∀ p ∈ b, o.rep ≠ p.rep) (hn : ls.length + a.length + b.length < 9223372036854775807) :
    doneIds ls (withIds (a ++ (crossOf a b).2)) = doneIds ls (withIds (b ++ (crossOf a b).1)) := by
  obtain ⟨k1, k2, k3, k4⟩ := crossOf_kinds b a
  rw [withIds_append k3 k4 hab, withIds_append k1 k2 (fun p hp o ho => (hab o ho p hp).symm)]
  exact crossOf_done b a ls _ _ ha hb hn hab (by simp [withIds_length]) (by simp [withIds_length])
/-- a row of operations made valid, of one replica -/
def behStep (r : Int) (s : List Opn × Nat) (o : Opn) : List Opn × Nat :=
  if s.1.length < 24 then (if (fitOf o s.2 r).2 = true then (s.1 ++ [(fitOf o s.2 r).1], s.2 + (fitOf o s.2 r).1.ins) else s) else s
def behAt (r : Int) (n : Nat) (ops : List Opn) : List Opn × Nat := ops.foldl (behStep r) ([], n)
theorem behAt_snoc (r : Int) (n : Nat) (ops : List Opn) (o : Opn) : behAt r n (ops ++ [o]) = behStep r (behAt r n ops) o := by simp [behAt]
structure BehOk (r : Int) (n : Nat) (s : List Opn × Nat) : Prop where
  fit : FitAll n s.1
  num : s.2 = n + insOf s.1
  rep : ∀ o ∈ s.1, o.rep = r
  len : s.1.length ≤ 24
theorem insOf_one (l : List Opn) (o : Opn) : insOf (l ++ [o]) = insOf l + o.ins := by
  unfold insOf
  rw [List.map_append, List.sum_append]
  rfl
theorem behOk_step {r : Int} {n : Nat} {s : List Opn × Nat} (hr : 0 ≤ r ∧ r < 8) (h : BehOk r n s) (o : Opn) : BehOk r n (behStep r s o) := by
  unfold behStep
  split
  · next hl =>
    split
    · next hf =>
      have hfit := fit_fits hr hf
      rw [h.num] at hfit
      refine ⟨fitAll_snoc.2 ⟨h.fit, ?_⟩, ?_, fun p hp => ?_, by simp; omega⟩
      · rw [h.num]; exact hfit
      · show s.2 + _ = _
        rw [insOf_one, h.num, Nat.add_assoc]
      · simp only [List.mem_append, List.mem_singleton] at hp
        rcases hp with hp | rfl
        · exact h.rep p hp
        · exact fit_rep o s.2 r
    · exact h
  · exact h
theorem behOk {r : Int} (n : Nat) (hr : 0 ≤ r ∧ r < 8) (ops : List Opn) : BehOk r n (behAt r n ops) := by
  have : ∀ (l : List Opn) (s : List Opn × Nat), BehOk r n s → BehOk r n (l.foldl (behStep r) s) := by
    intro l
    induction l with
    | nil => intro s h; exact h
    | cons o l ih => intro s h; exact ih _ (behOk_step hr h o)
  exact this ops ([], n) ⟨trivial, by simp [insOf], fun o h => (by cases h), Nat.zero_le _⟩
/-- where the row is full, nothing more comes in -/
theorem behAt_full (r : Int) (n : Nat) (ops : List Opn) (k : Nat) (h : ¬ (behAt r n (ops.take k)).1.length < 24) : behAt r n ops = behAt r n (ops.take k) := by
  have : ∀ (l : List Opn) (s : List Opn × Nat), ¬ s.1.length < 24 → l.foldl (behStep r) s = s := by
    intro l
    induction l with
    | nil => intro s _; rfl
    | cons o l ih =>
      intro s h
      rw [List.foldl_cons]
      have e : behStep r s o = s := by unfold behStep; rw [if_neg h]
      rw [e]
      exact ih s h
  conv => lhs; rw [← List.take_append_drop k ops]
  unfold behAt
  rw [List.foldl_append]
  exact this _ _ h
set_option maxRecDepth 50000 in
set_option maxHeartbeats 4000000 in
theorem behind_any (w : World) (A : Option Addr) (n c N : Nat) (r : Int) (xs : List Opn) (hx : GRow w (fun b => b < w.heap.size) A n c xs) (hN : N ≤ 1000) (hr : 0 ≤ r ∧ r < 8) :
    Calls Tryd.prog 48 #[.slice A n c, .int .i64 N, .int .i64 r] w fun e w' => ∃ A' c', e = .returned (.slice A' (behAt r N xs).1.length c') ∧ GOwn 58 w' w.heap.size A' (behAt r N xs).1.length c' (behAt r N xs).1 ∧ Below w.heap.size w w' := by
  have Hx := hid hx
  have hxl := hx.1
  have hnx := hx.len_le
  unfold maxLen at hnx
  have HB := hid (fun l => behOk N hr l)
  clear hx
  go_enter Tryd.func48, Tryd.ntmps48
  repeat' (first | (with_reducible refine Keep.last ?_) | (with_reducible refine Keep.below (by assumption) ?_) | (with_reducible refine Keep.kept (by assumption) ?_) | (with_reducible refine Keep.alloc ?_) | (with_reducible refine Keep.same ?_) | ((with_reducible refine WpH.here ?_); first | (refine WpH.nil ?_; refine NoP.normal ?_) | (refine WpH.load (by rfl) (by rfl) (by go_simp; rfl) ?_; simp only [Act.put, List.setIfInBounds_toArray, List.set_cons_zero, List.set_cons_succ]) | (refine WpH.loadT (by rfl) (by rfl) (by go_simp; rfl) (by rintro _ _ ⟨⟩; exact ⟨_, _, _, _, _, _, by rfl, by assumption, by assumption⟩) ?_; simp only [Act.put, List.setIfInBounds_toArray, List.set_cons_zero, List.set_cons_succ]) | (refine WpH.pure (by rfl) (fun w_ => by go_simp; (try go_bits); rfl) ?_; simp only [Act.put, List.setIfInBounds_toArray, List.set_cons_zero, List.set_cons_succ]) | (refine WpH.wild1 (by rfl) (fun _ _ => ?_)) | (refine WpH.skip (by rfl) ?_; simp only [Act.put, List.setIfInBounds_toArray, List.set_cons_zero, List.set_cons_succ])) | go_values | go_skip | go_guarded | go_step | go_upon | go_back)
  go_loopw [1, 7, 8] (fun s o i wr => ∃ (k : Nat) (A' : Option Addr) (c' : Nat), s = .int .i64 (behAt r N (xs.take k)).2 ∧ o = .slice A' (behAt r N (xs.take k)).1.length c' ∧ i = .int .i64 k ∧ k ≤ n ∧ GOwn 58 wr w.heap.size A' (behAt r N (xs.take k)).1.length c' (behAt r N (xs.take k)).1 ∧ Below w.heap.size w wr) (fun _ _ i _ => n - (intOf i).toNat)
  case atStart => exact ⟨0, none, 0, rfl, rfl, rfl, Nat.zero_le _, GOwn.nil _ _ _, Below.refl _ _⟩
  case round =>
    obtain ⟨k, A', c', rfl, rfl, rfl, hk, gA, hbr⟩ := hrel
    have hbo := HB.out (xs.take k)
    have hln := hbo.len
    have hnum := hbo.num
    have hm2 : (behAt r N (xs.take k)).2 ≤ 2000 := by
      have hins := insOf_le (behAt r N (xs.take k)).1
      omega
    clear hnum
    by_cases hlt : k < n ∧ (behAt r N (xs.take k)).1.length < 24
    · obtain ⟨hlt1, hlt2⟩ := hlt
      obtain ⟨b, off, o, hA0, hSb, hbl, hok, hcell⟩ := (Hx.out.step hbr).at_ hlt1
      subst hA0
      have c0 : wr.cell? ⟨b, off + k * 4, none⟩ = some (.int .i64 o.kind) := hcell 0 _ rfl
      have c1 : wr.cell? ⟨b, off + k * 4 + 1, none⟩ = some (.int .i64 o.at_) := hcell 1 _ rfl
      have c2 : wr.cell? ⟨b, off + k * 4 + 2, none⟩ = some (.int .i32 o.char) := hcell 2 _ rfl
      have c3 : wr.cell? ⟨b, off + k * 4 + 3, none⟩ = some (.int .i64 o.rep) := hcell 3 _ rfl
      have hstep : behAt r N (xs.take (k + 1)) = behStep r (behAt r N (xs.take k)) o := by rw [take_snoc_g hok, behAt_snoc]
      unfold behStep at hstep
      rw [if_pos hlt2] at hstep
      have Hs := hid hstep
      clear hstep hcell hbo
      generalize behAt r N (xs.take k) = st at *
      obtain ⟨out, m⟩ := st
      dsimp only at *
      have HF := hid (fun W => fit_any o m r W (by omega))
      simp only [Opn.agg] at HF
      generalize fitOf o m r = fo at *
      obtain ⟨p, okk⟩ := fo
      dsimp only at HF Hs
      repeat' (first | (with_reducible refine stop_region 6 ?_) | (go_at_call 35; go_must ((with_reducible refine Calls.mono (HF.out _) ?_); rintro _ w1 ⟨rfl, hb1⟩; dsimp only)) | (with_reducible refine Keep.last ?_) | (with_reducible refine Keep.below (by assumption) ?_) | (with_reducible refine Keep.kept (by assumption) ?_) | (with_reducible refine Keep.alloc ?_) | (with_reducible refine Keep.same ?_) | ((with_reducible refine WpH.here ?_); first | (refine WpH.nil ?_; refine NoP.normal ?_) | (refine WpH.load (by rfl) (by rfl) (by go_simp; rfl) ?_; simp only [Act.put, List.setIfInBounds_toArray, List.set_cons_zero, List.set_cons_succ]) | (refine WpH.loadT (by rfl) (by rfl) (by go_simp; rfl) (by rintro _ _ ⟨⟩; exact ⟨_, _, _, _, _, _, by rfl, by assumption, by assumption⟩) ?_; simp only [Act.put, List.setIfInBounds_toArray, List.set_cons_zero, List.set_cons_succ]) | (refine WpH.pure (by rfl) (fun w_ => by go_simp; (try go_bits); rfl) ?_; simp only [Act.put, List.setIfInBounds_toArray, List.set_cons_zero, List.set_cons_succ]) | (refine WpH.wild1 (by rfl) (fun _ _ => ?_)) | (refine WpH.skip (by rfl) ?_; simp only [Act.put, List.setIfInBounds_toArray, List.set_cons_zero, List.set_cons_succ])) | go_values | go_skip | go_guarded | go_step | go_upon | go_back)
      refine Stop.go ?_
      have eX := balloc (o := .cells #[.int .i64 p.kind, .int .i64 p.at_, .int .i32 p.char, .int .i64 p.rep] 58) (Below.refl _ w1)
      have hX := Blk.new w1 58 #[.int .i64 p.kind, .int .i64 p.at_, .int .i32 p.char, .int .i64 p.rep]
      have gX := (gA.step hb1).step eX
      have hbX := bvia (bvia hbr hb1) eX
      clear c0 c1 c2 c3 gA hb1 eX HF
      generalize w1.alloc (.cells #[.int .i64 p.kind, .int .i64 p.at_, .int .i32 p.char, .int .i64 p.rep] 58) = X at *
      cases okk
      · have hs := Hs.out
        rw [if_neg (by simp)] at hs
        have Hs := hid hs
        clear hs
        repeat' (first | (with_reducible refine Keep.last ?_) | (with_reducible refine Keep.below (by assumption) ?_) | (with_reducible refine Keep.kept (by assumption) ?_) | (with_reducible refine Keep.alloc ?_) | (with_reducible refine Keep.same ?_) | ((with_reducible refine WpH.here ?_); first | (refine WpH.nil ?_; refine NoP.normal ?_) | (refine WpH.load (by rfl) (by rfl) (by go_simp; rfl) ?_; simp only [Act.put, List.setIfInBounds_toArray, List.set_cons_zero, List.set_cons_succ]) | (refine WpH.loadT (by rfl) (by rfl) (by go_simp; rfl) (by rintro _ _ ⟨⟩; exact ⟨_, _, _, _, _, _, by rfl, by assumption, by assumption⟩) ?_; simp only [Act.put, List.setIfInBounds_toArray, List.set_cons_zero, List.set_cons_succ]) | (refine WpH.pure (by rfl) (fun w_ => by go_simp; (try go_bits); rfl) ?_; simp only [Act.put, List.setIfInBounds_toArray, List.set_cons_zero, List.set_cons_succ]) | (refine WpH.wild1 (by rfl) (fun _ _ => ?_)) | (refine WpH.skip (by rfl) ?_; simp only [Act.put, List.setIfInBounds_toArray, List.set_cons_zero, List.set_cons_succ])) | go_values | go_skip | go_guarded | go_step | go_upon | go_back)
        go_roundw
        case rel => exact ⟨k + 1, A', c', by rw [Hs.out], by rw [Hs.out], by go_num, by omega, by rw [Hs.out]; exact gX, hbX⟩
        case measure => simp [intOf]; omega
      · have hs := Hs.out
        rw [if_pos rfl] at hs
        have Hs := hid hs
        clear hs
        obtain ⟨x0, x1, x2, x3, -, -, -, -, xl⟩ := hX.four
        have hlit := (GOwn.lit (t := 58) X #[.int .i64 p.kind, .int .i64 p.at_, .int .i32 p.char, .int .i64 p.rep] [p] 0 (Nat.zero_le _) (show 1 ≤ maxLen by decide) rfl).row (S := fun _ => True) fun _ _ _ => trivial
        have eZ := balloc (o := .cells #[.int .i64 p.kind, .int .i64 p.at_, .int .i32 p.char, .int .i64 p.rep] 58) (Below.refl _ X)
        have gZ := gX.step eZ
        have hbZ := bvia hbX eZ
        have hzZ := hbZ.size
        repeat' (first | ((with_reducible refine app_ops_here ?_); refine wp_append_ops w.heap.size A' _ out.length c' 1 1 out [p] (fun _ => True) (by rfl) (by rfl) gZ hlit hzZ (by omega) ?_; intro B' d2 w5 hB5 hb5 hsm5 hat5 hz5) | (with_reducible refine Keep.last ?_) | (with_reducible refine Keep.below (by assumption) ?_) | (with_reducible refine Keep.kept (by assumption) ?_) | (with_reducible refine Keep.alloc ?_) | (with_reducible refine Keep.same ?_) | ((with_reducible refine WpH.here ?_); first | (refine WpH.nil ?_; refine NoP.normal ?_) | (refine WpH.load (by rfl) (by rfl) (by go_simp; rfl) ?_; simp only [Act.put, List.setIfInBounds_toArray, List.set_cons_zero, List.set_cons_succ]) | (refine WpH.loadT (by rfl) (by rfl) (by go_simp; rfl) (by rintro _ _ ⟨⟩; exact ⟨_, _, _, _, _, _, by rfl, by assumption, by assumption⟩) ?_; simp only [Act.put, List.setIfInBounds_toArray, List.set_cons_zero, List.set_cons_succ]) | (refine WpH.pure (by rfl) (fun w_ => by go_simp; (try go_bits); rfl) ?_; simp only [Act.put, List.setIfInBounds_toArray, List.set_cons_zero, List.set_cons_succ]) | (refine WpH.wild1 (by rfl) (fun _ _ => ?_)) | (refine WpH.skip (by rfl) ?_; simp only [Act.put, List.setIfInBounds_toArray, List.set_cons_zero, List.set_cons_succ])) | go_values | go_skip | go_guarded | go_step | go_upon | go_back)
        · have hk1 : (p.kind == 1) = true := by assumption
          have hi1 : p.ins = 1 := by unfold Opn.ins; rw [if_pos (by simpa using hk1)]
          go_roundw
          case rel => exact ⟨k + 1, B', d2, by rw [Hs.out, hi1]; go_num, by rw [Hs.out, List.length_append]; rfl, by go_num, by omega, by rw [Hs.out, List.length_append]; exact hB5, hbZ.trans hb5⟩
          case measure => simp [intOf]; omega
        · have hk1 : (p.kind == 1) = false := by assumption
          have hi1 : p.ins = 0 := by unfold Opn.ins; rw [if_neg (by simpa using hk1)]
          go_roundw
          case rel => exact ⟨k + 1, B', d2, by rw [Hs.out, hi1]; rfl, by rw [Hs.out, List.length_append]; rfl, by go_num, by omega, by rw [Hs.out, List.length_append]; exact hB5, hbZ.trans hb5⟩
          case measure => simp [intOf]; omega
    · have he : behAt r N xs = behAt r N (xs.take k) := by
        by_cases h1 : k < n
        · exact behAt_full r N xs k fun h => hlt ⟨h1, h⟩
        · rw [List.take_of_length_le (by omega)]
      have He := hid he
      clear he hbo
      repeat' (first | (with_reducible refine Keep.last ?_) | (with_reducible refine Keep.below (by assumption) ?_) | (with_reducible refine Keep.kept (by assumption) ?_) | (with_reducible refine Keep.alloc ?_) | (with_reducible refine Keep.same ?_) | ((with_reducible refine WpH.here ?_); first | (refine WpH.nil ?_; refine NoP.normal ?_) | (refine WpH.load (by rfl) (by rfl) (by go_simp; rfl) ?_; simp only [Act.put, List.setIfInBounds_toArray, List.set_cons_zero, List.set_cons_succ]) | (refine WpH.loadT (by rfl) (by rfl) (by go_simp; rfl) (by rintro _ _ ⟨⟩; exact ⟨_, _, _, _, _, _, by rfl, by assumption, by assumption⟩) ?_; simp only [Act.put, List.setIfInBounds_toArray, List.set_cons_zero, List.set_cons_succ]) | (refine WpH.pure (by rfl) (fun w_ => by go_simp; (try go_bits); rfl) ?_; simp only [Act.put, List.setIfInBounds_toArray, List.set_cons_zero, List.set_cons_succ]) | (refine WpH.wild1 (by rfl) (fun _ _ => ?_)) | (refine WpH.skip (by rfl) ?_; simp only [Act.put, List.setIfInBounds_toArray, List.set_cons_zero, List.set_cons_succ])) | go_values | go_skip | go_guarded | go_step | go_upon | go_back)
      skip
      all_goals
        go_ret
        rw [He.out]
        exact ⟨A', c', rfl, gA, hbr⟩
theorem Out.of_same {S : Nat → Prop} {w w' : World} {base : Nat} (hb : Below base w w') (hz : w.heap.size ≤ w'.heap.size) (hs : ∀ b, b < w.heap.size → ¬ S b → w'.heap[b]? = w.heap[b]?) : Out S w w' := ⟨hb.os, hb.tape, hb.output, hz, hs⟩
set_option maxRecDepth 20000 in
set_option maxHeartbeats 1000000 in
theorem spoilOps_any (A : Option Addr) (n c base : Nat) (es : List Opn) (w : World) (ho : GOwn 58 w base A n c es) (hn : n ≤ 1000000) (hb : base ≤ w.heap.size) :
    Calls Tryd.prog 55 #[.slice A n c] w fun e w' => e = .returned (.tuple #[]) ∧ Out (fun b => ∃ a, A = some a ∧ a.block = b) w w' := by
  go_enter Tryd.func55, Tryd.ntmps55
  repeat' (first | (with_reducible refine Keep.last ?_) | (with_reducible refine Keep.below (by assumption) ?_) | (with_reducible refine Keep.kept (by assumption) ?_) | (with_reducible refine Keep.alloc ?_) | (with_reducible refine Keep.same ?_) | ((with_reducible refine WpH.here ?_); first | (refine WpH.nil ?_; refine NoP.normal ?_) | (refine WpH.load (by rfl) (by rfl) (by go_simp; rfl) ?_; simp only [Act.put, List.setIfInBounds_toArray, List.set_cons_zero, List.set_cons_succ]) | (refine WpH.loadT (by rfl) (by rfl) (by go_simp; rfl) (by rintro _ _ ⟨⟩; exact ⟨_, _, _, _, _, _, by rfl, by assumption, by assumption⟩) ?_; simp only [Act.put, List.setIfInBounds_toArray, List.set_cons_zero, List.set_cons_succ]) | (refine WpH.pure (by rfl) (fun w_ => by go_simp; (try go_bits); rfl) ?_; simp only [Act.put, List.setIfInBounds_toArray, List.set_cons_zero, List.set_cons_succ]) | (refine WpH.wild1 (by rfl) (fun _ _ => ?_)) | (refine WpH.skip (by rfl) ?_; simp only [Act.put, List.setIfInBounds_toArray, List.set_cons_zero, List.set_cons_succ])) | go_values | go_skip | go_guarded | go_step | go_upon | go_back)
  go_loopw [2] (fun i wr => ∃ (k : Nat) (es' : List Opn), i = .int .i64 k ∧ k ≤ n ∧ GOwn 58 wr base A n c es' ∧ Out (fun b => ∃ a, A = some a ∧ a.block = b) w wr) (fun i _ => n - (intOf i).toNat)
  case atStart => exact ⟨0, es, rfl, Nat.zero_le _, ho, Out.refl _ _⟩
  case round =>
    clear ho es
    obtain ⟨k, es', rfl, hk, ho, hbr⟩ := hrel
    by_cases hlt : k < n
    · obtain ⟨g, o, rfl, hok, hg, hgl, c0, c1, c2, c3, f0, f1, f2, f3⟩ := own_op ho hlt
      repeat' (first | (with_reducible refine Keep.last ?_) | (with_reducible refine Keep.below (by assumption) ?_) | (with_reducible refine Keep.kept (by assumption) ?_) | (with_reducible refine Keep.alloc ?_) | (with_reducible refine Keep.same ?_) | ((with_reducible refine WpH.here ?_); first | (refine WpH.nil ?_; refine NoP.normal ?_) | (refine WpH.load (by rfl) (by rfl) (by go_simp; rfl) ?_; simp only [Act.put, List.setIfInBounds_toArray, List.set_cons_zero, List.set_cons_succ]) | (refine WpH.loadT (by rfl) (by rfl) (by go_simp; rfl) (by rintro _ _ ⟨⟩; exact ⟨_, _, _, _, _, _, by rfl, by assumption, by assumption⟩) ?_; simp only [Act.put, List.setIfInBounds_toArray, List.set_cons_zero, List.set_cons_succ]) | (refine WpH.pure (by rfl) (fun w_ => by go_simp; (try go_bits); rfl) ?_; simp only [Act.put, List.setIfInBounds_toArray, List.set_cons_zero, List.set_cons_succ]) | (refine WpH.wild1 (by rfl) (fun _ _ => ?_)) | (refine WpH.skip (by rfl) ?_; simp only [Act.put, List.setIfInBounds_toArray, List.set_cons_zero, List.set_cons_succ])) | go_values | go_skip | go_guarded | go_step | go_upon | go_back)
      go_roundw
      case rel =>
        have hS : (fun b => ∃ a, (some (⟨g, 0, none⟩ : Addr)) = some a ∧ a.block = b) g := ⟨_, rfl, rfl⟩
        refine ⟨k + 1, _, by go_num, by omega, ho.set4 ⟨-5, 0, 0, 0⟩ hlt, ?_⟩
        exact (((hbr.trans (Out.setCell (p := ⟨g, _, none⟩) hS _) fun _ _ h => h).trans (Out.setCell (p := ⟨g, _, none⟩) hS _) fun _ _ h => h).trans (Out.setCell (p := ⟨g, _, none⟩) hS _) fun _ _ h => h).trans (Out.setCell (p := ⟨g, _, none⟩) hS _) fun _ _ h => h
      case measure => simp [intOf]; omega
    · obtain rfl : k = n := by omega
      repeat' (first | (with_reducible refine Keep.last ?_) | (with_reducible refine Keep.below (by assumption) ?_) | (with_reducible refine Keep.kept (by assumption) ?_) | (with_reducible refine Keep.alloc ?_) | (with_reducible refine Keep.same ?_) | ((with_reducible refine WpH.here ?_); first | (refine WpH.nil ?_; refine NoP.normal ?_) | (refine WpH.load (by rfl) (by rfl) (by go_simp; rfl) ?_; simp only [Act.put, List.setIfInBounds_toArray, List.set_cons_zero, List.set_cons_succ]) | (refine WpH.loadT (by rfl) (by rfl) (by go_simp; rfl) (by rintro _ _ ⟨⟩; exact ⟨_, _, _, _, _, _, by rfl, by assumption, by assumption⟩) ?_; simp only [Act.put, List.setIfInBounds_toArray, List.set_cons_zero, List.set_cons_succ]) | (refine WpH.pure (by rfl) (fun w_ => by go_simp; (try go_bits); rfl) ?_; simp only [Act.put, List.setIfInBounds_toArray, List.set_cons_zero, List.set_cons_succ]) | (refine WpH.wild1 (by rfl) (fun _ _ => ?_)) | (refine WpH.skip (by rfl) ?_; simp only [Act.put, List.setIfInBounds_toArray, List.set_cons_zero, List.set_cons_succ])) | go_values | go_skip | go_guarded | go_step | go_upon | go_back)
      go_loopw [0, 3] (fun l i wq => ∃ (j : Nat) (A' : Option Addr) (c' : Nat) (es'' : List Opn), l = .slice A' (k + j) c' ∧ i = .int .i64 j ∧ j ≤ 40 ∧ GOwn 58 wq base A' (k + j) c' es'' ∧ (A' = A ∨ ∃ g, A' = some ⟨g, 0, none⟩ ∧ w.heap.size ≤ g) ∧ Out (fun b => ∃ a, A = some a ∧ a.block = b) w wq) (fun _ i _ => 40 - (intOf i).toNat)
      case atStart => exact ⟨0, A, c, es', rfl, rfl, Nat.zero_le _, ho, .inl rfl, hbr⟩
      case round =>
        clear ho hbr
        obtain ⟨j, A', c', es'', rfl, rfl, hj, ho, hat, hbr⟩ := hrel
        by_cases hlt : j < 40
        · have hrow := (GOwn.lit (t := 58) wr #[.int .i64 (-6), .int .i64 0, .int .i32 0, .int .i64 0] [(⟨-6, 0, 0, 0⟩ : Opn)] 0 (Nat.zero_le _) (show 1 ≤ maxLen by decide) rfl).row (S := fun _ => True) fun _ _ _ => trivial
          have b1 : Below wr.heap.size wr (wr.alloc (.cells #[.int .i64 (-6), .int .i64 0, .int .i32 0, .int .i64 0] 58)) := balloc (Below.refl _ _)
          have hzr : base ≤ wr.heap.size := Nat.le_trans hb hbr.size
          have ho1 := ho.step b1
          have hz1 := Nat.le_trans hzr b1.size
          have hb1 : Out (fun b => ∃ a, A = some a ∧ a.block = b) w (wr.alloc (.cells #[.int .i64 (-6), .int .i64 0, .int .i32 0, .int .i64 0] 58)) := hbr.trans (Out.of_below (S := fun _ => False) b1) fun _ _ h => h.elim
          repeat' (first | ((with_reducible refine app_ops_here ?_); refine wp_append_ops base A' _ (k + j) c' 1 1 es'' [(⟨-6, 0, 0, 0⟩ : Opn)] (fun _ => True) (by rfl) (by rfl) ho1 hrow hz1 (by omega) ?_; intro A2 c2 w2 ho2 hb2 hsm2 hat2 hz2) | (with_reducible refine Keep.last ?_) | (with_reducible refine Keep.below (by assumption) ?_) | (with_reducible refine Keep.kept (by assumption) ?_) | (with_reducible refine Keep.alloc ?_) | (with_reducible refine Keep.same ?_) | ((with_reducible refine WpH.here ?_); first | (refine WpH.nil ?_; refine NoP.normal ?_) | (refine WpH.load (by rfl) (by rfl) (by go_simp; rfl) ?_; simp only [Act.put, List.setIfInBounds_toArray, List.set_cons_zero, List.set_cons_succ]) | (refine WpH.loadT (by rfl) (by rfl) (by go_simp; rfl) (by rintro _ _ ⟨⟩; exact ⟨_, _, _, _, _, _, by rfl, by assumption, by assumption⟩) ?_; simp only [Act.put, List.setIfInBounds_toArray, List.set_cons_zero, List.set_cons_succ]) | (refine WpH.pure (by rfl) (fun w_ => by go_simp; (try go_bits); rfl) ?_; simp only [Act.put, List.setIfInBounds_toArray, List.set_cons_zero, List.set_cons_succ]) | (refine WpH.wild1 (by rfl) (fun _ _ => ?_)) | (refine WpH.skip (by rfl) ?_; simp only [Act.put, List.setIfInBounds_toArray, List.set_cons_zero, List.set_cons_succ])) | go_values | go_skip | go_guarded | go_step | go_upon | go_back)
          go_roundw
          case rel =>
            refine ⟨j + 1, A2, c2, _, rfl, by go_num, by omega, ho2, ?_, ?_⟩
            · rcases hat2 with e | ⟨g, e, hg⟩
              · rw [e]; exact hat
              · exact .inr ⟨g, e, Nat.le_trans (Nat.le_trans hbr.size b1.size) hg⟩
            · refine hb1.trans (Out.of_same (S := fun b => ∃ a, A' = some a ∧ a.block = b) hb2 hz2 fun b hbl hn => hsm2 b (fun g hg e => hn ⟨g, hg, e⟩) hbl) fun b hbl ⟨a, ha, e⟩ => ?_
              rcases hat with h | ⟨g, h, hg⟩
              · exact ⟨a, by rw [← h]; exact ha, e⟩
              · rw [h] at ha
                injection ha with ha
                subst ha
                have e' : g = b := e
                omega
          case measure => simp [intOf]; omega
        · obtain rfl : j = 40 := by omega
          repeat' (first | (with_reducible refine Keep.last ?_) | (with_reducible refine Keep.below (by assumption) ?_) | (with_reducible refine Keep.kept (by assumption) ?_) | (with_reducible refine Keep.alloc ?_) | (with_reducible refine Keep.same ?_) | ((with_reducible refine WpH.here ?_); first | (refine WpH.nil ?_; refine NoP.normal ?_) | (refine WpH.load (by rfl) (by rfl) (by go_simp; rfl) ?_; simp only [Act.put, List.setIfInBounds_toArray, List.set_cons_zero, List.set_cons_succ]) | (refine WpH.loadT (by rfl) (by rfl) (by go_simp; rfl) (by rintro _ _ ⟨⟩; exact ⟨_, _, _, _, _, _, by rfl, by assumption, by assumption⟩) ?_; simp only [Act.put, List.setIfInBounds_toArray, List.set_cons_zero, List.set_cons_succ]) | (refine WpH.pure (by rfl) (fun w_ => by go_simp; (try go_bits); rfl) ?_; simp only [Act.put, List.setIfInBounds_toArray, List.set_cons_zero, List.set_cons_succ]) | (refine WpH.wild1 (by rfl) (fun _ _ => ?_)) | (refine WpH.skip (by rfl) ?_; simp only [Act.put, List.setIfInBounds_toArray, List.set_cons_zero, List.set_cons_succ])) | go_values | go_skip | go_guarded | go_step | go_upon | go_back)
          go_end0
          exact ⟨rfl, hbr⟩
def cntCells (l : List Opn) : List Value := (List.range 8).map fun (i : Nat) => .int .i64 (cntR l i)
theorem cntCells_get (l : List Opn) (i : Nat) (hi : i < 8) : (cntCells l)[i]? = some (.int .i64 (cntR l i)) := by
  unfold cntCells
  rw [List.getElem?_map, List.getElem?_range hi]
  rfl
theorem cntCells_set (l : List Opn) (o : Opn) (j : Nat) (hj : j < 8) (ho : o.rep = j) (hk : o.kind = 1) : cntCells (l ++ [o]) = (cntCells l).set j (.int .i64 (cntR l j + 1)) := by
  refine List.ext_getElem? fun i => ?_
  by_cases hi : i < 8
  · rw [cntCells_get _ i hi, List.getElem?_set, cntR_snoc, ho]
    by_cases e : j = i
    · subst e
      have hl8 : j < (cntCells l).length := by simp [cntCells]; omega
      simp [hk, hl8]
    · rw [if_neg e, if_neg (by omega), cntCells_get _ i hi]
      simp
  · rw [List.getElem?_eq_none (by simp [cntCells]; omega), List.getElem?_eq_none (by simp [cntCells]; omega)]
theorem cntCells_same (l : List Opn) (o : Opn) (hk : o.kind ≠ 1) : cntCells (l ++ [o]) = cntCells l := by
  unfold cntCells
  refine List.map_congr_left fun i _ => ?_
  rw [cntR_snoc, if_neg (fun h => hk h.1)]
  rfl
set_option maxRecDepth 50000 in
set_option maxHeartbeats 4000000 in
theorem play_any (w : World) (A B : Option Addr) (n c m d : Nat) (ls : List El) (ops : List Opn) (SB SC : Nat → Prop) (hr : Row w SB A n c ls) (ho : GRow w SC B m d ops) (hn : n ≤ 1000) (hm : m ≤ 1000) (hg : ∀ e ∈ ls, e.Good) (hd : (ls.map El.nm).Nodup) (hcalm : Calm 2 ls) (hf : FitAll ls.length ops) (hnew : ∀ r n, nm4 r n ∉ ls.map El.nm) :
    Calls Tryd.prog 52 #[.slice A n c, .slice B m d] w fun r w' => ∃ A' c', r = .returned (.tuple #[.slice A' (doneIds ls (withIds ops)).length c', .bool true]) ∧ Own w' w.heap.size A' (doneIds ls (withIds ops)).length c' (doneIds ls (withIds ops)) ∧ Below w.heap.size w w' := by
  have HO := hid (mof_ok w A n c ls SB hr (by omega) hg hd)
  have Ho := hid (ho.more (S' := fun b => b < w.heap.size) fun b h _ => h)
  have hmd := ho.2.1
  have hnl := hr.1
  have hml := ho.1
  have HP := hid (fun k (hk : k ≤ ops.length) => playOk (ls := ls) (ops := ops) hcalm k hk)
  have HC := hid (fun k o (h : ops[k]? = some o) => play_can hcalm hf hnew (by omega) h)
  have HF := hid hf
  clear hr ho hg hd hcalm hf hnew
  go_enter Tryd.func52, Tryd.ntmps52
  repeat' (first | (go_at_call 65; go_must ((with_reducible refine Calls.mono HO.out ?_); rintro _ w1 ⟨mb, rfl, hM, hb1⟩; dsimp only)) | (with_reducible refine Keep.last ?_) | (with_reducible refine Keep.below (by assumption) ?_) | (with_reducible refine Keep.kept (by assumption) ?_) | (with_reducible refine Keep.alloc ?_) | (with_reducible refine Keep.same ?_) | ((with_reducible refine WpH.here ?_); first | (refine WpH.nil ?_; refine NoP.normal ?_) | (refine WpH.load (by rfl) (by rfl) (by go_simp; rfl) ?_; simp only [Act.put, List.setIfInBounds_toArray, List.set_cons_zero, List.set_cons_succ]) | (refine WpH.loadT (by rfl) (by rfl) (by go_simp; rfl) (by rintro _ _ ⟨⟩; exact ⟨_, _, _, _, _, _, by rfl, by assumption, by assumption⟩) ?_; simp only [Act.put, List.setIfInBounds_toArray, List.set_cons_zero, List.set_cons_succ]) | (refine WpH.pure (by rfl) (fun w_ => by go_simp; (try go_bits); rfl) ?_; simp only [Act.put, List.setIfInBounds_toArray, List.set_cons_zero, List.set_cons_succ]) | (refine WpH.wild1 (by rfl) (fun _ _ => ?_)) | (refine WpH.skip (by rfl) ?_; simp only [Act.put, List.setIfInBounds_toArray, List.set_cons_zero, List.set_cons_succ])) | go_values | go_skip | go_guarded | go_step | go_upon | go_back)
  skip
  have e1 : Below w1.heap.size w1 (w1.alloc (.cells (cntCells []).toArray 139)) := balloc (Below.refl _ _)
  have hC := Blk.new w1 139 (cntCells []).toArray
  have hMx := (hM.more (S' := fun b => w.heap.size ≤ b ∧ b ≠ w1.heap.size) fun b hb h => ⟨h, by omega⟩).step e1
  have hb2 := bvia hb1 e1
  have hcl : w.heap.size ≤ w1.heap.size := hb1.size
  have hcb : w1.heap.size < (w1.alloc (.cells (cntCells []).toArray 139)).heap.size := hC.lt
  show Code.wp _ _ _ _ (w1.alloc (.cells (cntCells []).toArray 139))
  clear hM e1 hb1
  generalize w1.alloc (.cells (cntCells []).toArray 139) = W2 at *
  generalize w1.heap.size = cb at *
  go_loopw [9] (fun i wr => ∃ k : Nat, i = .int .i64 k ∧ k ≤ m ∧ Mdl wr (fun b => w.heap.size ≤ b ∧ b ≠ cb) mb (playOf ls ops k) (n + k) ∧ Blk wr cb 139 (cntCells (ops.take k)).toArray ∧ Below w.heap.size w wr) (fun i _ => m - (intOf i).toNat)
  case atStart => exact ⟨0, rfl, Nat.zero_le _, by simpa [playOf, doneIds] using hMx, hC, hb2⟩
  case round =>
    clear hMx hC hb2
    obtain ⟨k, rfl, hk, hMr, hC, hbr⟩ := hrel
    have hcb : cb < wr.heap.size := hC.lt
    by_cases hlt : k < m
    · obtain ⟨b, off, o, rfl, hSb, hbl, hok, hcell⟩ := (Ho.out.step hbr).at_ hlt
      have hcan := HC.out k o hok
      have hstep := playOf_succ (ls := ls) hok
      have hrep := rightOp_rep (HF.out.get hok).right
      obtain ⟨j, hj⟩ : ∃ j : Nat, o.rep = j := ⟨o.rep.toNat, by omega⟩
      have hj8 : j < 8 := by omega
      have hj8' : (j : Int) < 8 := by omega
      have hj0 : ¬ ((j : Int) < 0) := by omega
      have hsn : ops.take (k + 1) = ops.take k ++ [o] := take_snoc_g hok
      have c0 : wr.cell? ⟨b, off + k * 4, none⟩ = some (.int .i64 o.kind) := hcell 0 _ rfl
      have c1 : wr.cell? ⟨b, off + k * 4 + 1, none⟩ = some (.int .i64 o.at_) := hcell 1 _ rfl
      have c2 : wr.cell? ⟨b, off + k * 4 + 2, none⟩ = some (.int .i32 o.char) := hcell 2 _ rfl
      have c3 : wr.cell? ⟨b, off + k * 4 + 3, none⟩ = some (.int .i64 o.rep) := hcell 3 _ rfl
      rw [hj] at c3
      obtain ⟨v, hv⟩ : ∃ v, v = cntR (ops.take k) j := ⟨_, rfl⟩
      have hcj : wr.cell? ⟨cb, j, none⟩ = some (.int .i64 v) := by
        rw [hC.cell, hv]
        simpa using cntCells_get (ops.take k) j hj8
      have hfj := hC.frozen j
      have hvl : v ≤ 1000 := by
        rw [hv]
        exact Nat.le_trans (cntR_le _ _) (Nat.le_trans (List.length_take_le _ _) (by omega))
      have hpl := (HP.out k (by omega)).len
      have hil := insOf_le (ops.take k)
      have htl : (ops.take k).length ≤ k := List.length_take_le _ _
      have hpl2 : (playOf ls ops k).length ≤ 5000 := by omega
      have Hs := hid (And.intro hok (And.intro hcan (And.intro hstep (And.intro hj (And.intro hsn (And.intro hv (And.intro hMr hC)))))))
      clear hcan hstep hcell hMr hok hj hsn hv hpl hil htl hrep hC
      repeat' (first | (with_reducible refine stop_region 13 ?_) | (with_reducible refine Keep.last ?_) | (with_reducible refine Keep.below (by assumption) ?_) | (with_reducible refine Keep.kept (by assumption) ?_) | (with_reducible refine Keep.alloc ?_) | (with_reducible refine Keep.same ?_) | ((with_reducible refine WpH.here ?_); first | (refine WpH.nil ?_; refine NoP.normal ?_) | (refine WpH.load (by rfl) (by rfl) (by go_simp; rfl) ?_; simp only [Act.put, List.setIfInBounds_toArray, List.set_cons_zero, List.set_cons_succ]) | (refine WpH.loadT (by rfl) (by rfl) (by go_simp; rfl) (by rintro _ _ ⟨⟩; exact ⟨_, _, _, _, _, _, by rfl, by assumption, by assumption⟩) ?_; simp only [Act.put, List.setIfInBounds_toArray, List.set_cons_zero, List.set_cons_succ]) | (refine WpH.pure (by rfl) (fun w_ => by go_simp; (try go_bits); rfl) ?_; simp only [Act.put, List.setIfInBounds_toArray, List.set_cons_zero, List.set_cons_succ]) | (refine WpH.wild1 (by rfl) (fun _ _ => ?_)) | (refine WpH.skip (by rfl) ?_; simp only [Act.put, List.setIfInBounds_toArray, List.set_cons_zero, List.set_cons_succ])) | go_values | go_skip | go_guarded | go_step | go_upon | go_back)
      · refine Stop.go ?_
        have hk1 : (o.kind == 1) = true := by assumption
        have hk1' : o.kind = 1 := by simpa using hk1
        obtain ⟨u, hu, huv⟩ : ∃ u : Nat, u = cntR (ops.take (k + 1)) j ∧ (v : Int) + 1 = u := ⟨_, rfl, by rw [Hs.out.2.2.2.2.1, cntR_snoc, if_pos ⟨hk1', Hs.out.2.2.2.1⟩, ← Hs.out.2.2.2.2.2.1]; omega⟩
        have hCV : Blk (wr.setCell ⟨cb, j, none⟩ (.int .i64 ((v : Int) + 1))) cb 139 (cntCells (ops.take (k + 1))).toArray := by
          have h := Hs.out.2.2.2.2.2.2.2.set_ j (.int .i64 ((v : Int) + 1))
          rw [Hs.out.2.2.2.2.1, cntCells_set _ o j hj8 Hs.out.2.2.2.1 hk1', ← Hs.out.2.2.2.2.2.1]
          simpa using h
        have hMV : Mdl (wr.setCell ⟨cb, j, none⟩ (.int .i64 ((v : Int) + 1))) (fun b => w.heap.size ≤ b ∧ b ≠ cb) mb (playOf ls ops k) (n + k) := Hs.out.2.2.2.2.2.2.1.keep fun b' hl hs => Below.heap_setCell _ _ _ _ hs.2
        have hbV : Below w.heap.size w (wr.setCell ⟨cb, j, none⟩ (.int .i64 ((v : Int) + 1))) := bset hbr hcl
        have sm : Same (fun b => b < w.heap.size) wr (wr.setCell ⟨cb, j, none⟩ (.int .i64 ((v : Int) + 1))) := Same.setCell _ (fun h => by have h' : cb < w.heap.size := h; omega) _
        have c0 := sm.cell (a := ⟨b, _, none⟩) hSb c0
        have c1 := sm.cell (a := ⟨b, _, none⟩) hSb c1
        have c2 := sm.cell (a := ⟨b, _, none⟩) hSb c2
        have c3 := sm.cell (a := ⟨b, _, none⟩) hSb c3
        clear hcj hfj sm
        rw [huv] at hCV hMV hbV c0 c1 c2 c3
        try rw [huv]
        generalize wr.setCell ⟨cb, j, none⟩ (.int .i64 (u : Int)) = V at *
        clear hk1 hk1' huv
        have hcu : V.drew.cell? ⟨cb, j, none⟩ = some (.int .i64 u) := by
          rw [hCV.drew.cell, hu]
          simpa using cntCells_get (ops.take (k + 1)) j hj8
        have c0 : V.drew.cell? ⟨b, off + k * 4, none⟩ = some (.int .i64 o.kind) := c0
        have c1 : V.drew.cell? ⟨b, off + k * 4 + 1, none⟩ = some (.int .i64 o.at_) := c1
        have c2 : V.drew.cell? ⟨b, off + k * 4 + 2, none⟩ = some (.int .i32 o.char) := c2
        have c3 : V.drew.cell? ⟨b, off + k * 4 + 3, none⟩ = some (.int .i64 j) := c3
        obtain ⟨cs, z1, z2, hH⟩ := cell_obj c0
        have hHc : V.drew.heap[cb]? = some (.cells (cntCells (ops.take (k + 1))).toArray 139 (0, 0)) := hCV
        have hTb : b < w.heap.size ∨ b = cb := .inl hSb
        have hTc : cb < w.heap.size ∨ cb = cb := .inr rfl
        have HA := hid (apply_ok V.drew (fun b => w.heap.size ≤ b ∧ b ≠ cb) mb (playOf ls ops k) (n + k) o (idK ops k o) (hMV.keep (w' := V.drew) (fun _ _ _ => rfl)) (by omega) (by omega) Hs.out.2.1)
        simp only [Opn.agg, idK, nm4, Nm.val] at HA
        rw [Hs.out.2.2.2.1, ← hu] at HA
        have Hv := hid (And.intro hCV hMV)
        have Hid := hid (show idK ops k o = ⟨4, (j : Int), (u : Int)⟩ by simp only [idK, nm4]; rw [Hs.out.2.2.2.1, ← hu])
        clear hCV hMV hu
        repeat' (first | ((with_reducible refine region_at 13 ?_); refine wp_region_orderT (fun b => b < w.heap.size ∨ b = cb) [(0, true, false), (1, true, false), (2, true, false), (3, true, false), (4, true, false), (5, true, false), (6, true, false), (7, true, false), (8, true, false), (9, true, false), (10, false, false), (11, true, false)] (by kernel_rfl) (by kernel_rfl) (by kernel_rfl) rfl rfl ?_) | (go_at_call 67; go_must ((with_reducible refine Calls.mono HA.out ?_); rintro _ w3 ⟨rfl, hM3, hO3⟩; have hk3 := hO3.keepT (fun b => b < w.heap.size ∨ b = cb) (fun b h1 h2 => by rcases h1 with h1 | h1; exact absurd h2.1 (by omega); exact h2.2 h1); dsimp only)) | (with_reducible refine Keep.last ?_) | (with_reducible refine Keep.below (by assumption) ?_) | (with_reducible refine Keep.kept (by assumption) ?_) | (with_reducible refine Keep.alloc ?_) | (with_reducible refine Keep.same ?_) | ((with_reducible refine WpH.here ?_); first | (refine WpH.nil ?_; refine NoP.normal ?_) | (refine WpH.load (by rfl) (by rfl) (by go_simp; rfl) ?_; simp only [Act.put, List.setIfInBounds_toArray, List.set_cons_zero, List.set_cons_succ]) | (refine WpH.loadT (by rfl) (by rfl) (by go_simp; rfl) (by rintro _ _ ⟨⟩; exact ⟨_, _, _, _, _, _, by rfl, by assumption, by assumption⟩) ?_; simp only [Act.put, List.setIfInBounds_toArray, List.set_cons_zero, List.set_cons_succ]) | (refine WpH.pure (by rfl) (fun w_ => by go_simp; (try go_bits); rfl) ?_; simp only [Act.put, List.setIfInBounds_toArray, List.set_cons_zero, List.set_cons_succ]) | (refine WpH.wild1 (by rfl) (fun _ _ => ?_)) | (refine WpH.skip (by rfl) ?_; simp only [Act.put, List.setIfInBounds_toArray, List.set_cons_zero, List.set_cons_succ])) | go_values | go_skip | go_guarded | go_step | go_upon | go_back)
        skip
        go_roundw
        case rel =>
          refine ⟨k + 1, by go_num, by omega, ?_, hO3.blk Hv.out.1.drew (fun h => h.2 rfl), hO3.below hbV.drew (Nat.le_refl _) (fun b h => h.1)⟩
          rw [Hs.out.2.2.1, Hid.out]
          exact hM3.more fun b _ h => by
            rcases h with h | h
            · exact h
            · have h1 : V.heap.size ≤ b := h
              have h2 := Hv.out.1.lt
              have h3 := hbV.size
              exact ⟨by omega, by omega⟩
        case measure => simp [intOf]; omega
      · refine Stop.go ?_
        have hk1 : (o.kind == 1) = false := by assumption
        have hk1' : o.kind ≠ 1 := by simpa using hk1
        obtain ⟨u, hu⟩ : ∃ u : Nat, u = cntR (ops.take (k + 1)) j := ⟨_, rfl⟩
        have hCV : Blk wr cb 139 (cntCells (ops.take (k + 1))).toArray := by
          rw [Hs.out.2.2.2.2.1, cntCells_same _ o hk1']
          exact Hs.out.2.2.2.2.2.2.2
        have hMV := Hs.out.2.2.2.2.2.2.1
        have hbV := hbr
        clear hcj hfj hk1 hk1'
        generalize wr = V at *
        have hcu : V.drew.cell? ⟨cb, j, none⟩ = some (.int .i64 u) := by
          rw [hCV.drew.cell, hu]
          simpa using cntCells_get (ops.take (k + 1)) j hj8
        have c0 : V.drew.cell? ⟨b, off + k * 4, none⟩ = some (.int .i64 o.kind) := c0
        have c1 : V.drew.cell? ⟨b, off + k * 4 + 1, none⟩ = some (.int .i64 o.at_) := c1
        have c2 : V.drew.cell? ⟨b, off + k * 4 + 2, none⟩ = some (.int .i32 o.char) := c2
        have c3 : V.drew.cell? ⟨b, off + k * 4 + 3, none⟩ = some (.int .i64 j) := c3
        obtain ⟨cs, z1, z2, hH⟩ := cell_obj c0
        have hHc : V.drew.heap[cb]? = some (.cells (cntCells (ops.take (k + 1))).toArray 139 (0, 0)) := hCV
        have hTb : b < w.heap.size ∨ b = cb := .inl hSb
        have hTc : cb < w.heap.size ∨ cb = cb := .inr rfl
        have HA := hid (apply_ok V.drew (fun b => w.heap.size ≤ b ∧ b ≠ cb) mb (playOf ls ops k) (n + k) o (idK ops k o) (hMV.keep (w' := V.drew) (fun _ _ _ => rfl)) (by omega) (by omega) Hs.out.2.1)
        simp only [Opn.agg, idK, nm4, Nm.val] at HA
        rw [Hs.out.2.2.2.1, ← hu] at HA
        have Hv := hid (And.intro hCV hMV)
        have Hid := hid (show idK ops k o = ⟨4, (j : Int), (u : Int)⟩ by simp only [idK, nm4]; rw [Hs.out.2.2.2.1, ← hu])
        clear hCV hMV hu
        repeat' (first | ((with_reducible refine region_at 13 ?_); refine wp_region_orderT (fun b => b < w.heap.size ∨ b = cb) [(0, true, false), (1, true, false), (2, true, false), (3, true, false), (4, true, false), (5, true, false), (6, true, false), (7, true, false), (8, true, false), (9, true, false), (10, false, false), (11, true, false)] (by kernel_rfl) (by kernel_rfl) (by kernel_rfl) rfl rfl ?_) | (go_at_call 67; go_must ((with_reducible refine Calls.mono HA.out ?_); rintro _ w3 ⟨rfl, hM3, hO3⟩; have hk3 := hO3.keepT (fun b => b < w.heap.size ∨ b = cb) (fun b h1 h2 => by rcases h1 with h1 | h1; exact absurd h2.1 (by omega); exact h2.2 h1); dsimp only)) | (with_reducible refine Keep.last ?_) | (with_reducible refine Keep.below (by assumption) ?_) | (with_reducible refine Keep.kept (by assumption) ?_) | (with_reducible refine Keep.alloc ?_) | (with_reducible refine Keep.same ?_) | ((with_reducible refine WpH.here ?_); first | (refine WpH.nil ?_; refine NoP.normal ?_) | (refine WpH.load (by rfl) (by rfl) (by go_simp; rfl) ?_; simp only [Act.put, List.setIfInBounds_toArray, List.set_cons_zero, List.set_cons_succ]) | (refine WpH.loadT (by rfl) (by rfl) (by go_simp; rfl) (by rintro _ _ ⟨⟩; exact ⟨_, _, _, _, _, _, by rfl, by assumption, by assumption⟩) ?_; simp only [Act.put, List.setIfInBounds_toArray, List.set_cons_zero, List.set_cons_succ]) | (refine WpH.pure (by rfl) (fun w_ => by go_simp; (try go_bits); rfl) ?_; simp only [Act.put, List.setIfInBounds_toArray, List.set_cons_zero, List.set_cons_succ]) | (refine WpH.wild1 (by rfl) (fun _ _ => ?_)) | (refine WpH.skip (by rfl) ?_; simp only [Act.put, List.setIfInBounds_toArray, List.set_cons_zero, List.set_cons_succ])) | go_values | go_skip | go_guarded | go_step | go_upon | go_back)
        skip
        go_roundw
        case rel =>
          refine ⟨k + 1, by go_num, by omega, ?_, hO3.blk Hv.out.1.drew (fun h => h.2 rfl), hO3.below hbV.drew (Nat.le_refl _) (fun b h => h.1)⟩
          rw [Hs.out.2.2.1, Hid.out]
          exact hM3.more fun b _ h => by
            rcases h with h | h
            · exact h
            · have h1 : V.heap.size ≤ b := h
              have h2 := Hv.out.1.lt
              have h3 := hbV.size
              exact ⟨by omega, by omega⟩
        case measure => simp [intOf]; omega
    · obtain rfl : k = m := by omega
      have hall := playOf_all ls ops
      rw [hml] at hall
      rw [hall] at hMr
      have hlen : (doneIds ls (withIds ops)).length ≤ 5000 := by
        have h1 := (HP.out k (by omega)).len
        have h2 := insOf_le (ops.take k)
        have h3 : (ops.take k).length ≤ k := List.length_take_le _ _
        rw [hall] at h1
        omega
      have HE := hid (melements_any wr _ mb (doneIds ls (withIds ops)) (n + k) hMr (by omega))
      clear hMr hall
      repeat' (first | (go_at_call 69; go_must ((with_reducible refine Calls.mono HE.out ?_); rintro _ w3 ⟨A3, c3, rfl, ho3, hb3⟩; dsimp only)) | (with_reducible refine Keep.last ?_) | (with_reducible refine Keep.below (by assumption) ?_) | (with_reducible refine Keep.kept (by assumption) ?_) | (with_reducible refine Keep.alloc ?_) | (with_reducible refine Keep.same ?_) | ((with_reducible refine WpH.here ?_); first | (refine WpH.nil ?_; refine NoP.normal ?_) | (refine WpH.load (by rfl) (by rfl) (by go_simp; rfl) ?_; simp only [Act.put, List.setIfInBounds_toArray, List.set_cons_zero, List.set_cons_succ]) | (refine WpH.loadT (by rfl) (by rfl) (by go_simp; rfl) (by rintro _ _ ⟨⟩; exact ⟨_, _, _, _, _, _, by rfl, by assumption, by assumption⟩) ?_; simp only [Act.put, List.setIfInBounds_toArray, List.set_cons_zero, List.set_cons_succ]) | (refine WpH.pure (by rfl) (fun w_ => by go_simp; (try go_bits); rfl) ?_; simp only [Act.put, List.setIfInBounds_toArray, List.set_cons_zero, List.set_cons_succ]) | (refine WpH.wild1 (by rfl) (fun _ _ => ?_)) | (refine WpH.skip (by rfl) ?_; simp only [Act.put, List.setIfInBounds_toArray, List.set_cons_zero, List.set_cons_succ])) | go_values | go_skip | go_guarded | go_step | go_upon | go_back)
      go_ret2
      exact ⟨A3, c3, rfl, ho3.mono hbr.size, hbr.trans (hb3.mono hbr.size)⟩
end Go.Proofs.YtogkbddniacgiaaDoor
