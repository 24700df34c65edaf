/- Part of a proof: what functions of the program compute. Conditions: as each theorem says. -/
import Derived.Test.YteggpddlkkjmjaaGreatDoorQ11
import Derived.Test.YteggpddlkkjmjaaGreatDoorQ57
set_option linter.unusedSimpArgs false
set_option linter.unusedVariables false
set_option maxHeartbeats 4000000
set_option maxRecDepth 50000
namespace Go.Proofs.YteggpddlkkjmjaaGreatDoor
open Go Go.RowKit
theorem SitesAt.step {w w' : World} {base K : Nat} {R : Nat → Prop} {sbs : List Nat} {ss : List Lg} (h : SitesAt w base R sbs ss K) (hb : Below w.heap.size w w') : SitesAt w' base R sbs ss K :=
 h.keep hb.size (fun b hl _ => hb.block b hl) fun b hr => by obtain ⟨_, _, _, hc, _⟩ := h; exact ⟨.inl hr, Nat.lt_of_lt_of_le (hc b hr).2 hb.size⟩
variable {a : Nat → Addr}
structure Rn8 where
 c : Int
instance : Enc Rn8 where
 k := 1
 cells r := [.int .i32 r.c]
 len _ := rfl
 one := by
  intro a u hu
  have : u = .int .i32 a.c := by simpa using hu
  subst this
  rfl
theorem base8_any (w : World) (A : Option Addr) (n c : Nat) (l : List Int) (S : Nat → Prop) (h : GRow w S A n c (l.map Rn8.mk)) (hin : ∀ e ∈ l, I32 e) :
 Calls Tryz.prog 35 #[.slice A n c] w fun e w' => ∃ A' c', e = .returned (.slice A' (base8 l (min n 20)).length c') ∧ Own w' w.heap.size A' (base8 l (min n 20)).length c' (base8 l (min n 20)) ∧ Below w.heap.size w w' := by
 have Hr := hid h
 have hnl : l.length = n := by have := h.1; rwa [List.length_map] at this
 have hnm := h.len_le
 unfold maxLen at hnm
 have Hin := hid hin
 clear h hin
 go_enter Tryz.func35, Tryz.ntmps35
 repeat' (first | go_step)
 go_loopw [3, 4] (fun o i wr => ∃ (k : Nat) (A1 : Option Addr) (c1 : Nat) (X : List El), X = base8 l k ∧ i = .int .i64 k ∧ o = .slice A1 X.length c1 ∧ k ≤ n ∧ k ≤ 20 ∧ X.length ≤ k ∧ Own wr w.heap.size A1 X.length c1 X ∧ Below w.heap.size w wr) (fun _ i _ => n - (intOf i).toNat)
 case atStart => exact ⟨0, none, 0, [], rfl, rfl, rfl, Nat.zero_le _, Nat.zero_le _, Nat.le_refl _, Own.nil _ _, Below.refl _ _⟩
 case round =>
  obtain ⟨k, A1, c1, X, hXe, rfl, rfl, hk, hk5, hXl, hown, hbr⟩ := hrel
  have HXe := hid hXe
  clear hXe
  by_cases hlt : k < n ∧ k < 20
  · obtain ⟨hlt1, hlt2⟩ := hlt
    have hkn : (k : Int) < n := by omega
    have hk20 : (k : Int) < 20 := by omega
    obtain ⟨b, off, e, rfl, hS, hbl, he, hcell⟩ := (Hr.out.step hbr).at_ hlt1
    obtain ⟨ch, hch, rfl⟩ : ∃ ch, l[k]? = some ch ∧ Rn8.mk ch = e := by simpa using he
    have c0 : wr.cell? ⟨b, off + k * 1, none⟩ = some (.int .i32 ch) := hcell 0 _ rfl
    rw [Nat.mul_one] at c0
    have hci := Hin.out ch (List.mem_of_getElem? hch)
    unfold I32 at hci
    have HR := hid (fun W => ref5Right_any ch W)
    have Hch := hid hch
    have Hown := hid hown
    clear hcell he hch hown
    cases hrc : rightC ch
    · rw [hrc] at HR
      have Hrc := hid hrc
      clear hrc
      repeat' (first | (go_at_call 74; go_must ((with_reducible refine Calls.mono (HR.out _) ?_); rintro _ _ ⟨rfl, rfl⟩; dsimp only)) | go_guarded | go_step)
      go_roundw
      case rel => exact ⟨k + 1, A1, c1, X, by rw [HXe.out, base8_snoc Hch.out, if_neg (by simp [Hrc.out]), List.append_nil], by go_num, rfl, by omega, by omega, by omega, Hown.out, hbr⟩
      case measure => simp [intOf]; omega
    · rw [hrc] at HR
      have Hrc := hid hrc
      clear hrc
      have hz0 := hbr.size
      have eX := balloc (o := .cells #[.int .i64 4, .int .i64 7, .int .i64 ((k : Int) + 1), .int .i32 ch, .int .i64 0] 113) (Below.refl wr.heap.size wr)
      have hown3 := Hown.out.step eX
      have hrow := Row.one wr (⟨4, 7, (k : Int) + 1, ch, 0⟩ : El)
      have hz3 := eX.size
      repeat' (first | (go_at_call 74; go_must ((with_reducible refine Calls.mono (HR.out _) ?_); rintro _ _ ⟨rfl, rfl⟩; dsimp only)) | ((with_reducible refine append_here ?_); go_must (refine wp_append_el w.heap.size _ _ _ _ 1 1 X [(⟨4, 7, (k : Int) + 1, ch, 0⟩ : El)] (fun _ => True) (by rfl) (by rfl) hown3 hrow (by omega) (by omega) ?_; intro A2 c2 w4 hown4 hb4 hsm4 hat4 hz4; try dsimp only)) | go_guarded | go_step)
      go_roundw
      case rel => exact ⟨k + 1, A2, c2, X ++ [(⟨4, 7, (k : Int) + 1, ch, 0⟩ : El)], by rw [HXe.out, base8_snoc Hch.out, if_pos Hrc.out], by go_num, by simp, by omega, by omega, by simp; omega, by simpa using hown4, (bvia hbr eX).trans hb4⟩
      case measure => simp [intOf]; omega
  · have hkk : base8 l (min n 20) = X := by rw [HXe.out]; congr 1; omega
    have Hkk := hid hkk
    have Hown := hid hown
    clear hkk hown
    by_cases h1 : k < n
    · have hkn : (k : Int) < n := by omega
      have hk20 : ¬ (k : Int) < 20 := by omega
      clear hlt
      repeat' (first | go_guarded | go_step)
      go_ret
      exact ⟨A1, c1, by rw [Hkk.out]; rfl, by rw [Hkk.out]; exact Hown.out, hbr⟩
    · have hkn : ¬ (k : Int) < n := by omega
      clear hlt
      repeat' (first | go_guarded | go_step)
      go_ret
      exact ⟨A1, c1, by rw [Hkk.out]; rfl, by rw [Hkk.out]; exact Hown.out, hbr⟩
end Go.Proofs.YteggpddlkkjmjaaGreatDoor
namespace Go.Proofs.YteggpddlkkjmjaaGreatDoor
open Go Go.RowKit
variable {a : Nat → Addr}
theorem base8_wrong (l : List Int) (k : Nat) : AllRight (base8 l k) := fun i e he => by
 have hm := List.mem_of_getElem? he
 obtain ⟨j, -, -, -, -, h1, h2⟩ := base8_mem hm
 unfold wrongS
 rw [if_neg (by rw [h1]; simp), if_neg (by rw [h2]; decide), if_neg]
 intro hin
 have hnd := base8_nodup l k
 have hs : (base8 l k).take i ++ e :: (base8 l k).drop (i + 1) = base8 l k := by
  have hi := (List.getElem?_eq_some_iff.1 he).1
  have h2 := (List.getElem?_eq_some_iff.1 he).2
  rw [← h2, ← List.drop_eq_getElem_cons hi, List.take_append_drop]
 rw [← hs, List.map_append, List.nodup_append] at hnd
 exact hnd.2.2 _ hin _ (List.mem_cons_self ..) rfl
theorem base8_allGood (l : List Int) (k : Nat) (hk : k ≤ 1000) : ∀ e ∈ base8 l k, e.Good := fun e he => by
 obtain ⟨j, hj, h1, h2, h3, h4, h5⟩ := base8_mem he
 refine ⟨h4, by rw [h5]; decide, ?_⟩
 unfold El.nm
 rw [h1, h2, h3]
 have k4 : I64 4 := ⟨by decide, by decide⟩
 have k7 : I64 7 := ⟨by decide, by decide⟩
 have kj : I64 ((j : Int) + 1) := ⟨by omega, by omega⟩
 exact ⟨k4, k7, kj⟩
end Go.Proofs.YteggpddlkkjmjaaGreatDoor
namespace Go.Proofs.YteggpddlkkjmjaaGreatDoor
open Go Go.RowKit Go.ChangeShapes Go.WideShapes Go.ChangeAt Go.Deep
theorem grow_of_cells {α : Type} [Enc α] [Inhabited α] {H : Type} {enc : TypeId × Value → H} {W : World} {t u : TypeId} {v : Value} {fuel : Nat} {y : DataW H × List MemPlace} (hu : Tryz.prog.underlying u = some (.slice t)) (hk : Tryz.prog.cellsOf t = Enc.k α) (hk0 : 0 < Enc.k α) (Pr : α → Prop)
 (hel : ∀ fuel cs x, cs.length = Enc.k α → DataW.trod enc Tryz.prog W 0 (fun _ => true) true fuel t cs = some x → ∃ e : α, cs = Enc.cells e ∧ Pr e)
 (h : DataW.trod enc Tryz.prog W 0 (fun _ => true) true fuel u [v] = some y) :
 ∃ A n c, ∃ es : List α, v = .slice A n c ∧ GRow W (fun b => b < W.heap.size) A n c es ∧ ∀ e ∈ es, Pr e := by
 rcases open_slice (cs := [v]) hu h with ⟨h0, _⟩ | ⟨a, len, cap, m, n, D, Pl, h0, _, hlc, hcm, hm, _, hx⟩
 · injection h0 with h0 _
   exact ⟨none, 0, 0, [], h0, GRow.nil _ _ _ _ (Nat.zero_le _), fun e he => by cases he⟩
 · injection h0 with h0 _
   have hm' : len ≤ m := by rw [hm]; simpa using hlc
   have each : ∀ i, i < m → ∃ e : α, (∀ j u, (Enc.cells e)[j]? = some u → W.cell? (a.add (i * Enc.k α + j)) = some u) ∧ Pr e := by
    intro i hi
    obtain ⟨cs', h1, h2⟩ := hx i hi
    rw [hk] at h1
    obtain ⟨_, hlen, hcell⟩ := World.cells?_some h1
    obtain ⟨e, he, hin⟩ := hel _ _ _ hlen h2
    refine ⟨e, fun j u hu => ?_, hin⟩
    have hj : j < Enc.k α := by
     have := (List.getElem?_eq_some_iff.1 hu).1
     rw [Enc.len] at this
     exact this
    have := hcell j hj
    rw [he, hu] at this
    rw [add_add] at this
    exact this
   obtain ⟨E, hE⟩ := choose_lt each
   refine ⟨some a, len, cap, (List.range len).map E, h0, ⟨by simp, hlc, hcm, fun hn => ?_⟩, ?_⟩
   · obtain ⟨b, o, s⟩ := a
     have hl0 : 0 < (Enc.cells (E 0)).length := by rw [Enc.len]; exact hk0
     have h00 := (hE 0 (by omega)).1 0 _ (List.getElem?_eq_getElem hl0)
     have hs : s = none := by simpa [Addr.add] using World.cell?_spot h00
     subst hs
     rw [Nat.zero_mul] at h00
     have hlt : b < W.heap.size := by simpa [Addr.add] using lt_of_cell' h00
     refine ⟨b, o, rfl, hlt, hlt, fun j u hu => ?_⟩
     have hjl := (List.getElem?_eq_some_iff.1 hu).1
     rw [gcells_length] at hjl
     simp only [List.length_map, List.length_range] at hjl
     have hi : j / Enc.k α < len := Nat.div_lt_of_lt_mul (by rw [Nat.mul_comm]; exact hjl)
     have hq : ((List.range len).map E)[j / Enc.k α]? = some (E (j / Enc.k α)) := by simp [hi]
     have hc := gcells_at hq (j := j % Enc.k α) (Nat.mod_lt _ hk0)
     rw [Nat.div_add_mod', hu] at hc
     have := (hE (j / Enc.k α) (by omega)).1 (j % Enc.k α) u hc.symm
     rw [Nat.div_add_mod'] at this
     rw [show (⟨b, o, none⟩ : Addr).add j = ⟨b, o + j, none⟩ from by unfold Addr.add; split <;> simp_all] at this
     exact this
   · intro e he
     obtain ⟨i, hi, rfl⟩ := List.mem_map.1 he
     exact (hE i (by have := List.mem_range.1 hi; omega)).2
instance : Inhabited Rn8 := ⟨⟨0⟩⟩
section
variable {H : Type} {enc : TypeId × Value → H} {W : World} {fuel : Nat}
theorem runes8_of_cells {v : Value} {y : DataW H × List MemPlace} (h : DataW.trod enc Tryz.prog W 0 (fun _ => true) true fuel 22 [v] = some y) :
 ∃ A n c, ∃ es : List Int, v = .slice A n c ∧ GRow W (fun b => b < W.heap.size) A n c (es.map Rn8.mk) ∧ ∀ e ∈ es, I32 e := by
 obtain ⟨A, n, c, es, h1, h2, h3⟩ := grow_of_cells (α := Rn8) (t := 21) Tryz.underlying22 (by kernel_rfl) (by decide) (fun e => I32 e.c) (fun fuel cs x hl h => by
  match cs, hl with
  | [u], _ =>
   obtain ⟨n, e, q⟩ := one_of_trod Tryz.underlying21 h rfl
   exact ⟨⟨n⟩, e, wf_i32 q⟩) h
 have hm : es.map (Rn8.mk ∘ Rn8.c) = es := by
  conv => rhs; rw [← List.map_id es]
  rfl
 exact ⟨A, n, c, es.map Rn8.c, h1, by rw [List.map_map, hm]; exact h2, fun e he => by
  obtain ⟨x, hx, rfl⟩ := List.mem_map.1 he
  exact h3 x hx⟩
end
end Go.Proofs.YteggpddlkkjmjaaGreatDoor
