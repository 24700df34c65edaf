/- Part of a proof: what functions of the program compute. Conditions: as each theorem says. -/
import Derived.Test.YteggpddlkkjmjaaGreatDoorQ19
import Derived.Test.YteggpddlkkjmjaaGreatDoorQ23
set_option linter.unusedSimpArgs false
set_option linter.unusedVariables false
set_option maxHeartbeats 4000000
set_option maxRecDepth 50000
namespace Go.Proofs.YteggpddlkkjmjaaGreatDoor
open Go Go.RowKit
def InOrd (l m : List El) : Prop := ∀ (i j : Nat) (x y : El), i < j → l[i]? = some x → l[j]? = some y → ∀ p q, ixOf m x.nm = some p → ixOf m y.nm = some q → p < q
theorem places_true (w : World) (A B : Option Addr) (n c m d : Nat) (ls ms : List El) (S S' : Nat → Prop) (h1 : Row w S A n c ls) (h2 : Row w S' B m d ms) (hn : n ≤ 1048576) (hm : m ≤ 1048576) (ho : InOrd ls ms) :
 Calls Tryz.prog 22 #[.slice A n c, .slice B m d] w fun e w' => e = .returned (.bool true) ∧ Below w.heap.size w w' := by
 have H1 := hid h1
 have H2 := hid h2
 have Ho := hid ho
 have hln : ls.length = n := h1.1
 clear h1 h2 ho
 go_enter Tryz.func22, Tryz.ntmps22
 repeat' (first | go_step)
 go_loopw [5, 6] (fun o i wr => ∃ (k : Nat) (r : Int), i = .int .i64 k ∧ o = .int .i64 r ∧ k ≤ n ∧ -1 ≤ r ∧ r ≤ 1048576 ∧ (∀ (j : Nat) (y : El) (q : Nat), k ≤ j → ls[j]? = some y → ixOf ms y.nm = some q → r < (q : Int)) ∧ Below w.heap.size w wr) (fun _ i _ => n - (intOf i).toNat)
 case atStart => exact ⟨0, -1, rfl, rfl, Nat.zero_le _, by omega, by omega, fun j y q _ _ _ => by omega, Below.refl _ _⟩
 case round =>
  obtain ⟨k, r, rfl, rfl, hk, hr1, hr2, hall, hbr⟩ := hrel
  have Hall := hid hall
  clear hall
  by_cases hlt : k < n
  · have hkn : (k : Int) < (n : Int) := by omega
    obtain ⟨b, off, e, rfl, -, he, c0, c1, c2, -⟩ := (H1.out.step hbr).at_ hlt
    have hbl := lt_of_cell' c0
    dsimp only at hbl
    have He := hid he
    have HI := hid (ref5Index_at B m d ms S' e.nm wr (H2.out.step hbr) (by omega))
    unfold El.nm at HI
    dsimp only at HI
    clear he
    rcases hx : ixOf ms e.nm with _ | p
    · have HI2 : Hid (Calls Tryz.prog 29 #[.slice B m d, .agg #[.int .i64 e.epoch, .int .i64 e.rep, .int .i64 e.num]] wr fun e w' => e = .returned (.int .i64 (-1)) ∧ Below wr.heap.size wr w') := hid (HI.out.mono (by
       rintro _ w' ⟨⟨k', y, rfl, hy, hyn, -⟩ | ⟨rfl, -⟩, hb⟩
       · obtain ⟨q, hq⟩ := ixOf_mem (l := ms) (id := e.nm) (List.mem_map.2 ⟨y, List.mem_of_getElem? hy, hyn⟩)
         rw [hx] at hq
         cases hq
       · exact ⟨rfl, hb⟩))
      have Hx := hid hx
      clear hx HI
      repeat' (first | (go_at_call 29; go_must ((with_reducible refine Calls.mono HI2.out ?_); rintro _ w2 ⟨rfl, hb2⟩; dsimp only)) | go_step)
      go_roundw
      case rel => exact ⟨k + 1, r, by go_num, rfl, by omega, hr1, hr2, fun j y q hj hy hq => Hall.out j y q (by omega) hy hq, bvia hbr hb2⟩
      case measure => simp [intOf]; omega
    · have hpl : p < ms.length := by
       obtain ⟨x, hx', -⟩ := ixOf_get hx
       exact (List.getElem?_eq_some_iff.1 hx').1
      have hml : ms.length = m := H2.out.1
      have HI2 := hid (ref5Index_own B m d ms S' e.nm wr p (H2.out.step hbr) (by omega) hx)
      unfold El.nm at HI2
      dsimp only at HI2
      have hrp : r < (p : Int) := Hall.out k e p (Nat.le_refl _) He.out hx
      have hp0 : ¬ (p : Int) < 0 := by omega
      have hple : ¬ (p : Int) ≤ r := by omega
      have Hx := hid hx
      clear hx HI
      repeat' (first | (go_at_call 29; go_must ((with_reducible refine Calls.mono HI2.out ?_); rintro _ w2 ⟨rfl, hb2⟩; dsimp only)) | go_step)
      go_roundw
      case rel =>
       refine ⟨k + 1, p, by go_num, rfl, by omega, by omega, by omega, fun j y q hj hy hq => ?_, bvia hbr hb2⟩
       have := Ho.out k j e y (by omega) He.out hy p q Hx.out hq
       omega
      case measure => simp [intOf]; omega
  · obtain rfl : k = n := by omega
    have hkn : ¬ (k : Int) < (k : Int) := by omega
    repeat' (first | go_step)
    go_ret
    exact ⟨rfl, hbr⟩
theorem InOrd.of_sub {l m : List El} (hnd : (m.map El.nm).Nodup) (h : (l.map El.nm).Sublist (m.map El.nm)) : InOrd l m := by
 intro i j x y hij hx hy p q hp hq
 have hs : ((l.map El.nm).take j ++ (l.map El.nm).drop j).Sublist (m.map El.nm) := by rw [List.take_append_drop]; exact h
 obtain ⟨r1, r2, hr, h1, h2⟩ := List.append_sublist_iff.1 hs
 have hx1 : x.nm ∈ r1 := h1.subset (List.mem_of_getElem? (i := i) (by rw [List.getElem?_take, if_pos hij, List.getElem?_map, hx]; rfl))
 have hy2 : y.nm ∈ r2 := h2.subset (List.mem_of_getElem? (i := 0) (by rw [List.getElem?_drop, Nat.add_zero, List.getElem?_map, hy]; rfl))
 rw [hr, List.nodup_append] at hnd
 have at_ : ∀ {e : El} {k : Nat}, ixOf m e.nm = some k → (r1 ++ r2)[k]? = some e.nm := fun {e k} hk => by
  obtain ⟨z, hz, hzn, -⟩ := ixOf_get hk
  rw [← hr, List.getElem?_map, hz, Option.map_some, hzn]
 have kp : p < r1.length := by
  refine Nat.lt_of_not_le fun hle => ?_
  have := at_ hp
  rw [List.getElem?_append_right hle] at this
  exact hnd.2.2 _ hx1 _ (List.mem_of_getElem? this) rfl
 have kq : r1.length ≤ q := by
  refine Nat.le_of_not_lt fun hlt => ?_
  have := at_ hq
  rw [List.getElem?_append_left hlt] at this
  exact hnd.2.2 _ (List.mem_of_getElem? this) _ hy2 rfl
 omega
end Go.Proofs.YteggpddlkkjmjaaGreatDoor
