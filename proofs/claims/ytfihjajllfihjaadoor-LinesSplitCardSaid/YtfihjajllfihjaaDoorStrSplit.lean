/- strings.Split at the byte 10: how the library's bodies lie in this program; its contract. Condition: fewer than 2^32 - 15 bytes. -/
import Derived.Shelf.Strings.Split
import Derived.Test.YtfihjajllfihjaaDoorBel
namespace Go.Proofs.YtfihjajllfihjaaDoor
set_option linter.unusedSimpArgs false
set_option linter.unusedVariables false
open Go Go.RowKit Go.Shelf Go.Lib
def renS : Ren := ⟨fun | 138 => 165 | 143 => 166 | 146 => 119 | 195 => 170 | 197 => 171 | 217 => 177 | 218 => 172 | 219 => 173 | 221 => 147 | 224 => 179 | 225 => 178 | 260 => 176 | 266 => 181 | 267 => 180 | 268 => 164 | 314 => 182 | _ => 0, fun | 0 => 0 | 3 => 3 | 4 => 4 | 5 => 5 | 9 => 9 | 21 => 21 | 31 => 121 | 46 => 203 | 51 => 210 | 105 => 231 | 119 => 235 | 138 => 237 | 139 => 238 | 146 => 239 | _ => 0, fun | 1 => 14 | 3 => 15 | 4 => 16 | _ => 0⟩
theorem laysS146 : Lays.n146 Tryd.prog renS where
  mixed := by kernel_rfl
  f138 := Tryd.func165.trans (congrArg some (by kernel_rfl))
  f143 := Tryd.func166.trans (congrArg some (by kernel_rfl))
  f146 := Tryd.func119.trans (congrArg some (by kernel_rfl))
  f195 := Tryd.func170.trans (congrArg some (by kernel_rfl))
  f197 := Tryd.func171.trans (congrArg some (by kernel_rfl))
  f217 := Tryd.func177.trans (congrArg some (by kernel_rfl))
  f218 := Tryd.func172.trans (congrArg some (by kernel_rfl))
  f219 := Tryd.func173.trans (congrArg some (by kernel_rfl))
  f221 := Tryd.func147.trans (congrArg some (by kernel_rfl))
  f224 := Tryd.func179.trans (congrArg some (by kernel_rfl))
  f225 := Tryd.func178.trans (congrArg some (by kernel_rfl))
  f260 := Tryd.func176.trans (congrArg some (by kernel_rfl))
  f266 := Tryd.func181.trans (congrArg some (by kernel_rfl))
  f267 := Tryd.func180.trans (congrArg some (by kernel_rfl))
  f268 := Tryd.func164.trans (congrArg some (by kernel_rfl))
  f314 := Tryd.func182.trans (congrArg some (by kernel_rfl))
  t0 := Tryd.underlying0
  a0 := Tryd.isAgg0
  z0 := Tryd.sizeOf0
  v0 := Tryd.zeroValue0
  t3 := Tryd.underlying3
  a3 := Tryd.isAgg3
  z3 := Tryd.sizeOf3
  v3 := Tryd.zeroValue3
  t4 := Tryd.underlying4
  a4 := Tryd.isAgg4
  z4 := Tryd.sizeOf4
  v4 := Tryd.zeroValue4
  t5 := Tryd.underlying5
  a5 := Tryd.isAgg5
  z5 := Tryd.sizeOf5
  v5 := Tryd.zeroValue5
  t9 := Tryd.underlying9
  a9 := Tryd.isAgg9
  z9 := Tryd.sizeOf9
  v9 := Tryd.zeroValue9
  t21 := Tryd.underlying21
  a21 := Tryd.isAgg21
  z21 := Tryd.sizeOf21
  v21 := Tryd.zeroValue21
  t31 := Tryd.underlying121
  a31 := Tryd.isAgg121
  z31 := Tryd.sizeOf121
  v31 := Tryd.zeroValue121
  t46 := Tryd.underlying203
  a46 := Tryd.isAgg203
  z46 := Tryd.sizeOf203
  v46 := Tryd.zeroValue203
  t51 := Tryd.underlying210
  a51 := Tryd.isAgg210
  z51 := Tryd.sizeOf210
  v51 := Tryd.zeroValue210
  t105 := Tryd.underlying231
  a105 := Tryd.isAgg231
  z105 := Tryd.sizeOf231
  v105 := Tryd.zeroValue231
  t119 := Tryd.underlying235
  a119 := Tryd.isAgg235
  z119 := Tryd.sizeOf235
  t138 := Tryd.underlying237
  a138 := Tryd.isAgg237
  z138 := Tryd.sizeOf237
  v138 := Tryd.zeroValue237
  t139 := Tryd.underlying238
  a139 := Tryd.isAgg238
  z139 := Tryd.sizeOf238
  v139 := Tryd.zeroValue238
  t146 := Tryd.underlying239
  a146 := Tryd.isAgg239
  z146 := Tryd.sizeOf239
  v146 := Tryd.zeroValue239
  g1 := by kernel_rfl
  g3 := by kernel_rfl
  g4 := by kernel_rfl
theorem infoS : (Tryd.prog.info? 9).map (fun i => (i.zero, i.size, i.bytes)) = some (some (.string ByteArray.empty), 1, 16) := by kernel_rfl
def sep10 : ByteArray := ⟨#[10]⟩
set_option maxHeartbeats 1000000 in
theorem strSplit_any (s : ByteArray) (w : World) (hs : s.size < 4294967281) :
    Calls Tryd.prog 119 #[.string s, .string ⟨#[10]⟩] w fun e w' =>
      e = .returned (.slice (some ⟨w.heap.size, 0, none⟩) (Lib.countB s sep10 + 1) (Lib.countB s sep10 + 1)) ∧ w' = w.alloc (.cells ((Lib.splitB sep10 0 (Lib.countB s sep10) s).map Value.string).toArray 9) := by
  have h1 : 1 ≤ sep10.size := by decide
  have hle := Lib.countB_le sep10 h1 s.size s (Nat.le_refl _)
  have hlen := Lib.splitB_all sep10 h1 0 _ s rfl
  have hI : ∀ (x : ByteArray) (c : Array Value), x.size ≤ s.size → Calls Tryd.prog 166 #[.string x, .string sep10] (w.alloc (.cells c 9)) fun e w' => e = .returned (.int .i64 (Lib.indexB x sep10)) ∧ w' = w.alloc (.cells c 9) := by
    intro x c _
    refine (Any.strings_Index_one (ρ := renS) { laysS146 with } x 10 _).mono fun e w' ⟨he, hw⟩ => ⟨?_, hw⟩
    rw [he]
    show _ = Ending.returned (Value.int .i64 (Lib.index x.data.toList [10]))
    rw [Lib.index_one]
  have hC : Calls Tryd.prog 165 #[.string s, .string sep10] w fun e w' => e = .returned (.int .i64 (Lib.countB s sep10)) ∧ w' = w := by
    refine (Any.strings_Count_one (ρ := renS) { laysS146 with } s 10 w).mono fun e w' ⟨he, hw⟩ => ⟨?_, hw⟩
    rw [he]
    show _ = Ending.returned (Value.int .i64 ((Lib.count s.data.toList [10] : Nat) : Int))
    rw [Lib.count_one]
    rfl
  have c := Any.strings_genSplit_core (ρ := renS) { laysS146 with } infoS s sep10 0 (-1) (Lib.countB s sep10 + 1) w hs h1 (Nat.zero_le _) hI hC (by decide) (by decide) (by rw [if_pos (by decide)]; omega)
  rw [Nat.add_sub_cancel, hlen] at c
  have e2 : Lib.cellsOf (Lib.splitB sep10 0 (Lib.countB s sep10) s) (Lib.countB s sep10 + 1) = ((Lib.splitB sep10 0 (Lib.countB s sep10) s).map Value.string).toArray := by rw [← hlen]; exact Lib.cellsOf_full _
  rw [e2] at c
  have HC : Calls Tryd.prog 147 #[.string s, .string ⟨#[10]⟩, .int .i64 0, .int .i64 (-1)] w _ := c
  have HCC := hid HC
  clear hI hC c HC e2 hlen hle h1
  go_enter Tryd.func119, Tryd.ntmps119
  repeat' (first | (go_at_call 147; go_must ((with_reducible refine Calls.mono HCC.out ?_); rintro e w' ⟨rfl, rfl⟩; dsimp only)) | (with_reducible refine Keep.last ?_) | (with_reducible refine Keep.below (by assumption) ?_) | (with_reducible refine Keep.kept (by assumption) ?_) | (with_reducible refine Keep.alloc ?_) | (with_reducible refine Keep.same ?_) | ((with_reducible refine WpH.here ?_); first | (refine WpH.nil ?_; refine NoP.normal ?_) | (refine WpH.load (by rfl) (by rfl) (by go_simp; rfl) ?_; simp only [Act.put, List.setIfInBounds_toArray, List.set_cons_zero, List.set_cons_succ]) | (refine WpH.loadT (by rfl) (by rfl) (by go_simp; rfl) (by rintro _ _ ⟨⟩; exact ⟨_, _, _, _, _, _, by rfl, by assumption, by assumption⟩) ?_; simp only [Act.put, List.setIfInBounds_toArray, List.set_cons_zero, List.set_cons_succ]) | (refine WpH.pure (by rfl) (fun w_ => by go_simp; (try go_bits); rfl) ?_; simp only [Act.put, List.setIfInBounds_toArray, List.set_cons_zero, List.set_cons_succ]) | (refine WpH.wild1 (by rfl) (fun _ _ => ?_)) | (refine WpH.skip (by rfl) ?_; simp only [Act.put, List.setIfInBounds_toArray, List.set_cons_zero, List.set_cons_succ])) | go_values | go_skip | go_guarded | go_step | go_upon | go_back)
  skip
  go_ret
  exact ⟨rfl, rfl⟩
end Go.Proofs.YtfihjajllfihjaaDoor
