/- Part of a proof: what functions of the program compute. Conditions: as each theorem says. -/
import Derived.Below
import Derived.Carry
import Derived.ChangeKeysEq
import Derived.Deep.DeepCutAuto
import Derived.Deep.DeepHandedRow
import Derived.Deep.Slices
import Derived.Deep.Strs
import Derived.DeepKeys4
import Derived.LaidEql
import Derived.LaidSub
import Derived.Laws.OwnMore
import Derived.Laws.StructEq
import Derived.MakeChecks
import Derived.Maps.AppendAt
import Derived.Maps.OwnSet
import Derived.OpenShut
import Derived.OrdersHeld
import Derived.OrdersIn
import Derived.ProofKit
import Derived.RangeFuncBound
import Derived.RangeFuncCalls
import Derived.RangeFuncLeaves
import Derived.RangeFuncNested
import Derived.Shelf.Abstract
import Derived.Stop.LaidTwo
import Derived.Tactics
import Derived.TacticsIn
import Derived.Test.YteggpddlkkjmjaaGreatDoorCards
import Derived.Test.YteggpddlkkjmjaaGreatDoorProg
import Derived.Test.YteggpddlkkjmjaaGreatDoorTie
import Derived.WalkKit
import Derived.WalkLawsBesides
import Derived.WalkSpells
set_option linter.unusedSimpArgs false
set_option linter.unusedVariables false
namespace Go.Proofs.YteggpddlkkjmjaaGreatDoor
open Go Go.RowKit Go.ChangeShapes Go.WideShapes Go.ChangeAt
theorem trodAll_stays {H : Type} {enc : TypeId × Value → H} {P : Program} (hl : laidOutB P = true) {W W' : World} (hb : Below W.heap.size W W') : ∀ {ts : List TypeId} {vs : List Value} {ds : List (DataW H)} {ps : List MemPlace},
 (∀ t ∈ ts, P.readableRec t = true ∧ t < P.types.size) → DataW.TrodAll enc P W 0 (fun _ => true) true ts vs ds ps → (∀ x ∈ ps, x.block < W.heap.size) → DataW.TrodAll enc P W' 0 (fun b => decide (b < W.heap.size)) true ts vs ds ps
 | [], vs, ds, ps, _, h, _ => by
  obtain ⟨rfl, rfl, rfl⟩ := trodAll_nil h
  exact trodAll_mk0
 | t :: ts, vs, ds, ps, ht, h, hlt => by
  obtain ⟨v, vs', d, ds', p, q, rfl, rfl, rfl, h1, h2⟩ := trodAll_cons h
  have htt := ht t (List.mem_cons_self ..)
  exact trodAll_cons_mk (Below.trod hl htt.1 htt.2 h1 hb fun x hx => hlt x (List.mem_append_left _ hx)) (trodAll_stays hl hb (fun t h => ht t (List.mem_cons_of_mem _ h)) h2 fun x hx => hlt x (List.mem_append_right _ hx))
theorem laidOut : laidOutB Tryz.prog = true := by kernel_rfl
theorem own : ownKnob Tryz.prog.godebug = none := by kernel_rfl
theorem law_post {H : Type} {enc : TypeId × Value → H} {s : ChangeSpec} {f : Func} {W W' : World} {args : Array Value} {ds gs : List (DataW H)} {before : List MemPlace} (hvars : s.vars = []) (hres : f.resultTypes = #[4])
 (hts : ∀ t ∈ f.params.toList, Tryz.prog.readableRec t = true ∧ t < Tryz.prog.types.size) (hW : DataW.Whole enc Tryz.prog f.params.toList s.vars false W args.toList ds gs before)
 (hr : (s.fn H (ds ++ gs)).results = [.lit (.bool true)]) (ha : (s.fn H (ds ++ gs)).args = ds) (hv : (s.fn H (ds ++ gs)).vars = []) (hb : Below W.heap.size W W') :
 s.post enc Tryz.prog f false true false false W args (.bool true) W' := by
 have hlt := fun p hp => hW.lt p hp
 have hW' := hW
 obtain ⟨p, q, hA, hV, rfl, hfz, hnd⟩ := hW
 rw [hvars] at hV
 obtain ⟨rfl, rfl⟩ := trodVars_none hV
 rw [List.append_nil] at hW' hlt
 refine ⟨ds, [], p, [], p, [], hW', ?_, ?_, ?_, hb.frame _, fun h => by cases h⟩
 · rw [hr, hres]
   exact trodAll_cons_mk (shut_bool Tryz.underlying4 _) trodAll_mk0
 · rw [ha]
   exact trodAll_stays laidOut hb hts hA hlt
 · rw [hv, hvars]
   exact rfl
end Go.Proofs.YteggpddlkkjmjaaGreatDoor
namespace Go.Proofs.YteggpddlkkjmjaaGreatDoor
open Go Go.RowKit
theorem part_int8 (cs : Array Value) (k : Nat) (v : Value) (w : World) (h : cs[k]? = some v) : (part 3 cs k).run Tryz.prog w = .ok v w :=
 run_part_plain (P := Tryz.prog) w (by kernel_rfl) h
theorem eqItem_self {d k : Nat} {is : List Nat} {cs : Array Value} {a : Int} (w : World) (h : cs[k]? = some (.int .i64 a)) : (Op.eqItems (d + 1) 3 1 cs cs (k :: is)).run Tryz.prog w = (Op.eqItems (d + 1) 3 1 cs cs is).run Tryz.prog w := by
 have hu : Tryz.prog.underlying 3 = some (.int .i64) := by kernel_rfl
 simp only [Op.eqItems, Sem.run_bind, Nat.mul_one]
 rw [part_int8 cs k _ w h, Result.andThen_ok, part_int8 cs k _ w h, Result.andThen_ok, run_equalIn_int w d _ .i64 .i64 a a hu]
 simp
@[go_sem] theorem eqIn_clk (d : Nat) (a0 a1 a2 a3 a4 a5 a6 a7 : Int) (w : World) : (Op.equalIn (d + 1 + 1) 44 (.agg #[.int .i64 a0, .int .i64 a1, .int .i64 a2, .int .i64 a3, .int .i64 a4, .int .i64 a5, .int .i64 a6, .int .i64 a7]) (.agg #[.int .i64 a0, .int .i64 a1, .int .i64 a2, .int .i64 a3, .int .i64 a4, .int .i64 a5, .int .i64 a6, .int .i64 a7])).run Tryz.prog w = .ok true w := by
 have hi : (Tryz.prog.info? 3).isSome = true := by kernel_rfl
 obtain ⟨i, hi⟩ := Option.isSome_iff_exists.1 hi
 have hu : Tryz.prog.underlying 44 = some (.array 8 3) := by kernel_rfl
 have hc : Tryz.prog.cellsOf 3 = 1 := by kernel_rfl
 rw [run_equalIn_array w (d + 1) _ _ hu hi, hc]
 have hr : List.range 8 = [0, 1, 2, 3, 4, 5, 6, 7] := by decide
 rw [hr, eqItem_self (a := a0) w rfl, eqItem_self (a := a1) w rfl, eqItem_self (a := a2) w rfl, eqItem_self (a := a3) w rfl, eqItem_self (a := a4) w rfl, eqItem_self (a := a5) w rfl, eqItem_self (a := a6) w rfl, eqItem_self (a := a7) w rfl]
 simp [Op.eqItems]
end Go.Proofs.YteggpddlkkjmjaaGreatDoor
