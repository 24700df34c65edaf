/- Part of a proof: what functions of the program compute. Conditions: as each theorem says. -/
import Derived.Maps.RangeWalk
import Derived.Test.YteggpddlkkjmjaaGreatDoorQ3
import Derived.Test.YteggpddlkkjmjaaGreatDoorQ9
set_option linter.unusedSimpArgs false
set_option linter.unusedVariables false
set_option maxHeartbeats 4000000
set_option maxRecDepth 100000
namespace Go.Proofs.YteggpddlkkjmjaaGreatDoor
open Go Go.RowKit
variable {S : Nat → Prop} {a : Nat → Addr}
theorem new_err (l c : ByteArray) (n : Int) (ch : List Lk) (code : Nat) (e : Value) (w : World) (h : IsErr w S a ch code e) :
 Calls Tryz.prog 51 #[.string l, .string c, .int .i64 n, e] w fun r w' => ∃ v, r = .returned v ∧ IsErr w' (Fr w S) a (⟨l, c, atOf n⟩ :: ch) code v ∧ Below w.heap.size w w' := by
 obtain ⟨t, x, rfl⟩ := h.notNil
 refine (new_any l c n t (some x) w).mono ?_
 rintro _ w' ⟨g, rfl, hg, hb, hbb⟩
 rw [atOf_new] at hb
 exact ⟨_, rfl, ⟨g, _, rfl, .inr hg, hb, (h.step hbb).more fun _ _ h => .inl h⟩, hbb⟩
theorem refused_err (c : ByteArray) (n : Int) (ch : List Lk) (code : Nat) (e : Value) (w : World) (h : IsErr w S a ch code e) :
 Calls Tryz.prog 151 #[.string c, .int .i64 n, e] w fun r w' => ∃ v, r = .returned v ∧ IsErr w' (Fr w S) a (⟨({ data := #[109, 111, 100, 101, 108] } : ByteArray), c, atOf n⟩ :: ch) code v ∧ Below w.heap.size w w' := by
 have HN := hid (new_err ({ data := #[109, 111, 100, 101, 108] } : ByteArray) c n ch code e w h)
 go_enter Tryz.func151, Tryz.ntmps151
 repeat' (first | (go_at_call 51; go_must ((with_reducible refine Calls.mono HN.out ?_); rintro _ w1 ⟨v, rfl, hv, hb⟩; dsimp only)) | go_step)
 go_ret
 exact ⟨v, rfl, hv, hb⟩
theorem takes_twice (e : El) (w : World) (mb gt gm : Nat) (s : List Nm) (K : Nat) (h1 : Blk w mb 110 #[.pointer (some ⟨gt, 0, none⟩), .map (some gm)]) (h5 : IsIds w gm K s) (hg : e.Good) (hn : e.nm ∈ s) (hs : Sents w S a) :
 Calls Tryz.prog 93 #[.pointer (some ⟨mb, 0, none⟩), .agg #[.int .i64 e.epoch, .int .i64 e.rep, .int .i64 e.num, .int .i32 e.char, .int .i64 e.hides]] w fun r w' => r = .returned (reason (a 9)) ∧ Below w.heap.size w w' := by
 have m1 := h1.cell 1
 simp at m1
 have hml := h1.lt
 have b1 : Below w.heap.size w (w.alloc (.cells #[.int .i64 e.epoch, .int .i64 e.rep, .int .i64 e.num, .int .i32 e.char, .int .i64 e.hides] 113)) := (Below.refl _ _).alloc (Nat.le_refl _) _
 have hI1 := h5.heap (w' := w.alloc (.cells #[.int .i64 e.epoch, .int .i64 e.rep, .int .i64 e.num, .int .i32 e.char, .int .i64 e.hides] 113)) (b1.block _ h5.lt)
 have q1 := hI1.drew.ask e.nm hg.nm
 have q2 := (hI1.heap (w' := ((w.alloc (.cells #[.int .i64 e.epoch, .int .i64 e.rep, .int .i64 e.num, .int .i32 e.char, .int .i64 e.hides] 113)).alloc (.cells #[] 161)).drew) (Below.heap_alloc _ _ _ hI1.lt)).ask e.nm hg.nm
 rw [decide_eq_true hn] at q1 q2
 simp only [Nm.val, El.nm] at q1 q2
 have HR := hid (fun W => right_any e.char W)
 have HH := hid (fun W => hideable_any e.hides W)
 rw [hg.char] at HR
 rw [hg.hides] at HH
 have s9 := hs.cell 9 (by omega) (by omega)
 simp only [gOf, reason] at s9
 have sl := lt_of_cell' s9
 dsimp only at sl
 clear h5 hI1 hn
 go_enter Tryz.func93, Tryz.ntmps93
 repeat' (first | (go_at_call 125; go_must ((with_reducible refine Calls.mono (HR.out _) ?_); rintro _ _ ⟨rfl, rfl⟩; dsimp only)) | (go_at_call 126; go_must ((with_reducible refine Calls.mono (HH.out _) ?_); rintro _ _ ⟨rfl, rfl⟩; dsimp only)) | (with_reducible refine Keep.allocD ?_) | ((with_reducible refine region_at 5 ?_); refine wp_region_ordT (fun _ => True) (rgo [0,4,8,12,16,20,24] (.two 7 11 (rgo [32,36,40,45,51,52] .nil) (rgo [29,32,36,40,51,52] .nil))) (by kernel_rfl) (by kernel_rfl) (by kernel_rfl) rfl rfl ?_) | (with_reducible first | refine Keep.last ?_ | refine Keep.same ?_) | ((with_reducible refine WpO.here ?_); first | (refine WpO.done ?_; refine NoP.normal ?_) | ((first | refine WpO.load (by rfl) (by rfl) (by go_simp; rfl) ?_ | refine WpO.pure (by rfl) (fun w_ => by go_simp; (try go_bits); rfl) ?_); go_frame) | refine WpO.wild ?_ | refine WpO.two ?_ ?_) | ((with_reducible refine wildO.here ?_); (refine wildO.go (by rfl) (fun _ _ => ?_))) | go_step)
 all_goals
  go_ret
  exact ⟨rfl, (b1.alloc b1.size _).drew⟩
end Go.Proofs.YteggpddlkkjmjaaGreatDoor
namespace Go.Proofs.YteggpddlkkjmjaaGreatDoor
open Go Go.RowKit
variable {S' : Nat → Prop} {a : Nat → Addr}
theorem IsErr.cut {w W w' : World} {ch : List Lk} {code : Nat} {v : Value} (hb : w.heap.size ≤ W.heap.size) (h : IsErr w' (Fr W S') a ch code v) : IsErr w' (Fr w S') a ch code v := h.more fun b _ h => by
 rcases h with h | h
 · exact .inl h
 · exact .inr (Nat.le_trans hb h)
theorem minsert_twice (w : World) (S : Nat → Prop) (mb : Nat) (l : List El) (K i : Nat) (e : El) (h : Mdl w S mb l K) (hl : l.length ≤ 536870912) (hi : i ≤ l.length) (hg : e.Good) (hn : e.nm ∈ l.map El.nm) (hs : Sents w S' a) :
 Calls Tryz.prog 134 #[.pointer (some ⟨mb, 0, none⟩), .int .i64 i, .agg #[.int .i64 e.epoch, .int .i64 e.rep, .int .i64 e.num, .int .i32 e.char, .int .i64 e.hides]] w fun r w' => ∃ v, r = .returned v ∧ IsErr w' (Fr w S') a [⟨({ data := #[109, 111, 100, 101, 108] } : ByteArray), ({ data := #[73, 110, 115, 101, 114, 116] } : ByteArray), atOf i⟩] 9 v ∧ Below w.heap.size w w' := by
 have b1 : Below w.heap.size w (w.alloc (.cells #[.int .i64 e.epoch, .int .i64 e.rep, .int .i64 e.num, .int .i32 e.char, .int .i64 e.hides] 113)) := balloc (Below.refl _ _)
 have hx1 := Blk.new w 113 #[.int .i64 e.epoch, .int .i64 e.rep, .int .i64 e.num, .int .i32 e.char, .int .i64 e.hides]
 have HL := hid (mlen_any _ S mb l K (h.step b1))
 have HW := hid (fun W => within_ok i l.length W (by omega) (by omega))
 obtain ⟨gt, gm, p, T, h1, h2, h3, rfl, h5, h6, h7, h8, h9⟩ := h
 have HT := hid (takes_twice e _ mb gt gm _ K (h1.step b1) (h5.heap (b1.block _ h5.lt)) hg hn (hs.step b1))
 have HE := hid (fun W => refused_err (S := S') (a := a) ({ data := #[73, 110, 115, 101, 114, 116] } : ByteArray) i [] 9 (reason (a 9)) W ⟨by omega, by omega, rfl⟩)
 clear h1 h2 h3 h5 h9 hn
 obtain ⟨x0, x1, x2, x3, x4, xl⟩ := hx1.five
 go_enter Tryz.func134, Tryz.ntmps134
 repeat' (first | (go_at_call 43; go_must ((with_reducible refine Calls.mono HL.out ?_); rintro _ _ ⟨rfl, rfl⟩; dsimp only)) | (go_at_call 150; go_must ((with_reducible refine Calls.mono (HW.out _) ?_); rintro _ _ ⟨rfl, rfl⟩; dsimp only)) | (go_at_call 93; go_must ((with_reducible refine Calls.mono HT.out ?_); rintro _ w3 ⟨rfl, hb3⟩; unfold reason; dsimp only)) | (go_at_call 151; go_must ((with_reducible refine Calls.mono (HE.out _) ?_); rintro _ w4 ⟨v, rfl, hv, hb4⟩; dsimp only)) | go_step)
 go_ret
 have hbb := bvia b1 hb3
 exact ⟨v, rfl, hv.cut hbb.size, bvia hbb hb4⟩
end Go.Proofs.YteggpddlkkjmjaaGreatDoor
namespace Go.Proofs.YteggpddlkkjmjaaGreatDoor
open Go Go.RowKit Go.Maps
def IsSet (w : World) (b K : Nat) (s : List Nm) : Prop := ∃ (n : Nat) (D : DataW Unit), w.ownsMap Tryz.prog 70 unitElem b n D ∧ n ≤ K ∧ (∀ (i : Nm) (h : i.In), has D (i.lit h) = decide (i ∈ s)) ∧ Maps.size D = s.length
section
variable {w w' : World} {b K : Nat} {s : List Nm}
theorem IsSet.ids (h : IsSet w b K s) : IsIds w b K s := by
 obtain ⟨n, D, h1, h2, h3, -⟩ := h
 exact ⟨n, D, h1, h2, h3⟩
theorem IsSet.lt (h : IsSet w b K s) : b < w.heap.size := h.ids.lt
theorem IsSet.heap (h : IsSet w b K s) (hb : w'.heap[b]? = w.heap[b]?) : IsSet w' b K s := by
 obtain ⟨n, D, ⟨es, clock, h1, r⟩, h2⟩ := h
 exact ⟨n, D, ⟨es, clock, hb.trans h1, r⟩, h2⟩
theorem IsSet.monoK (h : IsSet w b K s) {K' : Nat} (hk : K ≤ K') : IsSet w b K' s := by
 obtain ⟨n, D, ho, hn, hs⟩ := h
 exact ⟨n, D, ho, by omega, hs⟩
theorem IsSet.ne_blk {g : Nat} {t : TypeId} {cs : Array Value} (h : IsSet w b K s) (hb : Blk w g t cs) : g ≠ b := h.ids.ne_blk hb
theorem IsSet.made (w : World) : IsSet (w.alloc (.map #[] 0)) w.heap.size 0 [] :=
 ⟨0, .map [], World.ownsMap_made w _ _ _, Nat.zero_le _, fun i h => by simp [has], rfl⟩
theorem IsSet.put (h : IsSet w b K s) (i : Nm) (hi : i.In) (hK : K ≤ 1099511627776) (hn : i ∉ s) : ∃ w', (Instr.mapUpdate 98 (.map (some b)) i.val (.agg #[])).run Tryz.prog w = .ok () w' ∧ IsSet w' b (K + 1) (s ++ [i]) ∧ w.mapTurned w' b := by
 obtain ⟨n, D, ho, hnk, hs, hz⟩ := h
 obtain ⟨w', hrun, ho', hT⟩ := ho.store Tryz.idKeyed Tryz.underlying98 (by have : maxLen = 9223372036854775807 := rfl; omega) (i.lit_key hi) unitElem_mk
 refine ⟨w', hrun, ⟨n + 1, _, ho', by omega, fun j hj => ?_, ?_⟩, hT⟩
 · by_cases e : j = i
   · subst e
     rw [has_put_same ho.isMap (Nm.lit_isKey _ _)]
     simp
   · rw [has_put_other (fun h => e (Nm.lit_inj h)), hs j hj]
     simp [e]
 · rw [size_put (ho.tidy Tryz.idKeyed), hs i hi, decide_eq_false hn, hz, List.length_append]
   rfl
theorem IsSet.len (h : IsSet w b K s) (ty : TypeId) : (Builtin.len_ #[98] ty #[.map (some b)]).run Tryz.prog w = .ok (.int .i64 s.length) w := by
 obtain ⟨n, D, ho, -, -, hz⟩ := h
 rw [ho.len Tryz.underlying98 ty, hz]
end
end Go.Proofs.YteggpddlkkjmjaaGreatDoor
namespace Go.Proofs.YteggpddlkkjmjaaGreatDoor
open Go Go.RowKit
structure KS (S : Nat → Prop) (W W' : World) : Prop where
 size : W.heap.size ≤ W'.heap.size
 same : Same S W W'
theorem KS.refl (S : Nat → Prop) (W : World) : KS S W W := ⟨Nat.le_refl _, Same.refl _ _⟩
theorem KS.trans {S : Nat → Prop} {A B C : World} (h : KS S A B) (k : KS S B C) : KS S A C := ⟨Nat.le_trans h.size k.size, h.same.trans h.size k.same⟩
theorem KS.cell {S : Nat → Prop} {W W' : World} (h : KS S W W') {b o : Nat} (hb : S b) {v : Value} (hc : W.cell? ⟨b, o, none⟩ = some v) : W'.cell? ⟨b, o, none⟩ = some v := h.same.cell (a := ⟨b, o, none⟩) hb hc
def EachRet (S : Nat → Prop) (It : List El → World → Prop) (Jx : World → Prop) (pre : List El) (W : World) (e : Ending) (W' : World) : Prop :=
 (e = .returned (.bool true) ∧ It pre W' ∧ KS S W W') ∨ (e = .returned (.bool false) ∧ Jx W')
theorem calls_at (g : Nat) {P : Program} {args : Array Value} {w : World} {R : Ending → World → Prop} (h : Calls P g args w R) : Calls P g args w R := h
theorem leaves_any (g : Nat) (cap : Array Value) (hg : ∀ args w, (callFunc g args).run Tryz.prog w = .ok (.enter g args) w) (S : Nat → Prop) (It : List El → World → Prop) (Jx : World → Prop) (all : List El)
 (hE : ∀ (pre : List El) A n c row post W, It pre W → Row W S A n c row → row ≠ [] → all = pre ++ row ++ post → Calls Tryz.prog g (#[.slice A n c] ++ cap) W (EachRet S It Jx (pre ++ row) W)) (t : Tr) :
 ∀ (p : Option Addr) (pre post : List El) (W : World), IsTree W S t p → It pre W → all = pre ++ t.all ++ post →
  Calls Tryz.prog 90 #[.pointer p, .func (.func g) #[] cap] W (EachRet S It Jx (pre ++ t.all) W) := by
 induction t with
 | nil =>
  intro p pre post W ht hI _
  obtain rfl := ht
  go_enter Tryz.func90, Tryz.ntmps90
  repeat' (first | go_skip | go_step)
  go_ret
  exact .inl ⟨rfl, by simpa [Tr.all] using hI, KS.refl _ _⟩
 | node l row r ihl ihr =>
  intro p pre post W ht hI hall
  obtain ⟨hne, b, A, n, c, pl, pr, rfl, hS, hrow, hl, hr, c0, c1, c2, c3, c4, c5, c6⟩ := ht
  clear c3 c4 c5 c6
  have hlt := lt_of_cell' c0
  simp only [Tr.all] at hall ⊢
  have h1 := hid (ihl pl pre (row ++ r.all ++ post) W hl hI (by rw [hall]; simp))
  have h2 := hid (fun W1 (hI1 : It (pre ++ l.all) W1) (hk : KS S W W1) => hE (pre ++ l.all) A n c row (r.all ++ post) W1 hI1 (hrow.keep hk.same) hne (by rw [hall]; simp))
  have h3 := hid (fun W2 (hI2 : It (pre ++ l.all ++ row) W2) (hk : KS S W W2) => ihr pr (pre ++ l.all ++ row) post W2 (hr.keep hk.same) hI2 (by rw [hall]; simp))
  clear ihl ihr hE hall
  go_enter Tryz.func90, Tryz.ntmps90
  repeat' (first | (go_at_call 90; first | ((with_reducible refine Calls.mono H3.out ?_); clear H3; rintro _ W3 (⟨rfl, hI3, hk3⟩ | ⟨rfl, hx3⟩); all_goals dsimp only) | (go_must ((with_reducible refine Calls.mono h1.out ?_); clear h1; rintro _ W1 (⟨rfl, hI1, hk1⟩ | ⟨rfl, hx1⟩); (have H2 := hid (h2.out W1 hI1 hk1); have d0 := hk1.cell hS c0; have d2 := hk1.cell hS c2); all_goals dsimp only))) | ((with_reducible refine calls_at g ?_); go_must ((with_reducible refine Calls.mono H2.out ?_); clear H2; rintro _ W2 (⟨rfl, hI2, hk2⟩ | ⟨rfl, hx2⟩); (have hk12 := hk1.trans hk2; have H3 := hid (h3.out W2 hI2 hk12); have e2 := hk2.cell hS d2; clear d2 d0); all_goals dsimp only)) | go_skip | go_guarded | go_step)
  all_goals go_ret
  · exact .inl ⟨rfl, by simpa [List.append_assoc] using hI3, hk12.trans hk3⟩
  · exact .inr ⟨rfl, hx3⟩
  · exact .inr ⟨rfl, hx2⟩
  · exact .inr ⟨rfl, hx1⟩
structure KpT (n₀ : Nat) (S : Nat → Prop) (W W' : World) : Prop where
 size : W.heap.size ≤ W'.heap.size
 low : ∀ b, b < n₀ → S b → b < W.heap.size → W'.heap[b]? = W.heap[b]?
 box : ∀ b v, n₀ ≤ b → (Blk W b 3 #[v] ∨ Blk W b 154 #[v]) → W'.heap[b]? = W.heap[b]?
theorem KpT.trans {n₀ : Nat} {S : Nat → Prop} {A B C : World} (h : KpT n₀ S A B) (k : KpT n₀ S B C) : KpT n₀ S A C :=
 ⟨Nat.le_trans h.size k.size, fun b h1 h2 h3 => (k.low b h1 h2 (Nat.lt_of_lt_of_le h3 h.size)).trans (h.low b h1 h2 h3), fun b v h1 h2 => by
  have e := h.box b v h1 h2
  exact (k.box b v h1 (h2.imp (fun x => e.trans x) (fun x => e.trans x))).trans e⟩
theorem KpT.of_below {n₀ : Nat} {S : Nat → Prop} {W W' : World} (h : Below W.heap.size W W') : KpT n₀ S W W' := ⟨h.size, fun b _ _ hb => h.block b hb, fun b v _ hb => h.block b (by rcases hb with hb | hb <;> exact hb.lt)⟩
theorem KpT.putObj {n₀ : Nat} {S : Nat → Prop} (W : World) (l : Nat) (o o' : Obj) (hl : n₀ ≤ l) (h : W.heap[l]? = some o) (hc : o.isCells = false) : KpT n₀ S W (W.putObj l o') :=
 ⟨by simp, fun b hb _ _ => World.putObj_heap_other (by omega), fun b v _ hb => World.putObj_heap_other fun e => by
  subst e
  rcases hb with hb | hb <;> (unfold Blk at hb; rw [hb] at h; injection h with h; subst h; cases hc)⟩
def elNum (x : El × Nat) : Array Value := #[.int .i64 x.2, x.1.agg]
structure AllAt (J : List (El × Nat) → World → Prop) (l yb ab : Nat) (es : List El) (W : World) : Prop where
 j : J es.zipIdx W
 y : Blk W yb 154 #[.func (.yield l) #[] #[]]
 a : Blk W ab 3 #[.int .i64 es.length]
theorem region_atW (id : Nat) {P : Program} {ops : Array Oper} {Q : Exit → Act → World → Prop} {a : Act} {w : World} {b : Bool} (h : (Code.region id ops b).wp P Q a w) : (Code.region id ops b).wp P Q a w := h
theorem KpT.yb {n₀ g : Nat} {S : Nat → Prop} {W W' : World} {v : Value} (h : KpT n₀ S W W') (hg : n₀ ≤ g) (hb : Blk W g 154 #[v]) : Blk W' g 154 #[v] := (h.box g v hg (.inr hb)).trans hb
theorem KpT.ab {n₀ g : Nat} {S : Nat → Prop} {W W' : World} {v : Value} (h : KpT n₀ S W W') (hg : n₀ ≤ g) (hb : Blk W g 3 #[v]) : Blk W' g 3 #[v] := (h.box g v hg (.inl hb)).trans hb
theorem roundIn_at {F : Fence} {n : Nat} {P : Program} {l : Nat} {f : FuncId} {tmps : Array Value} {assign body : Code} {w : World} {R : Ending → World → Prop} {p : Prop} (h : p ∧ RoundIn F n P l f tmps assign body w R) : p ∧ RoundIn F n P l f tmps assign body w R := h
theorem zipIdx_snoc (l : List El) (e : El) : (l ++ [e]).zipIdx = l.zipIdx ++ [(e, l.length)] := by simp [List.zipIdx_append]
theorem each_any (l yb ab base n₀ : Nat) (S : Nat → Prop) (J Jx : List (El × Nat) → World → Prop) (all : List El) (hall : all.length ≤ 1073741824) (hSn : ∀ b, S b → b < n₀) (hnb : n₀ ≤ base) (hyb : base ≤ yb) (hab : base ≤ ab)
 (hJ : Abides 3 base J)
 (hY : ∀ pre x W, J pre W → pre ++ [x] <+: all.zipIdx → YieldW Tryz.prog l (elNum x) W fun e W' => (e = .returned (.bool true) ∧ J (pre ++ [x]) W' ∧ KpT n₀ S W W') ∨ (e = .returned (.bool false) ∧ Jx (pre ++ [x]) W'))
 (pre : List El) (A : Option Addr) (n c : Nat) (row post : List El) (W : World) (hI : AllAt J l yb ab pre W) (hrow : Row W S A n c row) (hpa : all = pre ++ row ++ post) :
 Calls Tryz.prog 91 (#[.slice A n c] ++ #[.pointer (some ⟨yb, 0, none⟩), .pointer (some ⟨ab, 0, none⟩)]) W (EachRet S (AllAt J l yb ab) (fun W' => ∃ q, Jx q W') (pre ++ row) W) := by
 have hpl : pre.length + row.length ≤ 1073741824 := by rw [hpa] at hall; simp only [List.length_append] at hall; omega
 have hn := hrow.1
 have hnc := hrow.2.1
 have hHI := hid hI
 have Hrow := hid hrow
 have Hpa := hid hpa
 clear hI hrow hpa hall
 simp only [List.append_toArray, List.cons_append, List.nil_append]
 go_enter Tryz.func91, Tryz.ntmps91
 repeat' (first | go_step)
 go_loopw [9] (fun i wr => ∃ k : Nat, i = .int .i64 k ∧ k ≤ n ∧ AllAt J l yb ab (pre ++ row.take k) wr ∧ KS S W wr) (fun i wr => n - (intOf i).toNat)
 case atStart => exact ⟨0, rfl, by omega, by simpa using hHI.out, KS.refl _ _⟩
 case round =>
  obtain ⟨k, rfl, hk, hA, hks⟩ := hrel
  by_cases hlt : k < n
  · obtain ⟨b, off, e, rfl, hS, he, c0, c1, c2, c3, c4⟩ := (Hrow.out.keep hks.same).at_ hlt
    have hbl := lt_of_cell' c0
    have htk := take_snoc_el he
    obtain ⟨m, hm⟩ : ∃ m, m = pre.length + k := ⟨_, rfl⟩
    have hlen : (pre ++ row.take k).length = m := by rw [List.length_append, List.length_take]; omega
    have hmb : m ≤ 1073741824 := by omega
    have hb1 : Below wr.heap.size wr (wr.alloc (.cells #[.int .i64 e.epoch, .int .i64 e.rep, .int .i64 e.num, .int .i32 e.char, .int .i64 e.hides] 113)) := (Below.refl _ _).alloc (Nat.le_refl _) _
    have hy1 := hA.y.step hb1
    have ha1 := hA.a.step hb1
    rw [hlen] at ha1
    have y0 := hy1.cell 0
    have a0 := ha1.cell 0
    simp at y0 a0
    have hyl := hA.y.lt
    have hal := hA.a.lt
    have hpre : (pre ++ row.take k).zipIdx ++ [(e, m)] <+: all.zipIdx := by
     rw [← hlen, ← zipIdx_snoc, List.append_assoc, ← htk]
     refine ⟨(row.drop (k + 1) ++ post).zipIdx (0 + (pre ++ row.take (k + 1)).length), ?_⟩
     rw [← List.zipIdx_append, Hpa.out]
     congr 1
     rw [List.append_assoc, List.append_assoc, ← List.append_assoc (row.take _), List.take_append_drop]
    obtain ⟨fn, tmps, assign, body, hy, hR⟩ := hY _ (e, m) _ (hJ _ _ _ hA.j (Turn.of_below hb1)) hpre
    simp only [elNum, El.agg] at hy
    have HH := hid (And.intro htk (And.intro hlen hpre))
    have Hm := hid hm
    have Hy1 := hid (And.intro hy1 ha1)
    have HA := hid hA
    clear htk hlen hpre hy1 ha1 hA he hm hY
    repeat' (first | ((with_reducible refine region_atW 4 ?_); refine (wpIn_wide (n := 0)).1 (wpIn_region_lit ?_)) | ((with_reducible refine roundIn_at ?_); go_must (refine ⟨rfl, ?_⟩; refine RoundIn.mono hR ?_; clear hR; rintro _ W3 (⟨rfl, hJ3, hk3⟩ | ⟨rfl, hx3⟩); (have hy3 := KpT.yb hk3 (Nat.le_trans hnb hyb) Hy1.out.1; have ha3 := KpT.ab hk3 (Nat.le_trans hnb hab) Hy1.out.2; obtain ⟨-, a3, f3⟩ := bl1 ha3; have HK := hid hk3; clear hk3); all_goals dsimp only)) | gi_step | go_step)
    · go_roundw
      case rel =>
       obtain ⟨h1, h2, _⟩ := HH.out
       have hne : yb ≠ ab := hy3.ne ha3 (by decide)
       have hna : ¬ S ab := fun h => by have := hSn _ h; omega
       refine ⟨k + 1, by go_num, by omega, ⟨?_, hy3.far hne _, ?_⟩, ?_⟩
       · rw [h1, ← List.append_assoc, zipIdx_snoc, h2]
         exact hJ _ _ _ hJ3 (Turn.setBox hab ha3)
       · rw [h1, ← List.append_assoc, List.length_append, h2]
         simpa using ha3.set_ 0 _
       · refine (hks.trans ⟨hb1.size, Same.of_below hb1⟩).trans (KS.trans ⟨HK.out.size, fun b hS hl => HK.out.low b (hSn b hS) hS hl⟩ ⟨by simp [World.setCell], Same.setCell _ hna _⟩)
      case measure => simp [intOf]; omega
    · go_ret
      exact .inr ⟨rfl, _, hx3⟩
  · obtain rfl : k = n := by omega
    have hl : row.take k = row := List.take_of_length_le (by omega)
    rw [hl] at hA
    clear hl
    repeat' (first | go_step)
    go_ret
    exact .inl ⟨rfl, hA, hks⟩
theorem enters_fn {P : Program} {f : FuncId} {fn : Func} {c : Code} (hf : P.funcs[f]? = some fn) (hname : (fn.name == "runtime.NumGoroutine") = false) (hb : fn.body = some c) : ∀ args w, (callFunc f args).run P w = .ok (.enter f args) w := fun args w => enters_of hf hname hb args w
theorem allSeq (T : Tr) (p : Option Addr) (bt g chunk : Nat) (S : Nat → Prop) (w : World) (hg : Blk w g 106 #[.pointer (some ⟨bt, 0, none⟩)]) (hblk : Blk w bt 157 #[.int .i64 chunk, .pointer p]) (hT : IsTree w S T p) (hbd : T.all.length ≤ 1073741824) :
 SeqT Tryz.prog 3 89 #[.pointer (some ⟨g, 0, none⟩)] elNum (KpT w.heap.size S) (fun xs => xs = T.all.zipIdx) (fun pre x => pre ++ [x] <+: T.all.zipIdx) w := by
 intro l J Jx W hbW hJ hJx hY h0
 have hTW : IsTree W (fun b => S b ∧ b < w.heap.size) T p := (hT.more (S' := fun b => S b ∧ b < w.heap.size) fun b hl hs => ⟨hs, hl⟩).step hbW
 have hgW := hg.step hbW
 have hbkW := hblk.step hbW
 have hsz := hbW.size
 have b1 : Below W.heap.size W (W.alloc (.cells #[.func (.yield l) #[] #[]] 154)) := (Below.refl _ _).alloc (Nat.le_refl _) _
 have hs1 : (W.alloc (.cells #[.func (.yield l) #[] #[]] 154)).heap.size = W.heap.size + 1 := Array.size_push _
 have b2 := b1.alloc (by omega) (.cells #[.int .i64 0] 3)
 have hyb := (Blk.new W 154 #[.func (.yield l) #[] #[]]).alloc (.cells #[.int .i64 0] 3)
 have hab := Blk.new (W.alloc (.cells #[.func (.yield l) #[] #[]] 154)) 3 #[.int .i64 0]
 rw [hs1] at hab
 have hE := fun (pre : List El) A n c row post W1 hI hrow (hne : row ≠ []) hpa => each_any l W.heap.size (W.heap.size + 1) W.heap.size w.heap.size (fun b => S b ∧ b < w.heap.size) J Jx T.all hbd (fun b h => h.2) hsz (Nat.le_refl _) (Nat.le_succ _) hJ
  (fun pre x W h1 h2 => (hY pre x W h1 h2).mono fun e W' h => h.imp (fun ⟨e1, e2, e3⟩ => ⟨e1, e2, ⟨e3.size, fun b hb hs hl => e3.low b hb hs.1 hl, e3.box⟩⟩) id) pre A n c row post W1 hI hrow hpa
 have hL := hid (leaves_any 91 #[.pointer (some ⟨W.heap.size, 0, none⟩), .pointer (some ⟨W.heap.size + 1, 0, none⟩)] (enters_fn Tryz.func91 (by kernel_rfl) rfl) (fun b => S b ∧ b < w.heap.size) (AllAt J l W.heap.size (W.heap.size + 1)) (fun W' => ∃ q, Jx q W') T.all hE T p [] []
  _ (hTW.step b2) ⟨by simpa using hJ _ _ _ h0 (Turn.of_below b2), hyb, hab⟩ (by simp))
 have c0 := (hgW.step b2).cell 0
 have c1 := (hbkW.step b2).cell 1
 simp at c0 c1
 have hgl := hgW.lt
 have hbl := hbkW.lt
 clear hE hY hyb hab b1 b2 hg hgW hbkW hblk h0
 go_enter Tryz.func89, Tryz.ntmps89
 repeat' (first | (go_at_call 90; go_must ((with_reducible refine Calls.mono hL.out ?_); rintro _ W3 (⟨rfl, hI3, hk3⟩ | ⟨rfl, q, hx3⟩); all_goals dsimp only)) | go_step)
 · go_end0
   exact ⟨⟨_, rfl⟩, .inl ⟨_, rfl, by simpa using hI3.j⟩⟩
 · go_end0
   exact ⟨⟨_, rfl⟩, .inr ⟨q, hx3⟩⟩
theorem all_any (bt : Nat) (w : World) :
 Calls Tryz.prog 54 #[.pointer (some ⟨bt, 0, none⟩)] w fun e w' => e = .returned (.func (.func 89) #[] #[.pointer (some ⟨w.heap.size, 0, none⟩)]) ∧ w' = w.alloc (.cells #[.pointer (some ⟨bt, 0, none⟩)] 106) := by
 go_enter Tryz.func54, Tryz.ntmps54
 go_wp2
 go_ret
 exact ⟨rfl, rfl⟩
theorem mall_any (mb : Nat) (w : World) :
 Calls Tryz.prog 95 #[.pointer (some ⟨mb, 0, none⟩)] w fun e w' => e = .returned (.func (.func 128) #[] #[.pointer (some ⟨w.heap.size, 0, none⟩)]) ∧ w' = w.alloc (.cells #[.pointer (some ⟨mb, 0, none⟩)] 52) := by
 go_enter Tryz.func95, Tryz.ntmps95
 go_wp2
 go_ret
 exact ⟨rfl, rfl⟩
structure KpM (n₀ : Nat) (S : Nat → Prop) (W W' : World) : Prop where
 t : KpT n₀ S W W'
 box : ∀ b v, n₀ ≤ b → Blk W b 188 #[v] → W'.heap[b]? = W.heap[b]?
theorem KpM.trans {n₀ : Nat} {S : Nat → Prop} {A B C : World} (h : KpM n₀ S A B) (k : KpM n₀ S B C) : KpM n₀ S A C :=
 ⟨h.t.trans k.t, fun b v h1 h2 => by
  have e := h.box b v h1 h2
  exact (k.box b v h1 (e.trans h2)).trans e⟩
theorem KpM.of_below {n₀ : Nat} {S : Nat → Prop} {W W' : World} (h : Below W.heap.size W W') : KpM n₀ S W W' := ⟨KpT.of_below h, fun b v _ hb => h.block b hb.lt⟩
theorem KpM.putObj {n₀ : Nat} {S : Nat → Prop} (W : World) (l : Nat) (o o' : Obj) (hl : n₀ ≤ l) (h : W.heap[l]? = some o) (hc : o.isCells = false) : KpM n₀ S W (W.putObj l o') :=
 ⟨KpT.putObj W l o o' hl h hc, fun b v _ hb => World.putObj_heap_other fun e => by
  subst e
  unfold Blk at hb
  rw [hb] at h
  injection h with h
  subst h
  cases hc⟩
theorem Turn.of_begun {t : TypeId} {base l : Nat} {A B : World} (h : Begun l A B) (hl : base ≤ l) : Turn t base A B :=
 ⟨h.os, h.tape, h.output, by rw [h.size]; exact Nat.le_refl _, fun b _ hlt => h.block b (by omega), fun b cs u z hb _ => h.block b fun e => by
  subst e
  obtain ⟨r, r', hr, -⟩ := h.record
  rw [hr] at hb
  cases hb⟩
def elOne (e : El) : Array Value := #[e.agg]
theorem mallSeq (T : Tr) (p : Option Addr) (g mb gt : Nat) (gm : Value) (S : Nat → Prop) (w : World) (hg : Blk w g 52 #[.pointer (some ⟨mb, 0, none⟩)]) (h1 : Blk w mb 110 #[.pointer (some ⟨gt, 0, none⟩), gm]) (h2 : Blk w gt 157 #[.int .i64 64, .pointer p]) (h3 : IsTree w S T p) (hbd : T.all.length ≤ 1073741824) :
 SeqN Tryz.prog 3 128 #[.pointer (some ⟨g, 0, none⟩)] elOne (KpM w.heap.size S) (fun xs => xs = T.all) (fun pre x => pre ++ [x] <+: T.all) w := by
 intro l J Jx W hbW hwl hlW hJ hJx hY h0
 have hsz := hbW.size
 have b1 : Below W.heap.size W (W.alloc (.cells #[.func (.yield l) #[] #[]] 188)) := balloc (Below.refl _ _)
 have s1 : (W.alloc (.cells #[.func (.yield l) #[] #[]] 188)).heap.size = W.heap.size + 1 := Array.size_push _
 have e1 := hbW.trans (b1.mono hsz)
 have gl := (hg.step e1).cell 0
 have ml := (h1.step e1).cell 0
 have gll := (hg.step e1).lt
 have mll := (h1.step e1).lt
 simp at gl ml
 have H0 := hid h0
 have HY := hid hY
 clear hY h0
 refine calls_of_marks Tryz.func128 rfl ?_
 simp only [Tryz.ntmps128, List.size_toArray, List.length_cons, List.length_nil, Nat.reduceAdd, Nat.reduceSub, Array.replicate_succ, Array.replicate_zero, List.push_toArray, List.append_toArray, List.nil_append, List.cons_append]
 repeat' (first | (go_at_call 54; go_must ((with_reducible refine Calls.mono (all_any gt _) ?_); rintro _ _ ⟨rfl, rfl⟩; dsimp only)) | (with_reducible refine stop_block 0 ?_) | go_step)
 refine Stop.go ?_
 have e2 := e1.trans ((balloc (o := .cells #[.pointer (some ⟨gt, 0, none⟩)] 106) (Below.refl _ (W.alloc (.cells #[.func (.yield l) #[] #[]] 188)))).mono (by omega))
 have hya := (Blk.new W 188 #[.func (.yield l) #[] #[]]).alloc (.cells #[.pointer (some ⟨gt, 0, none⟩)] 106)
 have hga := Blk.new (W.alloc (.cells #[.func (.yield l) #[] #[]] 188)) 106 #[.pointer (some ⟨gt, 0, none⟩)]
 have hT0 : Turn 3 W.heap.size W ((W.alloc (.cells #[.func (.yield l) #[] #[]] 188)).alloc (.cells #[.pointer (some ⟨gt, 0, none⟩)] 106)) := Turn.of_below (balloc b1)
 rw [s1] at hga ⊢
 have htZ := h2.step e2
 have hTZ := (h3.more (S' := fun b => S b ∧ b < w.heap.size) fun b hl hs => ⟨hs, hl⟩).step e2
 have hJ0 := hJ _ _ _ H0.out hT0
 generalize (W.alloc (.cells #[.func (.yield l) #[] #[]] 188)).alloc (.cells #[.pointer (some ⟨gt, 0, none⟩)] 106) = Z at *
 have hgaZ := hga.lt
 have hzz : W.heap.size < Z.heap.size := by omega
 clear gl ml gll mll hT0 e1 e2 b1 s1
 refine wp_block (wp_rangeFunc 3 (gf := 89) (lb := #[.pointer (some ⟨W.heap.size + 1, 0, none⟩)]) rfl (enters_fn Tryz.func89 (by kernel_rfl) rfl)
  (allSeq T p gt (W.heap.size + 1) 64 (fun b => S b ∧ b < w.heap.size) Z hga htZ hTZ hbd) (fun h k => h.trans k) (fun W l o o' hl h hc => KpT.putObj W l o o' hl h hc) (fun _ => rfl)
  (fun (pre : List (El × Nat)) V => J (pre.map Prod.fst) V ∧ Blk V W.heap.size 188 #[.func (.yield l) #[] #[]])
  (fun c (pre : List (El × Nat)) V => c = .ret ∧ Jx (pre.map Prod.fst) V)
  (fun s A B h hT => ⟨hJ _ _ _ h.1 (hT.less (Nat.le_of_lt hzz)), h.2.turn hT hzz⟩)
  (fun c s A B h hT => ⟨h.1, hJx _ _ _ h.2 (hT.less (Nat.le_of_lt hzz))⟩)
  ⟨hJ0, hya⟩ ?round ?done ?stop)
 case round =>
  rintro ll pre ⟨e, i⟩ V hll ⟨rc, hrc⟩ ⟨g0, g1⟩ hG
  obtain ⟨hi, he, hlt⟩ := zipIdx_prefix hG
  simp only at hi he
  subst hi
  simp only [elNum, El.agg, putArgs2, List.setIfInBounds_toArray, List.set_cons_zero, List.set_cons_succ]
  repeat' (first | ((with_reducible refine regionIn_ff ?_); refine wpIn_region_r rfl ?_) | go_step | (with_reducible refine NoO.normal ?_))
  have eW : Below V.heap.size V (V.alloc (.cells #[.int .i64 e.epoch, .int .i64 e.rep, .int .i64 e.num, .int .i32 e.char, .int .i64 e.hides] 113)) := balloc (Below.refl _ _)
  refine ⟨KeepN.of_below eW, KpT.of_below eW, fun W2 hB2 => ?_⟩
  have k0 := hJ _ _ _ (hJ _ _ _ g0 (Turn.of_below eW)) (Turn.of_begun hB2 (by omega))
  have k1 := hB2.blk (g1.step eW)
  have hx2 := hB2.blk (Blk.new V 113 #[.int .i64 e.epoch, .int .i64 e.rep, .int .i64 e.num, .int .i32 e.char, .int .i64 e.hides])
  generalize V.heap.size = xb at *
  have hmap : (pre ++ [(e, pre.length)]).map Prod.fst = pre.map Prod.fst ++ [e] := by simp
  have hpre : pre.map Prod.fst ++ [e] <+: T.all := by
   obtain ⟨r, hr⟩ := hG
   have h1 := congrArg (List.map Prod.fst) hr
   rw [List.map_append, hmap, show T.all.zipIdx.map Prod.fst = T.all from by simp] at h1
   exact ⟨_, h1⟩
  obtain ⟨fn, tmps, assign, body, hy, hR⟩ := HY.out (pre.map Prod.fst) e W2 k0 hpre
  simp only [elOne, El.agg] at hy
  have Hk1 := hid k1
  have Hmap := hid hmap
  have y0 := k1.cell 0
  have yl := k1.lt
  simp at y0
  have x0 := hx2.cell 0; have x1 := hx2.cell 1; have x2 := hx2.cell 2; have x3 := hx2.cell 3; have x4 := hx2.cell 4; have xl := hx2.lt; simp at x0 x1 x2 x3 x4
  clear hmap hpre hG g0 g1 eW hB2 hrc he hx2 k1 k0
  repeat' (first | ((with_reducible refine regionIn_at 3 ?_); refine wpIn_region_wide rfl ?_) | ((with_reducible refine roundIn_at ?_); go_must (refine ⟨rfl, ?_⟩; refine RoundIn.mono hR ?_; clear hR; rintro _ W3 (⟨rfl, hJ3, hk3, he3⟩ | ⟨rfl, hx3, he3⟩); all_goals dsimp only)) | gi_step)
  · refine ⟨he3.keepN (by omega) (by omega), ⟨hk3.t.size, fun b hb hs hl => hk3.t.low b hs.2 hs.1 hl, fun b v hb hbx => hk3.t.box b v (by omega) hbx⟩, ?_, ?_⟩
    · rw [Hmap.out]; exact hJ3
    · exact (hk3.box _ _ hsz Hk1.out).trans Hk1.out
  · refine ⟨he3.keepN (by omega) (by omega), rfl, ?_⟩
    rw [Hmap.out]; exact hx3
 case done =>
  rintro D xs V hD rfl ⟨g0, g1⟩ hK
  rw [show T.all.zipIdx.map Prod.fst = T.all from by simp] at g0
  refine leaves1 hK (v := .tuple #[]) (fun w' _ => by simp [results, Tryz.results128, go_sem]) ⟨⟨_, rfl⟩, .inl ⟨_, rfl, ?_⟩⟩
  exact hJ _ _ _ g0 (Turn.putObj (by omega) hK rfl)
 case stop =>
  rintro D c pre V hD ⟨rfl, hx⟩ hK
  repeat' (first | go_step)
  refine leaves1 (w := V) hK (v := .tuple #[]) (fun w' _ => by simp [results, Tryz.results128, go_sem]) ⟨⟨_, rfl⟩, .inr ⟨pre.map Prod.fst, ?_⟩⟩
  exact hJx _ _ _ hx (Turn.putObj (by omega) hK rfl)
variable {a : Nat → Addr}
def wrongS (s : List Nm) (e : El) : Nat := if rightC e.char = false then 3 else if fairH e.hides = false then 1 else if e.nm ∈ s then 9 else 0
theorem wrongS_cases (s : List Nm) (e : El) : (wrongS s e = 3 ∧ rightC e.char = false) ∨ (wrongS s e = 1 ∧ rightC e.char = true ∧ fairH e.hides = false) ∨ (wrongS s e = 9 ∧ rightC e.char = true ∧ fairH e.hides = true ∧ e.nm ∈ s) ∨ (wrongS s e = 0 ∧ rightC e.char = true ∧ fairH e.hides = true ∧ e.nm ∉ s) := by
 unfold wrongS
 cases h1 : rightC e.char
 · exact .inl ⟨if_pos rfl, rfl⟩
 · right
   rw [if_neg (by simp)]
   cases h2 : fairH e.hides
   · exact .inl ⟨if_pos rfl, rfl, rfl⟩
   · right
     rw [if_neg (by simp)]
     by_cases h3 : e.nm ∈ s
     · exact .inl ⟨if_pos h3, rfl, rfl, h3⟩
     · exact .inr ⟨if_neg h3, rfl, rfl, h3⟩
end Go.Proofs.YteggpddlkkjmjaaGreatDoor
namespace Go.Proofs.YteggpddlkkjmjaaGreatDoor
open Go Go.RowKit
def AllRight (ls : List El) : Prop := ∀ k e, ls[k]? = some e → wrongS ((ls.take k).map El.nm) e = 0
theorem allRight_or (ls : List El) : AllRight ls ∨ ∃ j e, ls[j]? = some e ∧ AllRight (ls.take j) ∧ wrongS ((ls.take j).map El.nm) e ≠ 0 := by
 have key : ∀ n, n ≤ ls.length → AllRight (ls.take n) ∨ ∃ j e, ls[j]? = some e ∧ AllRight (ls.take j) ∧ wrongS ((ls.take j).map El.nm) e ≠ 0 := by
  intro n
  induction n with
  | zero =>
   intro _
   left
   intro k e he
   simp at he
  | succ n ih =>
   intro hn
   rcases ih (by omega) with h | h
   · have he : ls[n]? = some ls[n] := List.getElem?_eq_getElem (by omega)
     by_cases hw : wrongS ((ls.take n).map El.nm) ls[n] = 0
     · left
       intro k e hk
       rw [List.getElem?_take] at hk
       split at hk
       · next hkn =>
         rw [List.take_take, Nat.min_eq_left (by omega)]
         by_cases hk2 : k = n
         · subst hk2
           rw [he] at hk
           injection hk with hk
           subst hk
           exact hw
         · have := h k e (by rw [List.getElem?_take, if_pos (by omega)]; exact hk)
           rw [List.take_take, Nat.min_eq_left (by omega)] at this
           exact this
       · cases hk
     · exact .inr ⟨n, ls[n], he, h, hw⟩
   · exact .inr h
 have := key ls.length (Nat.le_refl _)
 rwa [List.take_of_length_le (Nat.le_refl _)] at this
theorem AllRight.nodup {ls : List El} (h : AllRight ls) : (ls.map El.nm).Nodup := by
 have key : ∀ n, n ≤ ls.length → ((ls.take n).map El.nm).Nodup := by
  intro n
  induction n with
  | zero => intro _; simp
  | succ n ih =>
   intro hn
   have he : ls[n]? = some ls[n] := List.getElem?_eq_getElem (by omega)
   have hw := h n _ he
   have hnot : El.nm ls[n] ∉ (ls.take n).map El.nm := by
    rcases wrongS_cases ((ls.take n).map El.nm) ls[n] with ⟨h1, _⟩ | ⟨h1, _⟩ | ⟨h1, _⟩ | ⟨_, _, _, h4⟩
    · omega
    · omega
    · omega
    · exact h4
   rw [take_snoc_el he, List.map_append, List.nodup_append]
   refine ⟨ih (by omega), by simp, ?_⟩
   intro x hx y hy e
   simp only [List.map_cons, List.map_nil, List.mem_cons, List.not_mem_nil, or_false] at hy
   subst hy
   subst e
   exact hnot hx
 have := key ls.length (Nat.le_refl _)
 rwa [List.take_of_length_le (Nat.le_refl _)] at this
def El.says (e : El) : List UInt8 := if e.hides > 0 then [] else Lib.encodeRune e.char
def viewOf (l : List El) : List UInt8 := l.flatMap El.says
theorem viewOf_snoc (l : List El) (e : El) : viewOf (l ++ [e]) = viewOf l ++ e.says := by simp [viewOf, List.flatMap_append]
theorem says_le (e : El) : e.says.length ≤ 4 := by
 unfold El.says
 split
 · simp
 · rw [← Lib.runeCells_length]
   exact (Lib.runeCells_le _).2
theorem viewOf_le (l : List El) : (viewOf l).length ≤ 4 * l.length := by
 induction l with
 | nil => simp [viewOf]
 | cons e l ih =>
  have h : viewOf (e :: l) = e.says ++ viewOf l := rfl
  rw [h, List.length_append, List.length_cons]
  have := says_le e
  omega
section
variable {B b : Nat} {p : Value} {bs : List Value} {w w' : World}
theorem builderAt_keep (h : Lib.BuilderAtF 144 5 B b p bs w) (hk : ∀ (k : Nat) (cs : Array Value) (t : TypeId) (z : Nat × Nat), w.heap[k]? = some (Obj.cells cs t z) → (t = 144 ∨ t = 5) → w'.heap[k]? = w.heap[k]?) : Lib.BuilderAtF 144 5 B b p bs w' := by
 obtain ⟨hB, v, hb, hown, hne⟩ := h
 refine ⟨hB, v, (hk b _ _ _ hb (.inl rfl)).trans hb, ⟨hown.1, ?_⟩, hne⟩
 rcases hown.2 with h0 | ⟨g, cap, cur, fz, hv, hbg, hg, r⟩
 · exact .inl h0
 · exact .inr ⟨g, cap, cur, fz, hv, hbg, (hk g _ _ _ hg (.inr rfl)).trans hg, r⟩
theorem builder_keep (h : Lib.IsBuilderF 144 5 B b bs w) (hk : ∀ (k : Nat) (cs : Array Value) (t : TypeId) (z : Nat × Nat), w.heap[k]? = some (Obj.cells cs t z) → (t = 144 ∨ t = 5) → w'.heap[k]? = w.heap[k]?) : Lib.IsBuilderF 144 5 B b bs w' :=
 h.elim (fun h => .inl (builderAt_keep h hk)) (fun h => .inr (builderAt_keep h hk))
theorem builder_step (h : Lib.IsBuilderF 144 5 B b bs w) (hb : Below w.heap.size w w') : Lib.IsBuilderF 144 5 B b bs w' := builder_keep h fun k _ _ _ hk _ => hb.block k (lt_of_heap hk)
theorem builder_turn {base : Nat} (h : Lib.IsBuilderF 144 5 B b bs w) (hT : Turn 3 base w w') : Lib.IsBuilderF 144 5 B b bs w' := builder_keep h fun k cs t z hk ht => hT.cells k cs t z hk fun h => by
 have := h.2.1
 rcases ht with rfl | rfl <;> (revert this; decide)
theorem builder_begun {l : Nat} (h : Lib.IsBuilderF 144 5 B b bs w) (hT : Begun l w w') : Lib.IsBuilderF 144 5 B b bs w' := builder_keep h fun k cs t z hk _ => by
 obtain ⟨q, q', hr, _⟩ := hT.record
 exact hT.block k fun e => by subst e; rw [hr] at hk; cases hk
theorem others_at {k : Nat} {o : Obj} (h : Lib.OthersKept 5 (some b) w w') (hb : Lib.IsBuilderF 144 5 B b bs w) (hk : w.heap[k]? = some o) (ho : ∀ cs t z, o = Obj.cells cs t z → t ≠ 5 ∧ t ≠ 144) : w'.heap[k]? = some o := by
 refine h k o hk (fun e => ?_) (fun c fz e => (ho _ _ _ e).1 rfl)
 injection e with e
 subst e
 have hc : ∃ p v, w.heap[k]? = some (.cells #[p, v] 144 (0, 0)) := by
  rcases hb with hb | hb <;> (obtain ⟨_, v, hb, _⟩ := hb; exact ⟨_, v, hb⟩)
 obtain ⟨p, v, hc⟩ := hc
 rw [hk] at hc
 injection hc with hc
 exact (ho _ _ _ hc).2 rfl
end
theorem below_turn {w A B : World} {base c : Nat} {t : TypeId} (g : Below base w A) (hT : Turn t c A B) (hc : base ≤ c) (hz : base ≤ w.heap.size) : Below base w B :=
 ⟨hT.os.trans g.os, hT.tape.trans g.tape, hT.output.trans g.output, Nat.le_trans g.size hT.size, fun k hk => (hT.low k (by have := g.size; omega) (by omega)).trans (g.block k hk)⟩
theorem below_begun {w A B : World} {base l : Nat} (h : Below base w A) (hB : Begun l A B) (hl : base ≤ l) : Below base w B :=
 ⟨hB.os.trans h.os, hB.tape.trans h.tape, hB.output.trans h.output, by rw [hB.size]; exact h.size, fun k hk => (hB.block k (by omega)).trans (h.block k hk)⟩
theorem view_any (w : World) (S : Nat → Prop) (mb : Nat) (l : List El) (K : Nat) (h : Mdl w S mb l K) (hl : l.length ≤ 536870912) :
 Calls Tryz.prog 45 #[.pointer (some ⟨mb, 0, none⟩)] w fun r w' => r = .returned (.string ⟨(viewOf l).toArray⟩) ∧ Below w.heap.size w w' := by
 obtain ⟨gt, gm, p, T, h1, h2, h3, rfl, h5, h6, h7, h8, h9⟩ := h
 have b1 : Below w.heap.size w (w.alloc (.cells #[.pointer none, .slice none 0 0] 144)) := (Below.refl _ _).alloc (Nat.le_refl _) _
 have hlb := Blk.new w 144 #[.pointer none, .slice none 0 0]
 have m0 := h1.cell 0
 simp at m0
 have hml := h1.lt
 have h1l := (h1.step b1).lt
 have H9 := hid h9
 clear h9 h5
 refine calls_of_marks Tryz.func45 rfl ?_
 simp only [Tryz.ntmps45, List.size_toArray, List.length_cons, List.length_nil, Nat.reduceAdd, Nat.reduceSub, Array.replicate_succ, Array.replicate_zero, List.push_toArray, List.append_toArray, List.nil_append, List.cons_append]
 repeat' (first | (go_at_call 54; go_must ((with_reducible refine Calls.mono (all_any gt _) ?_); rintro _ _ ⟨rfl, rfl⟩; dsimp only)) | (with_reducible refine stop_block 0 ?_) | go_step)
 refine Stop.go ?_
 have s1 : (w.alloc (.cells #[.pointer none, .slice none 0 0] 144)).heap.size = w.heap.size + 1 := Array.size_push _
 have e2 : Below (w.alloc (.cells #[.pointer none, .slice none 0 0] 144)).heap.size (w.alloc (.cells #[.pointer none, .slice none 0 0] 144)) ((w.alloc (.cells #[.pointer none, .slice none 0 0] 144)).alloc (.cells #[.pointer (some ⟨gt, 0, none⟩)] 106)) := (Below.refl _ _).alloc (Nat.le_refl _) _
 have hga := Blk.new (w.alloc (.cells #[.pointer none, .slice none 0 0] 144)) 106 #[.pointer (some ⟨gt, 0, none⟩)]
 rw [s1] at hga ⊢
 have bZ := b1.trans (e2.mono b1.size)
 have hlZ := hlb.step e2
 have htZ := h2.step bZ
 have hTZ := h3.step bZ
 generalize (w.alloc (.cells #[.pointer none, .slice none 0 0] 144)).alloc (.cells #[.pointer (some ⟨gt, 0, none⟩)] 106) = Z at *
 have hne : gt ≠ w.heap.size := fun e => by have := h2.lt; omega
 have hTZ2 : IsTree Z (fun b => b < w.heap.size) T p := (h3.more (S' := fun b => b < w.heap.size) fun b hl _ => hl).step bZ
 have hgaZ : w.heap.size + 1 < Z.heap.size := hga.lt
 have hBZ : Lib.IsBuilderF 144 5 w.heap.size w.heap.size (Lib.byteCells (viewOf [])) Z := .inl ⟨Nat.le_refl _, _, hlZ, ⟨rfl, .inl ⟨rfl, rfl⟩⟩, by simp [Value.ownBlock]⟩
 clear m0 hlb e2 hTZ h2 h3 h1 hml h1l b1 hlZ
 refine wp_rangeFunc_block 3 (gf := 89) (lb := #[.pointer (some ⟨w.heap.size + 1, 0, none⟩)]) rfl (enters_fn Tryz.func89 (by kernel_rfl) rfl)
  (allSeq T p gt (w.heap.size + 1) 64 (fun b => b < w.heap.size) Z hga htZ hTZ2 (by omega)) (fun h k => h.trans k) (fun W l o o' hl h hc => KpT.putObj W l o o' hl h hc) (fun _ => rfl)
  (fun (pre : List (El × Nat)) W => Lib.IsBuilderF 144 5 w.heap.size w.heap.size (Lib.byteCells (viewOf (pre.map Prod.fst))) W ∧ Below w.heap.size w W)
  (fun W => Lib.IsBuilderF 144 5 w.heap.size w.heap.size (Lib.byteCells (viewOf T.all)) W ∧ Below w.heap.size w W)
  (fun s A B h hT => ⟨builder_turn h.1 hT, below_turn h.2 hT (by omega) (Nat.le_refl _)⟩)
  (fun _ A B h hT => ⟨builder_turn h.1 hT, below_turn h.2 hT (by omega) (Nat.le_refl _)⟩)
  ⟨hBZ, bZ⟩ ?round ?done ?end_
 case round =>
  rintro ll pre ⟨e, i⟩ W hll ⟨rc, hrc⟩ ⟨g1, g3⟩ hG
  obtain ⟨hi, he, hlt⟩ := zipIdx_prefix hG
  simp only at hi he
  subst hi
  simp only [elNum, El.agg, putArgs2, List.setIfInBounds_toArray, List.set_cons_zero, List.set_cons_succ]
  repeat' (first | ((with_reducible refine regionIn_ff ?_); refine wpIn_region_r rfl ?_) | go_step | (with_reducible refine NoO.normal ?_))
  have eW : Below W.heap.size W (W.alloc (.cells #[.int .i64 e.epoch, .int .i64 e.rep, .int .i64 e.num, .int .i32 e.char, .int .i64 e.hides] 113)) := (Below.refl _ _).alloc (Nat.le_refl _) _
  refine ⟨KeepN.of_below eW, KpT.of_below eW, fun W2 hB2 => ?_⟩
  have k1 := builder_begun (builder_step g1 eW) hB2
  have hx2 := hB2.blk (Blk.new W 113 #[.int .i64 e.epoch, .int .i64 e.rep, .int .i64 e.num, .int .i32 e.char, .int .i64 e.hides])
  have k3 : Below w.heap.size w W2 := below_begun (g3.trans (eW.mono g3.size)) hB2 (by omega)
  generalize W.heap.size = xb at *
  have hchar : 0 ≤ e.char ∧ e.char ≤ 1114111 := by
   have := (H9.out e (List.mem_of_getElem? he)).char
   unfold rightC at this
   have := of_decide_eq_true this
   omega
  have hmap : viewOf ((pre ++ [(e, pre.length)]).map Prod.fst) = viewOf (pre.map Prod.fst) ++ e.says := by rw [List.map_append]; exact viewOf_snoc _ _
  have hlen : (Lib.byteCells (viewOf (pre.map Prod.fst))).length + 4 ≤ 140737488355328 := by
   have := viewOf_le (pre.map Prod.fst)
   rw [List.length_map] at this
   unfold Lib.byteCells
   rw [List.length_map]
   omega
  have Hmap := hid hmap
  have Hlen := hid hlen
  have HWt := hid (fun W => weight_any e W)
  have hG' := hid hG
  clear hmap hlen hG g1 g3 eW hB2 hrc he
  obtain ⟨x0, x1, x2, x3, x4, xl⟩ := Blk.five hx2
  by_cases hh : e.hides > 0
  · have hlv : e.live = 0 := by unfold El.live; rw [if_pos hh]
    have hsay : e.says = [] := by unfold El.says; rw [if_pos hh]
    rw [hlv, show ((0 : Nat) : Int) = 0 from rfl] at HWt
    clear hh hlv
    repeat' (first | (go_at_call 82; go_must ((with_reducible refine Calls.mono (HWt.out _) ?_); rintro _ w3 ⟨rfl, hb3⟩; dsimp only)) | ((with_reducible refine regionIn_ff ?_); refine wpIn_region_r rfl ?_) | go_step | (with_reducible refine NoO.normal ?_) | gi_step)
    refine ⟨KeepN.of_below hb3, KpT.of_below hb3, ?_, k3.trans (hb3.mono k3.size)⟩
    rw [Hmap.out, hsay, List.append_nil]
    exact builder_step k1 hb3
  · have hlv : e.live = 1 := by unfold El.live; rw [if_neg hh]
    have hsay : e.says = Lib.encodeRune e.char := by unfold El.says; rw [if_neg hh]
    rw [hlv, show ((1 : Nat) : Int) = 1 from rfl] at HWt
    clear hh hlv
    repeat' (first | (go_at_call 82; go_must ((with_reducible refine Calls.mono (HWt.out _) ?_); rintro _ w3 ⟨rfl, hb3⟩; have k13 := builder_step k1 hb3; obtain ⟨x0, x1, x2, x3, x4, xl⟩ := Blk.five (Blk.step hx2 hb3); dsimp only)) | (go_at_call 83; go_must ((with_reducible refine Calls.mono (writeRune_b w.heap.size w.heap.size _ e.char (by omega) (by omega) _ k13 Hlen.out (by have := k3.size; have := hb3.size; omega)) ?_); rintro _ w4 ⟨rfl, k4, hb4, ho4⟩; dsimp only)) | ((with_reducible refine regionIn_ff ?_); refine wpIn_region_r rfl ?_) | go_step | (with_reducible refine NoO.normal ?_) | gi_step)
    have k34 := (k3.trans (hb3.mono k3.size)).trans hb4
    have hoN : ∀ k o, W2.heap[k]? = some o → (∀ cs t z, o = Obj.cells cs t z → t ≠ 5 ∧ t ≠ 144) → w4.heap[k]? = some o := fun k o hk ho => others_at ho4 k13 ((hb3.block k (lt_of_heap hk)).trans hk) ho
    refine ⟨fun b o _ ho hc => hoN b o ho (fun cs t z e => by subst e; cases hc), ⟨Nat.le_trans hb3.size hb4.size, fun b _ hS _ => (hb4.block b hS).trans (hb3.block b (by omega)), fun b v _ hbx => ?_⟩, ?_, k34⟩
    · rcases hbx with hbx | hbx
      · exact (hoN b _ hbx (fun cs t z e => by injection e with _ e; subst e; decide)).trans hbx.symm
      · exact (hoN b _ hbx (fun cs t z e => by injection e with _ e; subst e; decide)).trans hbx.symm
    · rw [Hmap.out, hsay, show Lib.byteCells (viewOf (pre.map Prod.fst) ++ Lib.encodeRune e.char) = Lib.byteCells (viewOf (pre.map Prod.fst)) ++ Lib.runeCells e.char from by rw [← Lib.byteCells_encodeRune]; simp [Lib.byteCells]]
      exact .inr k4
 case done =>
  rintro xs W rfl ⟨g1, g3⟩
  exact ⟨by simpa using g1, g3⟩
 case end_ =>
  rintro D W hD ⟨g1, g3⟩ hK
  repeat' (first | (go_at_call 84; go_must ((with_reducible refine Calls.mono (bstring_b w.heap.size w.heap.size _ W g1 g3.size) ?_); rintro _ w4 ⟨rfl, hb4, ho4⟩; dsimp only)) | go_step)
  have hsA := others_at ho4 g1 hK (fun cs t z e => by cases e)
  refine leaves1 hsA (v := .string ⟨(viewOf T.all).toArray⟩) (by rintro w' rfl; simp [results, Tryz.results45, go_sem]) ⟨rfl, ?_⟩
  have g4 := g3.trans hb4
  exact ⟨g4.os, g4.tape, g4.output, by simpa using g4.size, fun k hk => (World.putObj_heap_other (by have := bZ.size; omega)).trans (g4.block k hk)⟩
end Go.Proofs.YteggpddlkkjmjaaGreatDoor
