/- Part of a proof: what functions of the program compute. Conditions: as each theorem says. -/
import Derived.Deep.DeepCutAuto
import Derived.LaidEql
import Derived.Laws.StructEq
import Derived.Maps.RangeWalk
import Derived.Test.YteggpddlkkjmjaaGreatDoorQ2
set_option linter.unusedSimpArgs false
set_option linter.unusedVariables false
set_option maxHeartbeats 4000000
set_option maxRecDepth 100000
namespace Go.Proofs.YteggpddlkkjmjaaGreatDoor
open Go Go.RowKit
theorem Parted.le {t l r : Tr} {i : Nat} {row : List El} (h : Parted t i l row r) (hi : i ≤ t.all.length) : l.all.length ≤ i ∧ i ≤ l.all.length + row.length := by
 have hl := h.len
 rcases h with ⟨_, _, _, h4, h5⟩ | ⟨h1, rfl, h3, _⟩
 · exact ⟨h4, by omega⟩
 · rw [all_of_eq h3]; simp; omega
def Mid (T : Tr) (i n : Nat) (ls : List El) (ta : Tr) (fs : List El) (tr : Tr) : Prop :=
 (∃ M, T.rows = ta.rows ++ M ++ tr.rows) ∧ ta.all ++ fs ++ tr.all = T.all.take i ++ ls ++ T.all.drop (i + n)
theorem Parted.all {t l r : Tr} {i : Nat} {row : List El} (h : Parted t i l row r) : t.all = l.all ++ row ++ r.all := by
 rcases h with ⟨_, _, h, _⟩ | ⟨_, rfl, h, hr⟩
 · rw [Tr.all_eq, h, Tr.all_eq, Tr.all_eq]; simp
 · rw [all_of_none hr, all_of_eq h]; simp
theorem Parted.mid {t l r : Tr} {i : Nat} {row : List El} (h : Parted t i l row r) : ∃ M, t.rows = l.rows ++ M ++ r.rows := by
 rcases h with ⟨_, _, h, _⟩ | ⟨_, rfl, h, hr⟩
 · exact ⟨[row], by rw [h]; simp⟩
 · exact ⟨[], by rw [h, hr]; simp⟩
theorem take_in (a b c : List El) (q : Nat) (h : q ≤ b.length) : (a ++ b ++ c).take (a.length + q) = a ++ b.take q := by
 rw [List.append_assoc, List.take_append, List.take_of_length_le (by omega)]
 congr 1
 rw [show a.length + q - a.length = q from by omega, List.take_append, show q - b.length = 0 from by omega]
 simp
theorem drop_in (a b c : List El) (q : Nat) (h : q ≤ b.length) : (a ++ b ++ c).drop (a.length + q) = b.drop q ++ c := by
 rw [List.append_assoc, List.drop_append, List.drop_of_length_le (by omega)]
 rw [show a.length + q - a.length = q from by omega, List.drop_append, show q - b.length = 0 from by omega]
 simp
theorem Mid.one {T ta tr : Tr} {q n : Nat} {x ls : List El} (h : Parted T (ta.all.length + q) ta x tr) (h1 : q + n ≤ x.length) : Mid T (ta.all.length + q) n ls ta (x.take q ++ ls ++ x.drop (q + n)) tr := by
 refine ⟨h.mid, ?_⟩
 rw [h.all, take_in _ _ _ _ (by omega), Nat.add_assoc, drop_in _ _ _ _ h1]
 simp
theorem Mid.two {T ta tr tg tr' : Tr} {q n r : Nat} {x y ls : List El} (h : Parted T (ta.all.length + q) ta x tr) (hq : q ≤ x.length) (h' : Parted tr (tg.all.length + r) tg y tr') (h2 : r ≤ y.length) (he : q + n = x.length + (tg.all.length + r)) :
 Mid T (ta.all.length + q) n ls ta (x.take q ++ ls ++ y.drop r) tr' := by
 obtain ⟨M, hM⟩ := h.mid
 obtain ⟨M', hM'⟩ := h'.mid
 refine ⟨⟨M ++ tg.rows ++ M', by rw [hM, hM']; simp⟩, ?_⟩
 have hd : (ta.all ++ x ++ tr.all).drop (ta.all.length + q + n) = tr.all.drop (tg.all.length + r) := by
  rw [show ta.all.length + q + n = (ta.all ++ x).length + (tg.all.length + r) from by simp; omega, List.drop_append, List.drop_of_length_le (by omega)]
  rw [show (ta.all ++ x).length + (tg.all.length + r) - (ta.all ++ x).length = tg.all.length + r from by omega]
  simp
 rw [h.all, take_in _ _ _ _ hq, hd, h'.all, drop_in _ _ _ _ h2]
 simp
theorem cutRows_flat (chunk : Nat) (es : List El) (h : 2 ≤ chunk) : (cutRows chunk es).flatten = es := by
 have h1 := cutUpto_flat chunk es (cutNo chunk es.length) (Nat.le_refl _) h
 show (cutUpto chunk es (cutNo chunk es.length)).flatten = es
 rw [h1]
 refine List.take_of_length_le ?_
 rcases Nat.eq_zero_or_pos es.length with h0 | h0
 · rw [h0]; exact Nat.zero_le _
 · have : 0 < cutNo chunk es.length := Nat.div_pos (by omega) (by omega)
   rw [Nat.mul_div_cancel_left _ this]
   exact Nat.le_refl _
def Mid2 (T : Tr) (i n : Nat) (ls : List El) (ta : Tr) (fs : List El) (tr : Tr) : Prop :=
 (∃ M, T.rows = ta.rows ++ M ++ tr.rows ∧ (ta.rows ≠ [] → ∃ x M', M = x :: M' ∧ x.length ≤ fs.length)) ∧ ta.all ++ fs ++ tr.all = T.all.take i ++ ls ++ T.all.drop (i + n)
def Mid3 (T : Tr) (i n : Nat) (ls : List El) (ta : Tr) (fs : List El) (tr : Tr) : Prop :=
 (∃ M, T.rows = ta.rows ++ M ++ tr.rows ∧ (ta.rows ≠ [] → ∃ x M', M = x :: M' ∧ x.length ≤ fs.length) ∧ (tr.rows ≠ [] → ∃ y M', M = M' ++ [y] ∧ y.length ≤ fs.length)) ∧ ta.all ++ fs ++ tr.all = T.all.take i ++ ls ++ T.all.drop (i + n)
theorem Mid.none2 {T tr : Tr} {i n : Nat} {ls fs : List El} (h : Mid T i n ls .nil fs tr) : Mid2 T i n ls .nil fs tr := by
 obtain ⟨⟨M, hM⟩, he⟩ := h
 exact ⟨⟨M, hM, fun h => absurd rfl h⟩, he⟩
theorem Mid.last2 {T ta t tr : Tr} {i n : Nat} {ls fs x : List El} (h : Mid T i n ls ta fs tr) (hl : ta.rows = t.rows ++ [x]) : Mid2 T i n ls t (x ++ fs) tr := by
 obtain ⟨⟨M, hM⟩, he⟩ := h
 refine ⟨⟨x :: M, by rw [hM, hl]; simp, fun _ => ⟨x, M, rfl, by simp⟩⟩, ?_⟩
 rw [← he, all_of_snoc hl]
 simp
theorem Mid2.none3 {T ta : Tr} {i n : Nat} {ls fs : List El} (h : Mid2 T i n ls ta fs .nil) : Mid3 T i n ls ta fs .nil := by
 obtain ⟨⟨M, hM, hx⟩, he⟩ := h
 exact ⟨⟨M, hM, hx, fun h => absurd rfl h⟩, he⟩
theorem Mid2.first3 {T ta t tr : Tr} {i n : Nat} {ls fs x : List El} (h : Mid2 T i n ls ta fs tr) (hl : tr.rows = x :: t.rows) : Mid3 T i n ls ta (fs ++ x) t := by
 obtain ⟨⟨M, hM, hx⟩, he⟩ := h
 refine ⟨⟨M ++ [x], by rw [hM, hl]; simp, fun h0 => ?_, fun _ => ⟨x, M, rfl, by simp⟩⟩, ?_⟩
 · obtain ⟨x', M', rfl, hle⟩ := hx h0
   exact ⟨x', M' ++ [x], by simp, by simp; omega⟩
 · rw [← he, all_of_cons hl]
   simp
def Changed (chunk : Nat) (T : Tr) (i n : Nat) (ls : List El) (T' : Tr) : Prop :=
 ∃ (X Y M : List (List El)) (fs : List El), T.rows = X ++ M ++ Y ∧ T'.rows = X ++ cutRows chunk fs ++ Y ∧ (X ≠ [] → ∃ x M', M = x :: M' ∧ x.length ≤ fs.length) ∧ (Y ≠ [] → ∃ y M', M = M' ++ [y] ∧ y.length ≤ fs.length) ∧
  X.flatten ++ fs ++ Y.flatten = T.all.take i ++ ls ++ T.all.drop (i + n)
theorem Mid3.changed {chunk : Nat} {T ta tr t t2 t3 : Tr} {i n : Nat} {ls fs : List El} (h : Mid3 T i n ls ta fs tr) (h1 : t.rows = cutRows chunk fs) (h2 : t2.rows = ta.rows ++ t.rows) (h3 : t3.rows = t2.rows ++ tr.rows) : Changed chunk T i n ls t3 := by
 obtain ⟨⟨M, hM, hx, hy⟩, he⟩ := h
 exact ⟨ta.rows, tr.rows, M, fs, hM, by rw [h3, h2, h1], hx, hy, by rw [← Tr.all_eq, ← Tr.all_eq]; exact he⟩
structure But (bt : Nat) (w w' : World) : Prop where
 os : w'.os = w.os
 tape : w'.tape = w.tape
 output : w'.output = w.output
 size : w.heap.size ≤ w'.heap.size
 block : ∀ k, k < w.heap.size → k ≠ bt → w'.heap[k]? = w.heap[k]?
theorem But.of_below {bt : Nat} {w w' : World} (h : Below w.heap.size w w') : But bt w w' := ⟨h.os, h.tape, h.output, h.size, fun k hk _ => h.block k hk⟩
theorem But.setCell {bt : Nat} {w w' : World} (h : But bt w w') (i : Nat) (v : Value) : But bt w (w'.setCell ⟨bt, i, none⟩ v) :=
 ⟨h.os, h.tape, h.output, by simp [World.setCell]; exact h.size, fun k hk hne => (Below.heap_setCell w' _ _ _ hne).trans (h.block k hk hne)⟩
theorem But.trans {bt : Nat} {a b c : World} (h : But bt a b) (k : But bt b c) : But bt a c :=
 ⟨k.os.trans h.os, k.tape.trans h.tape, k.output.trans h.output, Nat.le_trans h.size k.size, fun i hi hne => (k.block i (Nat.lt_of_lt_of_le hi h.size) hne).trans (h.block i hi hne)⟩
def ChangeRet (w : World) (S : Nat → Prop) (bt chunk : Nat) (R : Tr → Prop) (e : Ending) (w' : World) : Prop :=
 ∃ p' T', e = .returned (.tuple #[]) ∧ IsTree w' (Fr w S) T' p' ∧ Blk w' bt 157 #[.int .i64 chunk, .pointer p'] ∧ R T' ∧ But bt w w'
def C1 (w : World) (S : Nat → Prop) (R : Tr → List El → Tr → Prop) (s8 s10 s12 : Value) (wx : World) : Prop :=
 ∃ pa ta pr tr A n c fs ST, s8 = .pointer pa ∧ s10 = .pointer pr ∧ s12 = .slice A n c ∧ IsTree wx ST ta pa ∧ IsTree wx ST tr pr ∧ (∀ b, ST b → Fr w S b) ∧ (∀ b, ST b → Away A b) ∧ Own wx w.heap.size A n c fs ∧ Below w.heap.size w wx ∧ R ta fs tr
theorem change_any (T : Tr) (p : Option Addr) (bt chunk i n : Nat) (B : Option Addr) (m d : Nat) (ls : List El) (S SB : Nat → Prop) (w : World) (hblk : Blk w bt 157 #[.int .i64 chunk, .pointer p]) (hT : IsTree w S T p) (hbt : ¬ S bt)
 (hls : Row w SB B m d ls) (hbd : T.all.length + m ≤ 1073741824) (hi : i + n ≤ T.all.length) (hc2 : 2 ≤ chunk) (hc64 : chunk ≤ 64) :
 Calls Tryz.prog 127 #[.pointer (some ⟨bt, 0, none⟩), .int .i64 i, .int .i64 n, .slice B m d] w (ChangeRet w S bt chunk (Changed chunk T i n ls)) := by
 obtain ⟨hz0, hz1, hf0, hf1⟩ := hblk.two
 have hsz := hblk.lt
 have hlm : ls.length ≤ m := Nat.le_of_eq hls.1
 have HT := hid (parted_any T i p S w hT (by omega) (by omega))
 go_enter Tryz.func127, Tryz.ntmps127
 repeat' (first | (with_reducible refine stop_if 47 ?_) | (go_at_call 145; (with_reducible refine (Calls.mono HT.out ?_)); rintro _ w1 ⟨pa, ta, A1, n1, c1, x, pr, tr, rfl, hta, hrx, htr, hq1, hb1⟩; have Hq := hid hq1; have hq1' := trivial; have hal := hid hq1.len; obtain ⟨hle1, hle2⟩ := hq1.le (by omega); obtain ⟨q, rfl⟩ := Nat.exists_eq_add_of_le hle1; clear hq1; have hn1 := hrx.1; have hcap := hrx.2.1; obtain rfl : x.length = n1 := hn1; dsimp only) | (go_at_call 117; (with_reducible refine (size_any ta pa (Fr w S) _ hta).mono ?_); rintro _ _ ⟨rfl, rfl⟩; dsimp only) | ((with_reducible refine append_here ?_); (try simp only [Nat.add_sub_cancel_left]); first | (refine wp_append_nil A1 q c1 (x.take q) (Fr w S) (by rfl) (by rfl) (hrx.take_ (by omega)) (by omega) ?_; intro A2 c2 w2 hown2 hb2; have hm2 := hown2.mono hb1.size; have hs2 := Nat.le_trans hb1.size hb2.size) | (refine wp_append_el w.heap.size A2 B q c2 m d (x.take q) ls SB (by rfl) (by rfl) hm2 ((hls.step hb1).step hb2) hs2 (by omega) ?_; intro A3 c3 w3 hown3 hb3 hsm3 hat3 hz3)) | go_step)
 refine Stop.go ?_
 have hta2 := hta.before hb2 hown2
 have htr2 := htr.before hb2 hown2
 have hrx2 := hrx.before hb2 hown2
 have hta3 := hta2.apart (fun b h => h.2) hsm3 hat3
 have htr3 := htr2.apart (fun b h => h.2) hsm3 hat3
 have hrx3 := hrx2.apart (fun b h => h.2) hsm3 hat3
 have hs3 := Nat.le_trans hs2 hz3
 have hB3 : Below w.heap.size w w3 := hb1.trans ((hb2.mono hb1.size).trans hb3)
 rw [show ((ta.all.length : Int) + q + n - ta.all.length) = q + n from by omega]
 go_cut [8, 10, 12] (C1 w S (Mid T (ta.all.length + q) n ls))
 case first =>
  by_cases h1 : q + n ≤ x.length
  · have i1 : (q : Int) + n ≤ x.length := by omega
    repeat' (first | ((with_reducible refine append_here ?_); refine wp_append_el w.heap.size A3 _ (q + m) c3 _ _ (x.take q ++ ls) (x.drop (q + n)) (fun b => (Fr w S b ∧ Away A2 b) ∧ Away A3 b) (by rfl) (by rfl) hown3 (hrx3.drop_ h1) hs3 (by have := hal.out; omega) ?_; intro A4 c4 w4 hown4 hb4 hsm4 hat4 hz4) | go_step)
    go_meet
    case rel =>
     refine ⟨pa, ta, pr, tr, A4, _, c4, _, _, rfl, rfl, rfl, hta3.apart (fun b h => h.2) hsm4 hat4, htr3.apart (fun b h => h.2) hsm4 hat4, fun b h => h.1.1.1, fun b h => h.2, hown4, hB3.trans hb4, ?_⟩
     exact Mid.one Hq.out h1
  · obtain ⟨E, hE⟩ : ∃ E, q + n = x.length + E := ⟨q + n - x.length, by omega⟩
    have hcast : ((x.length : Int) + E - x.length) = ((E : Nat) : Int) := by omega
    have HP := hid (parted_any tr E pr _ w3 htr3 (by have := hal.out; omega) (by have := hal.out; omega))
    rw [← hcast] at HP
    have i1 : (x.length : Int) < x.length + E := by omega
    have hx30 : x.length ≤ 1073741824 := by have := hal.out; omega
    have hE30 : E ≤ 1073741824 := by have := hal.out; omega
    have hEl : E ≤ tr.all.length := by have := hal.out; omega
    rw [show ((q : Int) + n) = x.length + E from by omega]
    have HE := hid hE
    clear hE hcast
    repeat' (first | (with_reducible refine stop_append ?_) | (go_at_call 145; (with_reducible refine (Calls.mono HP.out ?_)); rintro _ w4 ⟨pg, tg, A5, n5, c5, y, pr', tr', rfl, htg, hry, htr4, hq4, hb4⟩; have Hq4 := hid hq4; have hal4 := hid hq4.len; obtain ⟨hle4, hle5⟩ := hq4.le hEl; obtain ⟨r, rfl⟩ := Nat.exists_eq_add_of_le hle4; clear hq4; have hcap5 := hry.2.1; obtain rfl : y.length = n5 := hry.1; dsimp only) | (go_at_call 117; (with_reducible refine (size_any tg pg _ _ htg).mono ?_); rintro _ _ ⟨rfl, rfl⟩; dsimp only) | go_step)
    · refine Stop.go ?_
      simp only [Nat.add_sub_cancel_left]
      have hown4 := hown3.keep (S := fun _ => True) (Same.of_below hb4) (fun _ _ => trivial)
      have hs4 := Nat.le_trans hs3 hb4.size
      have haw := Away.fr hown3 (ST := fun b => (Fr w S b ∧ Away A2 b) ∧ Away A3 b) (fun b h => h.2)
      refine wp_append_el w.heap.size A3 _ (q + m) c3 _ _ (x.take q ++ ls) (y.drop r) _ (by rfl) (by rfl) hown4 (hry.drop_ (k := r) (by omega)) hs4 (by have := hal.out; have := hal4.out; omega) ?_
      intro A6 c6 w6 hown6 hb6 hsm6 hat6 hz6
      repeat' (first | go_step)
      go_meet
      case rel =>
       refine ⟨pa, ta, pr', tr', A6, _, c6, _, _, rfl, rfl, rfl, (hta3.step hb4).fr.apart haw hsm6 hat6, htr4.apart haw hsm6 hat6, ?_, fun b h => h.2, hown6, (hB3.trans (hb4.mono hs3)).trans hb6, ?_⟩
       · rintro b ⟨h | h, _⟩
         · exact h.1.1
         · exact .inr (by omega)
       · exact Mid.two Hq.out (by omega) Hq4.out (by omega) HE.out
    · go_meet
      case rel =>
       have hy0 : y = [] := List.eq_nil_of_length_eq_zero (by omega)
       have haw := Away.fr hown3 (ST := fun b => (Fr w S b ∧ Away A2 b) ∧ Away A3 b) (fun b h => h.2)
       refine ⟨pa, ta, pr', tr', A3, _, c3, _, _, rfl, rfl, rfl, (hta3.step hb4).fr, htr4, ?_, haw, hown3.keep (S := fun _ => True) (Same.of_below hb4) (fun _ _ => trivial), hB3.trans (hb4.mono hs3), ?_⟩
       · rintro b (h | h)
         · exact h.1.1
         · exact .inr (by omega)
       · have h := Mid.two (ls := ls) Hq.out (by omega) Hq4.out (by omega) HE.out
         rw [hy0] at h
         simpa using h
 case rest =>
  clear hb1 hb2 hm2 hs2 hown3 hb3 hsm3 hat3 hz3 hta2 htr2 hrx2 hta3 htr3 hrx3 hs3 hB3 hown2 hta htr hrx hcap hT HT hls
  obtain ⟨pa, ta1, pr, tr1, A, k, c, fs, ST, rfl, rfl, rfl, hta, htr, hST, haw, hown, hB, hmid⟩ := hcut
  have hel := congrArg List.length hmid.2
  have Hmid := hid hmid
  clear hmid
  simp only [List.length_append, List.length_take, List.length_drop] at hel
  repeat' (first | (with_reducible refine stop_if 76 ?_) | go_step)
  refine Stop.go ?_
  go_cut [8, 12] (fun s8 s12 wx => C1 w S (Mid2 T (ta.all.length + q) n ls) s8 (.pointer pr) s12 wx)
  case first =>
   cases ta1 with
   | nil =>
    obtain rfl := hta
    repeat' (first | go_step)
    go_meet
    case rel => exact ⟨none, .nil, pr, tr1, A, _, c, fs, ST, rfl, rfl, rfl, rfl, htr, hST, haw, hown, hB, Mid.none2 Hmid.out⟩
   | node ll lrow lr =>
    obtain ⟨b', hpa⟩ : ∃ b', pa = some ⟨b', 0, none⟩ := by obtain ⟨_, b', _, _, _, _, _, e, _⟩ := id hta; exact ⟨b', e⟩
    subst hpa
    have IH := hid (last_any ll lr lrow (some ⟨b', 0, none⟩) ST wc hta (by omega))
    repeat' (first | (go_at_call 146; (with_reducible refine (Calls.mono IH.out ?_)); rintro _ w5 ⟨p5, t5, A5, n5, c5, x5, rfl, ht5, hr5, hne5, hq5, hb5⟩; have Hq5 := hid hq5; have hal := hid (all_of_snoc hq5); clear hq5; obtain rfl : x5.length = n5 := hr5.1; have hs5 := Nat.le_trans hB.size hb5.size; have hown5 := hown.keep (S := fun _ => True) (Same.of_below hb5) (fun _ _ => trivial); dsimp only) | ((with_reducible refine append_here ?_); first | (refine wp_append_nil A5 _ c5 x5 (Fr wc ST) (by rfl) (by rfl) hr5 (by have := congrArg List.length hal.out; simp only [List.length_append] at this; omega) ?_; intro A6 c6 w6 hown6 hb6; have hm6 := hown6.mono hs5; have hs6 := Nat.le_trans hs5 hb6.size; have hfr6 := (hown5.keep (S := fun _ => True) (Same.of_below hb6) (fun _ _ => trivial)).row (S := fun _ => True) (fun _ _ _ => trivial)) | (refine wp_append_el w.heap.size A6 A x5.length c6 k c x5 fs (fun _ => True) (by rfl) (by rfl) hm6 hfr6 hs6 (by have := congrArg List.length hal.out; simp only [List.length_append] at this; have := hown.1; omega) ?_; intro A7 c7 w7 hown7 hb7 hsm7 hat7 hz7)) | go_step)
    go_meet
    case rel =>
     refine ⟨p5, t5, pr, tr1, A7, _, c7, _, _, rfl, rfl, rfl, (ht5.before hb6 hown6).apart (fun b h => h.2) hsm7 hat7, ((htr.step hb5).fr.before hb6 hown6).apart (fun b h => h.2) hsm7 hat7, ?_, fun b h => h.2, hown7, (hB.trans ((hb5.mono hB.size).trans (hb6.mono hs5))).trans hb7, Mid.last2 Hmid.out Hq5.out⟩
     rintro b ⟨⟨h | h, _⟩, _⟩
     · exact hST b h
     · exact .inr (Nat.le_trans hB.size h)
  case rest =>
   clear hta htr hST haw hown hB hel Hmid
   obtain ⟨pa, ta1, pr, tr1, A, k, c, fs, ST, rfl, e1, rfl, hta, htr, hST, haw, hown, hB, hmid⟩ := hcut
   injection e1 with e1
   subst e1
   have hel := congrArg List.length hmid.2
   have Hmid := hid hmid
   clear hmid
   simp only [List.length_append, List.length_take, List.length_drop] at hel
   have hfl := hown.1
   repeat' (first | (with_reducible refine stop_if 87 ?_) | go_step)
   refine Stop.go ?_
   go_cut [10, 12] (fun s10 s12 wx => C1 w S (Mid3 T (ta.all.length + q) n ls) (.pointer pa) s10 s12 wx)
   case first =>
    cases tr1 with
    | nil =>
     obtain rfl := htr
     repeat' (first | go_step)
     go_meet
     case rel => exact ⟨pa, ta1, none, .nil, A, _, c, fs, ST, rfl, rfl, rfl, hta, rfl, hST, haw, hown, hB, Mid2.none3 Hmid.out⟩
    | node ll lrow lr =>
     obtain ⟨b', hpa⟩ : ∃ b', pr = some ⟨b', 0, none⟩ := by obtain ⟨_, b', _, _, _, _, _, e, _⟩ := id htr; exact ⟨b', e⟩
     subst hpa
     have IH := hid (first_any ll lr lrow (some ⟨b', 0, none⟩) ST wc htr (by omega))
     repeat' (first | (go_at_call 147; (with_reducible refine (Calls.mono IH.out ?_)); rintro _ w5 ⟨p5, t5, A5, n5, c5, x5, rfl, ht5, hr5, hne5, hq5, hb5⟩; have Hq5 := hid hq5; have hal := hid (all_of_cons hq5); clear hq5; obtain rfl : x5.length = n5 := hr5.1; have hs5 := Nat.le_trans hB.size hb5.size; have hown5 := hown.keep (S := fun _ => True) (Same.of_below hb5) (fun _ _ => trivial); dsimp only) | ((with_reducible refine append_here ?_); refine wp_append_el w.heap.size A A5 k c x5.length c5 fs x5 (Fr wc ST) (by rfl) (by rfl) hown5 hr5 hs5 (by have := congrArg List.length hal.out; simp only [List.length_append] at this; have := hown.1; omega) ?_; intro A7 c7 w7 hown7 hb7 hsm7 hat7 hz7) | go_step)
     go_meet
     case rel =>
      have haw5 := Away.fr hown haw
      refine ⟨pa, ta1, p5, t5, A7, _, c7, _, _, rfl, rfl, rfl, (hta.step hb5).fr.apart haw5 hsm7 hat7, ht5.apart haw5 hsm7 hat7, ?_, fun b h => h.2, hown7, (hB.trans (hb5.mono hB.size)).trans hb7, Mid2.first3 Hmid.out Hq5.out⟩
      rintro b ⟨h | h, _⟩
      · exact hST b h
      · exact .inr (Nat.le_trans hB.size h)
   case rest =>
    clear hta htr hST haw hown hB hel Hmid hfl
    obtain ⟨pa, ta1, pr, tr1, A, k, c, fs, ST, e1, rfl, rfl, hta, htr, hST, haw, hown, hB, hmid⟩ := hcut
    injection e1 with e1
    subst e1
    have hel := congrArg List.length hmid.2
    have Hmid := hid hmid
    clear hmid
    simp only [List.length_append, List.length_take, List.length_drop] at hel
    have hfl := hown.1
    have hblk8 := hblk.below hB hsz
    obtain ⟨hz0, hz1, hf0, hf1⟩ := hblk8.two
    have hsz8 := hblk8.lt
    have hrf : Row wc (fun b => w.heap.size ≤ b ∧ b < wc.heap.size) A k c fs := hown.row (fun b h1 h2 => ⟨h1, h2⟩)
    have hBs := hB.size
    repeat' (first | (go_at_call 149; (with_reducible refine (cut_any A k c chunk fs _ wc hrf (by omega) hc2 hc64).mono ?_); rintro _ w5 ⟨p5, t5, rfl, ht5, hq5, hb5⟩; have Hq5 := hid hq5; have h5l : t5.all.length ≤ fs.length := (by rw [Tr.all_eq, hq5, cutRows_flat _ _ hc2]; exact Nat.le_refl _); clear hq5; have ht5' : IsTree w5 (Fr w S) t5 p5 := ht5.more (fun b _ h => .inr (by rcases h with h | h; exact h.1; omega)); have hta5 : IsTree w5 (Fr w S) ta1 pa := (hta.step hb5).more (fun b _ h => hST b h); dsimp only) | (go_at_call 148; first | ((with_reducible refine (both_any ta1 t5 pa p5 (Fr w S) _ hta5 ht5' (by omega)).mono ?_); rintro _ w6 ⟨p6, t6, rfl, ht6, hq6, hb6⟩; have Hq6 := hid hq6; have h6l : t6.all.length ≤ ta1.all.length + t5.all.length := (by rw [all_of_rows hq6, List.length_append]; exact Nat.le_refl _); clear hq6; have hs6 := Nat.le_trans hBs hb5.size; have ht6' : IsTree w6 (Fr w S) t6 p6 := ht6.more (fun b _ h => Fr.shrink hs6 b h); have htr6 : IsTree w6 (Fr w S) tr1 pr := ((htr.step hb5).step hb6).more (fun b _ h => hST b h); dsimp only) | ((with_reducible refine (both_any t6 tr1 p6 pr (Fr w S) _ ht6' htr6 (by omega)).mono ?_); rintro _ w7 ⟨p7, t7, rfl, ht7, hq7, hb7⟩; have Hq7 := hid hq7; clear hq7; have hb58 := hb5.trans ((hb6.mono hb5.size).trans (hb7.mono (Nat.le_trans hb5.size hb6.size))); obtain ⟨hc7, hg7⟩ := bcell hb58; dsimp only)) | go_step)
    go_end0
    have hnb : ¬ Fr w S bt := by rintro (h | h); exact hbt h; omega
    have ht7' : IsTree w7 (Fr w S) t7 p7 := ht7.more (fun b _ h => Fr.shrink (Nat.le_trans hs6 hb6.size) b h)
    refine ⟨p7, t7, rfl, ht7'.keep (Same.setCell _ hnb _), ((hblk8.below hb58 hsz8).set_ 1 _), Mid3.changed Hmid.out Hq5.out Hq6.out Hq7.out, ?_⟩
    exact ((But.of_below hB).trans (But.of_below hb58)).setCell _ _
def gOf : Nat → Nat
 | 1 => 1
 | 2 => 0
 | 3 => 5
 | 4 => 6
 | 5 => 7
 | 6 => 2
 | 7 => 8
 | 8 => 4
 | 9 => 3
 | 10 => 9
 | 11 => 10
 | 12 => 11
 | 13 => 12
 | _ => 0
abbrev reason (a : Addr) : Value := .iface 228 (.pointer (some a))
structure Sents (w : World) (S : Nat → Prop) (a : Nat → Addr) : Prop where
 cell : ∀ k, 1 ≤ k → k ≤ 13 → w.cell? ⟨gOf k, 0, none⟩ = some (reason (a k))
 gIn : ∀ k, 1 ≤ k → k ≤ 13 → S (gOf k)
 aIn : ∀ k, 1 ≤ k → k ≤ 13 → S (a k).block
 inj : ∀ j k, 1 ≤ j → j ≤ 13 → 1 ≤ k → k ≤ 13 → a j = a k → j = k
 plain : ∀ k, 1 ≤ k → k ≤ 13 → ∃ cs t, w.heap[(a k).block]? = some (.cells cs t (0, 0))
theorem Sents.keep {w w' : World} {S : Nat → Prop} {a : Nat → Addr} (h : Sents w S a) (hk : Same S w w') : Sents w' S a :=
 ⟨fun k h1 h2 => hk.cell (a := ⟨gOf k, 0, none⟩) (h.gIn k h1 h2) (h.cell k h1 h2), h.gIn, h.aIn, h.inj, fun k h1 h2 => by
  obtain ⟨cs, t, e⟩ := h.plain k h1 h2
  exact ⟨cs, t, (hk _ (h.aIn k h1 h2) (lt_of_heap' e)).trans e⟩⟩
theorem Sents.step {w w' : World} {S : Nat → Prop} {a : Nat → Addr} (h : Sents w S a) (hb : Below w.heap.size w w') : Sents w' S a := h.keep (Same.of_below hb)
theorem Sents.drew {w : World} {S : Nat → Prop} {a : Nat → Addr} (h : Sents w S a) : Sents w.drew S a := h.keep (Same.drew _ _)
structure Lk where
 layer : ByteArray
 call : ByteArray
 at_ : Int
instance : Enc Lk where
 k := 3
 cells l := [.string l.layer, .string l.call, .int .i64 l.at_]
 len _ := rfl
 one := by
  intro a u hu
  simp only [List.mem_cons, List.not_mem_nil, or_false] at hu
  rcases hu with rfl | rfl | rfl <;> rfl
instance : Enc Int where
 k := 1
 cells x := [.int .i64 x]
 len _ := rfl
 one := by
  intro a u hu
  simp only [List.mem_cons, List.not_mem_nil, or_false] at hu
  subst hu
  rfl
def IsErr (w : World) (S : Nat → Prop) (a : Nat → Addr) : List Lk → Nat → Value → Prop
 | [], code, e => 1 ≤ code ∧ code ≤ 13 ∧ e = reason (a code)
 | l :: r, code, e => ∃ g v, e = .iface 151 (.pointer (some ⟨g, 0, none⟩)) ∧ S g ∧ Blk w g 153 #[.string l.layer, .string l.call, .int .i64 l.at_, v] ∧ IsErr w S a r code v
theorem IsErr.keep {w w' : World} {S : Nat → Prop} {a : Nat → Addr} (hk : Same S w w') : ∀ {ch : List Lk} {code : Nat} {e : Value}, IsErr w S a ch code e → IsErr w' S a ch code e := by
 intro ch
 induction ch with
 | nil => intro code e h; exact h
 | cons l r ih =>
  rintro code e ⟨g, v, rfl, hs, hb, h⟩
  exact ⟨g, v, rfl, hs, hb.keep hs hk, ih h⟩
theorem IsErr.more {w : World} {S S' : Nat → Prop} {a : Nat → Addr} (hs : ∀ b, b < w.heap.size → S b → S' b) : ∀ {ch : List Lk} {code : Nat} {e : Value}, IsErr w S a ch code e → IsErr w S' a ch code e := by
 intro ch
 induction ch with
 | nil => intro code e h; exact h
 | cons l r ih =>
  rintro code e ⟨g, v, rfl, hs', hb, h⟩
  exact ⟨g, v, rfl, hs _ hb.lt hs', hb, ih h⟩
theorem IsErr.step {w w' : World} {S : Nat → Prop} {a : Nat → Addr} {ch : List Lk} {code : Nat} {e : Value} (h : IsErr w S a ch code e) (hb : Below w.heap.size w w') : IsErr w' S a ch code e := h.keep (Same.of_below hb)
theorem IsErr.notNil {w : World} {S : Nat → Prop} {a : Nat → Addr} {ch : List Lk} {code : Nat} {e : Value} (h : IsErr w S a ch code e) : ∃ t x, e = .iface t (.pointer (some x)) := by
 cases ch with
 | nil => exact ⟨_, _, h.2.2⟩
 | cons l r => obtain ⟨g, v, rfl, _⟩ := h; exact ⟨_, _, rfl⟩
theorem new_nil (l c : ByteArray) (n : Int) (w : World) :
 Calls Tryz.prog 51 #[.string l, .string c, .int .i64 n, .nilIface] w fun e w' => e = .returned .nilIface ∧ w = w' := by
 go_enter Tryz.func51, Tryz.ntmps51
 go_wp2
 go_ret
 exact ⟨rfl, rfl⟩
theorem new_any (l c : ByteArray) (n : Int) (t : TypeId) (x : Option Addr) (w : World) :
 Calls Tryz.prog 51 #[.string l, .string c, .int .i64 n, .iface t (.pointer x)] w fun e w' => ∃ g, e = .returned (.iface 151 (.pointer (some ⟨g, 0, none⟩))) ∧ w.heap.size ≤ g ∧
  Blk w' g 153 #[.string l, .string c, .int .i64 (if n < -1 then -1 else n), .iface t (.pointer x)] ∧ Below w.heap.size w w' := by
 go_enter Tryz.func51, Tryz.ntmps51
 go_wp2
 all_goals go_ret
 all_goals exact ⟨w.heap.size, rfl, Nat.le_refl _, Blk.new _ _ _, (Below.refl _ _).alloc (Nat.le_refl _) _⟩
theorem named_any (k : Nat) (h1 : 1 ≤ k) (h2 : k ≤ 13) (v : Value) (w : World) (hv : w.cell? ⟨gOf k, 0, none⟩ = some v) :
 Calls Tryz.prog 132 #[.int .i64 k] w fun e w' => e = .returned v ∧ w = w' := by
 rcases (show k = 1 ∨ k = 2 ∨ k = 3 ∨ k = 4 ∨ k = 5 ∨ k = 6 ∨ k = 7 ∨ k = 8 ∨ k = 9 ∨ k = 10 ∨ k = 11 ∨ k = 12 ∨ k = 13 from by omega) with rfl | rfl | rfl | rfl | rfl | rfl | rfl | rfl | rfl | rfl | rfl | rfl | rfl
 all_goals
  simp only [gOf] at hv
  go_enter Tryz.func132, Tryz.ntmps132
  go_wp2
  go_ret
  exact ⟨rfl, rfl⟩
theorem Tryz.compES : (Tryz.prog.info? 228).map (·.comparable) = some true := by kernel_rfl
theorem Tryz.sizeES : (Tryz.prog.info? 242).map (fun i => decide (i.size = 0)) = some false := by kernel_rfl
theorem eq_reason {w : World} {S : Nat → Prop} {a : Nat → Addr} (h : Sents w S a) {j k : Nat} (h1 : 1 ≤ j) (h2 : j ≤ 13) (h3 : 1 ≤ k) (h4 : k ≤ 13) :
 (binOp .eql 39 (reason (a j)) (reason (a k))).run Tryz.prog w = .ok (.bool (decide (j = k))) w := by
 obtain ⟨i, hi, hc⟩ := Option.map_eq_some_iff.1 Tryz.compES
 obtain ⟨m, hm, hz⟩ := Option.map_eq_some_iff.1 Tryz.sizeES
 by_cases e : j = k
 · subst e
   rw [decide_eq_true rfl]
   exact run_eql_iface_ptr_same w (a j) Tryz.underlying39 Tryz.underlying228 hi hc hm
 · rw [decide_eq_false e]
   obtain ⟨cs, t, hb⟩ := h.plain j h1 h2
   obtain ⟨cs', t', hb'⟩ := h.plain k h3 h4
   exact run_eql_iface_ptr_other w Tryz.underlying39 Tryz.underlying228 hi hc hm (of_decide_eq_false hz) (fun e' => e (h.inj j k h1 h2 h3 h4 e')) hb hb'
theorem eq_fault {w : World} (x : Option Addr) (y : Addr) : (binOp .eql 39 (.iface 151 (.pointer x)) (reason y)).run Tryz.prog w = .ok (.bool false) w := by
 have h : ∀ d : Nat, (Op.equalIn (d + 2) 39 (.iface 151 (.pointer x)) (reason y)).run Tryz.prog w = .ok false w := fun d => by
  simp [Op.equalIn, reason, run_underlying Tryz.underlying39]
 simp only [binOp]
 simp [Op.equal, Op.maxDepth, h 9998]
theorem number_reason (j : Nat) (h1 : 1 ≤ j) (h2 : j ≤ 13) (S : Nat → Prop) (a : Nat → Addr) (w : World) (hs : Sents w S a) :
 Calls Tryz.prog 99 #[reason (a j)] w fun e w' => e = .returned (.int .i64 j) ∧ w = w' := by
 go_enter Tryz.func99, Tryz.ntmps99
 go_wp2
 go_loopw [3] (fun i wr => ∃ k : Nat, i = .int .i64 k ∧ 1 ≤ k ∧ k ≤ j ∧ w = wr) (fun i _ => 14 - (intOf i).toNat)
 case atStart => exact ⟨1, rfl, Nat.le_refl _, h1, rfl⟩
 case round =>
  obtain ⟨k, rfl, hk1, hk2, rfl⟩ := hrel
  have hq := hid (eq_reason hs h1 h2 hk1 (show k ≤ 13 by omega))
  by_cases e : j = k
  · subst e
    repeat' (first | (go_at_call 132; (with_reducible refine (named_any j h1 h2 _ w (hs.cell j h1 h2)).mono ?_); rintro _ _ ⟨rfl, rfl⟩; dsimp only) | (rw [hq.out]) | go_step | go_upon)
    go_ret
    exact ⟨rfl, rfl⟩
  · repeat' (first | (go_at_call 132; (with_reducible refine (named_any k hk1 (by omega) _ w (hs.cell k hk1 (by omega))).mono ?_); rintro _ _ ⟨rfl, rfl⟩; dsimp only) | (rw [hq.out]) | go_step | go_upon)
    go_roundw
    case rel => exact ⟨k + 1, by go_num, by omega, by omega, trivial⟩
    case measure => simp [intOf]; omega
theorem number_fault (x : Option Addr) (S : Nat → Prop) (a : Nat → Addr) (w : World) (hs : Sents w S a) :
 Calls Tryz.prog 99 #[.iface 151 (.pointer x)] w fun e w' => e = .returned (.int .i64 0) ∧ w = w' := by
 go_enter Tryz.func99, Tryz.ntmps99
 go_wp2
 go_loopw [3] (fun i wr => ∃ k : Nat, i = .int .i64 k ∧ 1 ≤ k ∧ k ≤ 14 ∧ w = wr) (fun i _ => 14 - (intOf i).toNat)
 case atStart => exact ⟨1, rfl, Nat.le_refl _, by omega, rfl⟩
 case round =>
  obtain ⟨k, rfl, hk1, hk2, rfl⟩ := hrel
  by_cases e : k ≤ 13
  · have hq := hid (eq_fault (w := w) x (a k))
    repeat' (first | (go_at_call 132; (with_reducible refine (named_any k hk1 (by omega) _ w (hs.cell k hk1 (by omega))).mono ?_); rintro _ _ ⟨rfl, rfl⟩; dsimp only) | (rw [hq.out]) | go_step | go_upon)
    go_roundw
    case rel => exact ⟨k + 1, by go_num, by omega, by omega, trivial⟩
    case measure => simp [intOf]; omega
  · obtain rfl : k = 14 := by omega
    go_wp2
    go_ret
    exact ⟨rfl, rfl⟩
variable {S : Nat → Prop} {a : Nat → Addr}
@[go_sem] theorem as_ff (v : Value) (w : World) : (Instr.typeAssert (.iface 151 v) 39 151 true).run Tryz.prog w = .ok (.tuple #[v, .bool true]) w := by kernel_rfl
@[go_sem] theorem as_ef (v : Value) (w : World) : (Instr.typeAssert (.iface 228 v) 39 151 true).run Tryz.prog w = .ok (.tuple #[.pointer none, .bool false]) w := by kernel_rfl
@[go_sem] theorem as_em (v : Value) (w : World) : (Instr.typeAssert (.iface 228 v) 39 197 true).run Tryz.prog w = .ok (.tuple #[.pointer none, .bool false]) w := by kernel_rfl
theorem unwrap_any (l : Lk) (g : Nat) (v : Value) (w : World) (hb : Blk w g 153 #[.string l.layer, .string l.call, .int .i64 l.at_, v]) :
 Calls Tryz.prog 130 #[.pointer (some ⟨g, 0, none⟩)] w fun e w' => e = .returned v ∧ w = w' := by
 have h3 : w.cell? ⟨g, 3, none⟩ = some v := hb.cell 3
 go_enter Tryz.func130, Tryz.ntmps130
 go_wp2
 go_ret
 exact ⟨rfl, rfl⟩
theorem code1_reason (j : Nat) (h1 : 1 ≤ j) (h2 : j ≤ 13) (cb : Nat) (x : Int) (w : World) (hs : Sents w S a) (hc : Blk w cb 3 #[.int .i64 x]) :
 Calls Tryz.prog 98 #[reason (a j), .pointer (some ⟨cb, 0, none⟩)] w fun e w' => e = .returned (.bool false) ∧ w' = w.setCell ⟨cb, 0, none⟩ (.int .i64 j) := by
 have c0 : w.cell? ⟨cb, 0, none⟩ = some (.int .i64 x) := hc.cell 0
 have f0 := hc.frozen 0
 go_enter Tryz.func98, Tryz.ntmps98
 repeat' (first | (go_at_call 99; (with_reducible refine (number_reason j h1 h2 S a w hs).mono ?_); rintro _ _ ⟨rfl, rfl⟩; dsimp only) | go_step)
 go_ret
 refine ⟨?_, rfl⟩
 show Ending.returned (.bool ((j : Int) == 0)) = _
 rw [show ((j : Int) == 0) = false from by simp; omega]
theorem code1_fault (x : Option Addr) (p : Option Addr) (w : World) (hs : Sents w S a) :
 Calls Tryz.prog 98 #[.iface 151 (.pointer x), .pointer p] w fun e w' => e = .returned (.bool true) ∧ w = w' := by
 go_enter Tryz.func98, Tryz.ntmps98
 repeat' (first | (go_at_call 99; (with_reducible refine (number_fault x S a w hs).mono ?_); rintro _ _ ⟨rfl, rfl⟩; dsimp only) | go_step)
 go_ret
 exact ⟨rfl, rfl⟩
theorem codes1_fault (x : Option Addr) (p : Option Addr) (w : World) (hs : Sents w S a) :
 Calls Tryz.prog 101 #[.iface 151 (.pointer x), .pointer p] w fun e w' => e = .returned (.bool true) ∧ w = w' := by
 go_enter Tryz.func101, Tryz.ntmps101
 repeat' (first | (go_at_call 99; (with_reducible refine (number_fault x S a w hs).mono ?_); rintro _ _ ⟨rfl, rfl⟩; dsimp only) | go_step)
 go_ret
 exact ⟨rfl, rfl⟩
theorem through_code (cb : Nat) (x : Int) (code : Nat) : ∀ (ch : List Lk) (v : Value) (w : World), IsErr w S a ch code v → Sents w S a → Blk w cb 3 #[.int .i64 x] →
 Calls Tryz.prog 97 #[v, .func (.func 98) #[] #[.pointer (some ⟨cb, 0, none⟩)]] w fun e w' => e = .returned (.bool false) ∧ w' = w.setCell ⟨cb, 0, none⟩ (.int .i64 code) := by
 intro ch
 induction ch with
 | nil =>
  rintro v w ⟨h1, h2, rfl⟩ hs hc
  go_enter Tryz.func97, Tryz.ntmps97
  repeat' (first | (go_at_call 98; (with_reducible refine (code1_reason code h1 h2 cb x w hs hc).mono ?_); rintro _ _ ⟨rfl, rfl⟩; dsimp only) | go_step)
  go_ret
  exact ⟨rfl, rfl⟩
 | cons l r ih =>
  rintro v w ⟨g, v, rfl, hg, hb, he⟩ hs hc
  have Hih := hid (ih v w he hs hc)
  clear ih
  go_enter Tryz.func97, Tryz.ntmps97
  repeat' (first | (go_at_call 98; (with_reducible refine (code1_fault _ _ w hs).mono ?_); rintro _ _ ⟨rfl, rfl⟩; dsimp only) | (go_at_call 130; (with_reducible refine (unwrap_any l g v w hb).mono ?_); rintro _ _ ⟨rfl, rfl⟩; dsimp only) | (go_at_call 97; (with_reducible refine (Calls.mono Hih.out ?_)); rintro _ _ ⟨rfl, rfl⟩; dsimp only) | go_step)
  go_ret
  exact ⟨rfl, rfl⟩
theorem code_any (ch : List Lk) (code : Nat) (v : Value) (w : World) (h : IsErr w S a ch code v) (hs : Sents w S a) :
 Calls Tryz.prog 60 #[v] w fun e w' => e = .returned (.int .i64 code) ∧ Below w.heap.size w w' := by
 obtain ⟨t, x, hv⟩ := h.notNil
 have hb0 : Below w.heap.size w (w.alloc (.cells #[.int .i64 99] 3)) := (Below.refl _ _).alloc (Nat.le_refl _) _
 have hnb := Blk.new w 3 #[.int .i64 99]
 have HT := hid (through_code w.heap.size 99 code ch v _ (h.step hb0) (hs.step hb0) hnb)
 have hc2 : ((w.alloc (.cells #[.int .i64 99] 3)).setCell ⟨w.heap.size, 0, none⟩ (.int .i64 code)).cell? ⟨w.heap.size, 0, none⟩ = some (.int .i64 code) := (hnb.set_ 0 _).cell 0
 have HC := hid hc2
 clear hnb hc2
 subst hv
 go_enter Tryz.func60, Tryz.ntmps60
 repeat' (first | (go_at_call 97; (with_reducible refine (Calls.mono HT.out ?_)); rintro _ _ ⟨rfl, rfl⟩; have hc3 := HC.out; dsimp only) | go_step)
 go_ret
 exact ⟨rfl, (Below.refl _ _).alloc (Nat.le_refl _) _⟩
end Go.Proofs.YteggpddlkkjmjaaGreatDoor
namespace Go.Proofs.YteggpddlkkjmjaaGreatDoor
open Go Go.RowKit
variable {S : Nat → Prop} {a : Nat → Addr}
theorem Tryz.infoInt : (Tryz.prog.info? 3).map (fun i => (i.zero, i.size, i.bytes)) = some (some (.int .i64 0), 1, 8) := by kernel_rfl
theorem Tryz.infoLk : (Tryz.prog.info? 168).map (fun i => (i.zero, i.size, i.bytes)) = some (some (.agg #[.string ⟨#[]⟩, .string ⟨#[]⟩, .int .i64 0]), 3, 40) := by kernel_rfl
theorem wp_append_g {α : Type} [Enc α] (ts t : TypeId) (z : Value) (by_ : Nat) (hu : Tryz.prog.underlying ts = some (.slice t)) (hinfo : (Tryz.prog.info? t).map (fun i => (i.zero, i.size, i.bytes)) = some (some z, Enc.k α, by_)) (hzc : z.cells.size = Enc.k α) (hk0 : 0 < Enc.k α) (hb0 : 0 < by_) (hbb : by_ ≤ 100)
 {ac : Act} {K : Act → World → Prop} {Q : Exit → Act → World → Prop} {w : World} {dst : Option Tmp} {s x : Operand} {ty : TypeId} {pos : String} {after : Array Edge} {guard : Option (Nat × Bool)}
 (base : Nat) (A B : Option Addr) (n c m d : Nat) (es fs : List α) (S : Nat → Prop) (hs : ac.eval s = .slice A n c) (hx : ac.eval x = .slice B m d) (hown : GOwn t w base A n c es) (hrow : GRow w S B m d fs) (hb : base ≤ w.heap.size) (hbd : n + m ≤ 1099511627776)
 (h : ∀ A' c' w', GOwn t w' base A' (n + m) c' (es ++ fs) → Below base w w' → Same (fun k => ∀ g, A = some g → g.block ≠ k) w w' → (A' = A ∨ ∃ g, A' = some ⟨g, 0, none⟩ ∧ w.heap.size ≤ g) → w.heap.size ≤ w'.heap.size → K (ac.put dst (.slice A' (n + m) c')) w') :
 Oper.wp Tryz.prog ⟨dst, .call ⟨.builtin .append, #[s, x], #[ts, ts]⟩, ty, pos, after, guard⟩ ac w K Q := by
 obtain ⟨i0, hi0, hz0, hz1, hz2⟩ := info_parts hinfo
 obtain ⟨A', c', w', hrun, h2, h3, h4⟩ := run_append_g Tryz.prog ts t "" i0 z by_ hu hi0 hz0 hz1 hz2 hzc hk0 hb0 hbb w ty base A B n c m d es fs S hown hrow hb hbd
 unfold Oper.wp execOp
 simp only [resolve, invoke, builtin, Sem.run_bind, Sem.run_pure, Result.andThen_ok, List.map_toArray, List.map_cons, List.map_nil, hs, hx, hrun]
 refine h A' c' w' h2 ?_ ?_ h4 h3.size
 · refine (Below.refl _ _).grown h3 hb fun k hk => ?_
   cases A with
   | none => cases hk
   | some a =>
    have := hown.block a rfl
    have : a.block = k := by simpa using hk
    omega
 · intro k hk hl
   refine h3.block k hl fun e => ?_
   cases A with
   | none => cases e
   | some a => exact hk a rfl (by simpa using e.symm)
theorem wp_append_ints {ac : Act} {K : Act → World → Prop} {Q : Exit → Act → World → Prop} {w : World} {dst : Option Tmp} {s x : Operand} {ty : TypeId} {pos : String} {after : Array Edge} {guard : Option (Nat × Bool)}
 (base : Nat) (A B : Option Addr) (n c m d : Nat) (es fs : List Int) (S : Nat → Prop) (hs : ac.eval s = .slice A n c) (hx : ac.eval x = .slice B m d) (hown : GOwn 3 w base A n c es) (hrow : GRow w S B m d fs) (hb : base ≤ w.heap.size) (hbd : n + m ≤ 1099511627776)
 (h : ∀ A' c' w', GOwn 3 w' base A' (n + m) c' (es ++ fs) → Below base w w' → Same (fun k => ∀ g, A = some g → g.block ≠ k) w w' → (A' = A ∨ ∃ g, A' = some ⟨g, 0, none⟩ ∧ w.heap.size ≤ g) → w.heap.size ≤ w'.heap.size → K (ac.put dst (.slice A' (n + m) c')) w') :
 Oper.wp Tryz.prog ⟨dst, .call ⟨.builtin .append, #[s, x], #[60, 60]⟩, ty, pos, after, guard⟩ ac w K Q :=
 wp_append_g (α := Int) 60 3 _ 8 Tryz.underlying60 Tryz.infoInt rfl (by decide) (by decide) (by decide) base A B n c m d es fs S hs hx hown hrow hb hbd h
theorem wp_append_links {ac : Act} {K : Act → World → Prop} {Q : Exit → Act → World → Prop} {w : World} {dst : Option Tmp} {s x : Operand} {ty : TypeId} {pos : String} {after : Array Edge} {guard : Option (Nat × Bool)}
 (base : Nat) (A B : Option Addr) (n c m d : Nat) (es fs : List Lk) (S : Nat → Prop) (hs : ac.eval s = .slice A n c) (hx : ac.eval x = .slice B m d) (hown : GOwn 168 w base A n c es) (hrow : GRow w S B m d fs) (hb : base ≤ w.heap.size) (hbd : n + m ≤ 1099511627776)
 (h : ∀ A' c' w', GOwn 168 w' base A' (n + m) c' (es ++ fs) → Below base w w' → Same (fun k => ∀ g, A = some g → g.block ≠ k) w w' → (A' = A ∨ ∃ g, A' = some ⟨g, 0, none⟩ ∧ w.heap.size ≤ g) → w.heap.size ≤ w'.heap.size → K (ac.put dst (.slice A' (n + m) c')) w') :
 Oper.wp Tryz.prog ⟨dst, .call ⟨.builtin .append, #[s, x], #[59, 59]⟩, ty, pos, after, guard⟩ ac w K Q :=
 wp_append_g (α := Lk) 59 168 _ 40 Tryz.underlying59 Tryz.infoLk rfl (by decide) (by decide) (by decide) base A B n c m d es fs S hs hx hown hrow hb hbd h
theorem app_ints_here {ac : Act} {K : Act → World → Prop} {Q : Exit → Act → World → Prop} {w : World} {dst : Option Tmp} {s x : Operand} {ty : TypeId} {pos : String} {after : Array Edge} {guard : Option (Nat × Bool)}
 (h : Oper.wp Tryz.prog ⟨dst, .call ⟨.builtin .append, #[s, x], #[60, 60]⟩, ty, pos, after, guard⟩ ac w K Q) : Oper.wp Tryz.prog ⟨dst, .call ⟨.builtin .append, #[s, x], #[60, 60]⟩, ty, pos, after, guard⟩ ac w K Q := h
theorem app_links_here {ac : Act} {K : Act → World → Prop} {Q : Exit → Act → World → Prop} {w : World} {dst : Option Tmp} {s x : Operand} {ty : TypeId} {pos : String} {after : Array Edge} {guard : Option (Nat × Bool)}
 (h : Oper.wp Tryz.prog ⟨dst, .call ⟨.builtin .append, #[s, x], #[59, 59]⟩, ty, pos, after, guard⟩ ac w K Q) : Oper.wp Tryz.prog ⟨dst, .call ⟨.builtin .append, #[s, x], #[59, 59]⟩, ty, pos, after, guard⟩ ac w K Q := h
theorem codes1_reason (j : Nat) (h1 : 1 ≤ j) (h2 : j ≤ 13) (cb : Nat) (w : World) (hs : Sents w S a) (hc : Blk w cb 60 #[.slice none 0 0]) :
 Calls Tryz.prog 101 #[reason (a j), .pointer (some ⟨cb, 0, none⟩)] w fun e w' => e = .returned (.bool true) ∧ ∃ A c, Blk w' cb 60 #[.slice A 1 c] ∧ GOwn 3 w' w.heap.size A 1 c [(j : Int)] ∧ But cb w w' := by
 have c0 : w.cell? ⟨cb, 0, none⟩ = some (.slice none 0 0) := hc.cell 0
 have f0 := hc.frozen 0
 have hlt := hc.lt
 have hz : ((j : Int) != 0) = true := by simp; omega
 have hb1 : Below w.heap.size w (w.alloc (.cells #[.int .i64 j] 3)) := (Below.refl _ _).alloc (Nat.le_refl _) _
 have hrow : GRow (w.alloc (.cells #[.int .i64 j] 3)) (fun _ => True) (some ⟨w.heap.size, 0, none⟩) 1 1 [(j : Int)] := (GOwn.lit (t := 3) w #[.int .i64 j] [(j : Int)] 0 (Nat.zero_le _) (by show 1 ≤ maxLen; decide) rfl).row fun _ _ _ => trivial
 have hsz1 := hb1.size
 go_enter Tryz.func101, Tryz.ntmps101
 repeat' (first | (go_at_call 99; (with_reducible refine (number_reason j h1 h2 S a w hs).mono ?_); rintro _ _ ⟨rfl, rfl⟩; dsimp only) | ((with_reducible refine app_ints_here ?_); refine wp_append_ints w.heap.size none _ 0 0 1 1 [] _ _ (by rfl) (by rfl) (GOwn.nil _ _ _) hrow hsz1 (by omega) ?_; intro A' c' w2 hown2 hb2 hsm2 hat2 hz2; have hbb := hb1.trans hb2; obtain ⟨hc2, hf2⟩ := bcell hbb) | go_step)
 go_ret
 have hblk2 : Blk w2 cb 60 #[.slice none 0 0] := hc.step hbb
 refine ⟨rfl, A', c', hblk2.set_ 0 _, ?_, (But.of_below hbb).setCell _ _⟩
 refine hown2.keep (Same.setCell (S := (· ≠ cb)) _ (by simp) _) fun g hg => ?_
 have := (hown2.block g hg).1
 show g.block ≠ cb
 omega
theorem through_codes (cb : Nat) (code : Nat) : ∀ (ch : List Lk) (v : Value) (w : World), IsErr w S a ch code v → Sents w S a → Blk w cb 60 #[.slice none 0 0] →
 Calls Tryz.prog 97 #[v, .func (.func 101) #[] #[.pointer (some ⟨cb, 0, none⟩)]] w fun e w' => e = .returned (.bool true) ∧ ∃ A c, Blk w' cb 60 #[.slice A 1 c] ∧ GOwn 3 w' w.heap.size A 1 c [(code : Int)] ∧ But cb w w' := by
 intro ch
 induction ch with
 | nil =>
  rintro v w ⟨h1, h2, rfl⟩ hs hc
  simp only [reason]
  go_enter Tryz.func97, Tryz.ntmps97
  repeat' (first | (go_at_call 101; (with_reducible refine (codes1_reason code h1 h2 cb w hs hc).mono ?_); rintro _ w2 ⟨rfl, A2, c2, hb2, ho2, hk2⟩; dsimp only) | go_step)
  go_ret
  exact ⟨rfl, A2, c2, hb2, ho2, hk2⟩
 | cons l r ih =>
  rintro v w ⟨g, v, rfl, hg, hb, he⟩ hs hc
  have Hih := hid (ih v w he hs hc)
  clear ih
  go_enter Tryz.func97, Tryz.ntmps97
  repeat' (first | (go_at_call 101; (with_reducible refine (codes1_fault _ _ w hs).mono ?_); rintro _ _ ⟨rfl, rfl⟩; dsimp only) | (go_at_call 130; (with_reducible refine (unwrap_any l g v w hb).mono ?_); rintro _ _ ⟨rfl, rfl⟩; dsimp only) | (go_at_call 97; (with_reducible refine (Calls.mono Hih.out ?_)); rintro _ w2 ⟨rfl, A2, c2, hb2, ho2, hk2⟩; dsimp only) | go_step)
  go_ret
  exact ⟨rfl, A2, c2, hb2, ho2, hk2⟩
theorem But.below_new {w w1 w' : World} {cb : Nat} (h : But cb w1 w') (hb : Below w.heap.size w w1) (hc : w.heap.size ≤ cb) : Below w.heap.size w w' :=
 ⟨h.os.trans hb.os, h.tape.trans hb.tape, h.output.trans hb.output, Nat.le_trans hb.size h.size, fun k hk => (h.block k (Nat.lt_of_lt_of_le hk hb.size) (by omega)).trans (hb.block k hk)⟩
theorem codes_any (ch : List Lk) (code : Nat) (v : Value) (w : World) (h : IsErr w S a ch code v) (hs : Sents w S a) :
 Calls Tryz.prog 63 #[v] w fun e w' => ∃ A c, e = .returned (.slice A 1 c) ∧ GOwn 3 w' w.heap.size A 1 c [(code : Int)] ∧ Below w.heap.size w w' := by
 have hb0 : Below w.heap.size w (w.alloc (.cells #[.slice none 0 0] 60)) := (Below.refl _ _).alloc (Nat.le_refl _) _
 have hnb := Blk.new w 60 #[.slice none 0 0]
 have HT := hid (through_codes w.heap.size code ch v _ (h.step hb0) (hs.step hb0) hnb)
 clear hnb
 have hz0 := hb0.size
 go_enter Tryz.func63, Tryz.ntmps63
 repeat' (first | (go_at_call 97; (with_reducible refine (Calls.mono HT.out ?_)); rintro _ w2 ⟨rfl, A2, c2, hb2, ho2, hk2⟩; have hc3 := hb2.cell 0; dsimp only) | go_step)
 go_ret
 exact ⟨A2, c2, rfl, ho2.mono hz0, hk2.below_new hb0 (Nat.le_refl _)⟩
theorem link_any (l : Lk) (g : Nat) (v : Value) (w : World) (hb : Blk w g 153 #[.string l.layer, .string l.call, .int .i64 l.at_, v]) :
 Calls Tryz.prog 133 #[.pointer (some ⟨g, 0, none⟩)] w fun e w' => e = .returned (.agg #[.string l.layer, .string l.call, .int .i64 l.at_]) ∧ Below w.heap.size w w' := by
 have h0 : w.cell? ⟨g, 0, none⟩ = some (.string l.layer) := hb.cell 0
 have h1 : w.cell? ⟨g, 1, none⟩ = some (.string l.call) := hb.cell 1
 have h2 : w.cell? ⟨g, 2, none⟩ = some (.int .i64 l.at_) := hb.cell 2
 have hlt := hb.lt
 go_enter Tryz.func133, Tryz.ntmps133
 repeat' (first | ((with_reducible refine region_at 1 ?_); refine wp_region_order (rgl [0,4,8,12,16,20,24,28,32,36,40,44,48,55]) (by kernel_rfl) (by kernel_rfl) (by kernel_rfl) rfl rfl ?_) | (with_reducible refine Keep.last ?_) | ((with_reducible refine WpH.here ?_); first | (refine WpH.nil ?_; refine NoP.normal ?_) | ((first | refine WpH.load (by rfl) (by rfl) (by go_simp; rfl) ?_ | refine WpH.pure (by rfl) (fun w_ => by go_simp; (try go_bits); rfl) ?_); go_frame) | (refine WpH.wild1 (by rfl) (fun _ _ => ?_))) | go_step)
 exact bodyPost_ret (v := .agg #[.string l.layer, .string l.call, .int .i64 l.at_]) (by simp [results, Tryz.results133, go_sem]) rfl ⟨rfl, ((Below.refl _ _).alloc (Nat.le_refl _) _).drew⟩
theorem chain_rec (code : Nat) (base : Nat) : ∀ (ch : List Lk) (v : Value) (w : World) (A : Option Addr) (n c : Nat) (es : List Lk), (∀ b, S b → b < base) → IsErr w S a ch code v → GOwn 168 w base A n c es → base ≤ w.heap.size → n + ch.length ≤ 1073741824 →
 Calls Tryz.prog 100 #[v, .slice A n c] w fun e w' => ∃ A' c', e = .returned (.slice A' (n + ch.length) c') ∧ GOwn 168 w' base A' (n + ch.length) c' (es ++ ch) ∧ Below base w w' := by
 intro ch
 induction ch with
 | nil =>
  rintro v w A n c es hSb ⟨h1, h2, rfl⟩ ho hz hn
  simp only [reason]
  go_enter Tryz.func100, Tryz.ntmps100
  repeat' (first | go_step)
  go_ret
  exact ⟨A, c, rfl, by simpa using ho, Below.refl _ _⟩
 | cons l r ih =>
  rintro v w A n c es hSb ⟨g, v, rfl, hg, hb, he⟩ ho hz hn
  have h3 : w.cell? ⟨g, 3, none⟩ = some v := hb.cell 3
  have hlt := hb.lt
  have hgb := hSb g hg
  have HI := hid ih
  clear ih
  have hH : w.drew.heap[g]? = some (.cells #[.string l.layer, .string l.call, .int .i64 l.at_, v] 153 (0, 0)) := hb
  simp only [List.length_cons] at hn
  go_enter Tryz.func100, Tryz.ntmps100
  repeat' (first | ((with_reducible refine region_at 5 ?_); refine wp_region_orderT (fun b => b < base) (rgl [0,4,8,12,16,20,25,29,33,37,40]) (by kernel_rfl) (by kernel_rfl) (by kernel_rfl) rfl rfl ?_) | (go_at_call 133; (with_reducible refine (link_any l g v w.drew hb.drew).mono ?_); rintro _ w1 ⟨rfl, hb1⟩; have hbb := undrew hb1; obtain ⟨hc1, hf1⟩ := bcell hbb; have hb2 : Below w.heap.size w (w1.alloc (.cells #[.string l.layer, .string l.call, .int .i64 l.at_] 168)) := hbb.alloc hbb.size _; have hrow2 : GRow (w1.alloc (.cells #[.string l.layer, .string l.call, .int .i64 l.at_] 168)) (fun _ => True) (some ⟨w1.heap.size, 0, none⟩) 1 1 [l] := (GOwn.lit (t := 168) w1 #[.string l.layer, .string l.call, .int .i64 l.at_] [l] 0 (Nat.zero_le _) (by show 1 ≤ maxLen; decide) rfl).row fun _ _ _ => trivial; have ho2 := ho.step hb2; have hz2 := Nat.le_trans hz hb2.size; dsimp only) | ((with_reducible refine app_links_here ?_); refine wp_append_links base A _ n c 1 1 es _ _ (by rfl) (by rfl) ho2 hrow2 hz2 (by omega) ?_; intro A' c' w3 hown3 hb3 hsm3 hat3 hz3; have hB3 := (hb2.mono hz).trans hb3; have hk3 : KeepT (fun b => b < base) (w1.alloc (.cells #[.string l.layer, .string l.call, .int .i64 l.at_] 168)) w3 := ⟨hz3, fun b _ h => hb3.block b h⟩; have he3 : IsErr w3 S a r code v := he.keep (fun b hs hl => hB3.block b (hSb b hs)); have hz4 := Nat.le_trans hz2 hz3) | (go_at_call 100; (with_reducible refine (HI.out v w3 A' (n + 1) c' (es ++ [l]) hSb he3 hown3 hz4 (by omega)).mono ?_); rintro _ w4 ⟨A4, c4, rfl, ho4, hb4⟩; have hk4 : KeepT (fun b => b < base) w3 w4 := ⟨hb4.size, fun b _ h => hb4.block b h⟩; dsimp only) | (with_reducible first | refine Keep.below (by assumption) ?_ | refine Keep.kept (by assumption) ?_ | refine Keep.alloc ?_) | ((with_reducible refine WpH.here ?_); first | (refine WpH.nil ?_; refine NoP.normal ?_) | ((first | refine WpH.loadT (by rfl) (by rfl) (by go_simp; rfl) (by rintro _ _ ⟨⟩; exact ⟨_, _, _, _, _, _, by rfl, by assumption, by assumption⟩) ?_ | refine WpH.pure (by rfl) (fun w_ => by go_simp; (try go_bits); rfl) ?_); go_frame) | (refine WpH.wild1 (by rfl) (fun _ _ => ?_))) | go_step)
  go_ret
  refine ⟨A4, c4, ?_, ?_, hB3.trans hb4⟩
  · show Ending.returned (.slice A4 (n + 1 + r.length) c4) = .returned (.slice A4 (n + (r.length + 1)) c4)
    rw [show n + (r.length + 1) = n + 1 + r.length from by omega]
  · rw [show n + (r.length + 1) = n + 1 + r.length from by omega, show es ++ l :: r = es ++ [l] ++ r from by simp]; exact ho4
theorem chain_any (ch : List Lk) (code : Nat) (v : Value) (w : World) (h : IsErr w S a ch code v) (hn : ch.length ≤ 1073741824) :
 Calls Tryz.prog 62 #[v] w fun e w' => ∃ A c, e = .returned (.slice A ch.length c) ∧ GOwn 168 w' w.heap.size A ch.length c ch ∧ Below w.heap.size w w' := by
 have H := hid (chain_rec (S := fun b => S b ∧ b < w.heap.size) code w.heap.size ch v w none 0 0 [] (fun b h => h.2) (h.more fun b hl hs => ⟨hs, hl⟩) (GOwn.nil _ _ _) (Nat.le_refl _) (by omega))
 go_enter Tryz.func62, Tryz.ntmps62
 repeat' (first | (go_at_call 100; (with_reducible refine (Calls.mono H.out ?_)); rintro _ w2 ⟨A2, c2, rfl, ho2, hb2⟩; simp only [Nat.zero_add] at *) | go_step)
 go_ret
 exact ⟨A2, c2, rfl, by simpa using ho2, hb2⟩
end Go.Proofs.YteggpddlkkjmjaaGreatDoor
namespace Go.Proofs.YteggpddlkkjmjaaGreatDoor
open Go Go.RowKit
variable {S : Nat → Prop} {a : Nat → Addr}
theorem tnew_ok (chunk : Nat) (w : World) (h1 : 2 ≤ chunk) (h2 : chunk ≤ 64) :
 Calls Tryz.prog 124 #[.int .i64 chunk] w fun e w' => ∃ g, e = .returned (.tuple #[.pointer (some ⟨g, 0, none⟩), .nilIface]) ∧ w.heap.size ≤ g ∧ Blk w' g 157 #[.int .i64 chunk, .pointer none] ∧ Below w.heap.size w w' := by
 have i1 : ¬ (chunk : Int) < 2 := by omega
 have i2 : ¬ (chunk : Int) > 64 := by omega
 go_enter Tryz.func124, Tryz.ntmps124
 go_wp2
 go_ret2
 exact ⟨w.heap.size, rfl, Nat.le_refl _, Blk.new _ _ _, (Below.refl _ _).alloc (Nat.le_refl _) _⟩
theorem tlen_any (T : Tr) (p : Option Addr) (bt : Nat) (chunk : Nat) (w : World) (hb : Blk w bt 157 #[.int .i64 chunk, .pointer p]) (hT : IsTree w S T p) :
 Calls Tryz.prog 80 #[.pointer (some ⟨bt, 0, none⟩)] w fun e w' => e = .returned (.int .i64 T.all.length) ∧ w = w' := by
 have c1 := hb.cell 1
 simp at c1
 go_enter Tryz.func80, Tryz.ntmps80
 repeat' (first | (go_at_call 117; go_must ((with_reducible refine (size_any T p S w hT).mono ?_); rintro _ _ ⟨rfl, rfl⟩; dsimp only)) | go_step)
 go_ret
 exact ⟨rfl, rfl⟩
end Go.Proofs.YteggpddlkkjmjaaGreatDoor
namespace Go.Proofs.YteggpddlkkjmjaaGreatDoor
open Go Go.RowKit
variable {S : Nat → Prop} {a : Nat → Addr}
theorem Changed.all {chunk : Nat} {T T' : Tr} {i n : Nat} {ls : List El} (h : Changed chunk T i n ls T') (hc : 2 ≤ chunk) : T'.all = T.all.take i ++ ls ++ T.all.drop (i + n) := by
 obtain ⟨X, Y, M, fs, _, h2, _, _, h5⟩ := h
 rw [Tr.all_eq, h2, ← h5]
 simp only [List.flatten_append]
 rw [cutRows_flat _ _ hc]
def Edit (chunk : Nat) (T : Tr) (i n : Nat) (ls : List El) (T' : Tr) : Prop := T'.all = T.all.take i ++ ls ++ T.all.drop (i + n) ∧ (ls = [] ∧ n = 0 ∧ T' = T ∨ Changed chunk T i n ls T')
def SetRet (w : World) (S : Nat → Prop) (bt chunk : Nat) (R : Tr → Prop) (v : Value) (e : Ending) (w' : World) : Prop :=
 ∃ p' T', e = .returned v ∧ IsTree w' (Fr w S) T' p' ∧ Blk w' bt 157 #[.int .i64 chunk, .pointer p'] ∧ R T' ∧ But bt w w'
theorem But.refl (bt : Nat) (w : World) : But bt w w := ⟨rfl, rfl, rfl, Nat.le_refl _, fun _ _ _ => rfl⟩
theorem insert_ok (T : Tr) (p : Option Addr) (bt chunk i : Nat) (B : Option Addr) (m d : Nat) (ls : List El) (S SB : Nat → Prop) (w : World) (hblk : Blk w bt 157 #[.int .i64 chunk, .pointer p]) (hT : IsTree w S T p) (hbt : ¬ S bt)
 (hls : Row w SB B m d ls) (hbd : T.all.length + m ≤ 1073741824) (hi : i ≤ T.all.length) (hc2 : 2 ≤ chunk) (hc64 : chunk ≤ 64) :
 Calls Tryz.prog 94 #[.pointer (some ⟨bt, 0, none⟩), .int .i64 i, .slice B m d] w (SetRet w S bt chunk (Edit chunk T i 0 ls) .nilIface) := by
 have i1 : ¬ (i : Int) > T.all.length := by omega
 have hl := hls.1
 rcases Nat.eq_zero_or_pos m with h0 | h0
 · subst h0
   go_enter Tryz.func94, Tryz.ntmps94
   repeat' (first | (go_at_call 80; go_must ((with_reducible refine (tlen_any T p bt chunk w hblk hT).mono ?_); rintro _ _ ⟨rfl, rfl⟩; dsimp only)) | go_guarded | go_step)
   go_ret
   obtain rfl := List.eq_nil_of_length_eq_zero hl
   exact ⟨p, T, rfl, hT.fr, hblk, ⟨by simp, .inl ⟨rfl, rfl, rfl⟩⟩, But.refl _ _⟩
 · have i2 : (m : Int) > 0 := by omega
   have HC := hid (change_any T p bt chunk i 0 B m d ls S SB w hblk hT hbt hls hbd (by omega) hc2 hc64)
   rw [show ((0 : Nat) : Int) = 0 from rfl] at HC
   go_enter Tryz.func94, Tryz.ntmps94
   repeat' (first | (go_at_call 80; go_must ((with_reducible refine (tlen_any T p bt chunk w hblk hT).mono ?_); rintro _ _ ⟨rfl, rfl⟩; dsimp only)) | (go_at_call 127; go_must ((with_reducible refine Calls.mono HC.out ?_); rintro _ w2 ⟨p2, T2, rfl, ht2, hb2, hq2, hB2⟩; dsimp only)) | go_guarded | go_step)
   go_ret
   exact ⟨p2, T2, rfl, ht2, hb2, ⟨hq2.all hc2, .inr hq2⟩, hB2⟩
end Go.Proofs.YteggpddlkkjmjaaGreatDoor
namespace Go.Proofs.YteggpddlkkjmjaaGreatDoor
open Go Go.RowKit
variable {S : Nat → Prop} {a : Nat → Addr}
def atOf (n : Int) : Int := if n < 0 then -1 else n
theorem atOf_new (n : Int) : (if n < -1 then -1 else n) = atOf n := by unfold atOf; split <;> split <;> omega
def noNone : Value := .agg #[.int .i64 0, .slice none 0 0, .slice none 0 0]
def IsNo (w : World) (S : Nat → Prop) (ch : List Lk) (code : Nat) (v : Value) : Prop :=
 1 ≤ code ∧ ∃ A n c B d, v = .agg #[.int .i64 code, .slice A n c, .slice B 1 d] ∧ GRow w S A n c ch ∧ GRow w S B 1 d [(code : Int)]
theorem Blk.keepS {w w' : World} {g : Nat} {t : TypeId} {cs : Array Value} {T : Nat → Prop} (h : Blk w g t cs) (hk : Same T w w') (hg : T g) : Blk w' g t cs := (hk g hg h.lt).trans h
theorem GRow.re {α : Type} [Enc α] {w : World} {S S' : Nat → Prop} {A : Option Addr} {n c : Nat} {es : List α} (h : GRow w S A n c es) (hS : ∀ x, A = some x → S' x.block) : GRow w S' A n c es := by
 refine ⟨h.1, h.2.1, h.2.2.1, fun hn => ?_⟩
 obtain ⟨b, off, e, _, hb, hc⟩ := h.2.2.2 hn
 exact ⟨b, off, e, hS _ e, hb, hc⟩
theorem wrap_cells (w : World) (x y z u : Value) (l c : ByteArray) (n : Int) :
 let W := (((w.alloc (.cells #[x, y, z] 62)).alloc (.cells #[u, .slice none 0 0, .slice none 0 0] 62)).alloc (.cells #[.string l, .string c, .int .i64 n] 168)).drew
 Blk W w.heap.size 62 #[x, y, z] ∧ Blk W (w.heap.size + 1) 62 #[u, .slice none 0 0, .slice none 0 0] ∧ GOwn 168 W w.heap.size (some ⟨w.heap.size + 1 + 1, 0, none⟩) 1 1 [(⟨l, c, n⟩ : Lk)] ∧ Below w.heap.size w W := by
 intro W
 have h1 : Below w.heap.size w (w.alloc (.cells #[x, y, z] 62)) := (Below.refl _ _).alloc (Nat.le_refl _) _
 have e1 : (w.alloc (.cells #[x, y, z] 62)).heap.size = w.heap.size + 1 := Array.size_push _
 have h2 := h1.alloc (by omega) (.cells #[u, .slice none 0 0, .slice none 0 0] 62)
 have e2 : ((w.alloc (.cells #[x, y, z] 62)).alloc (.cells #[u, .slice none 0 0, .slice none 0 0] 62)).heap.size = w.heap.size + 1 + 1 := by rw [← e1]; exact Array.size_push _
 refine ⟨(((Blk.new w _ _).alloc _).alloc _).drew, ?_, ?_, (h2.alloc (by omega) _).drew⟩
 · have := ((Blk.new (w.alloc (.cells #[x, y, z] 62)) 62 #[u, .slice none 0 0, .slice none 0 0]).alloc (.cells #[.string l, .string c, .int .i64 n] 168)).drew
   rw [e1] at this
   exact this
 · have := GOwn.lit (t := 168) ((w.alloc (.cells #[x, y, z] 62)).alloc (.cells #[u, .slice none 0 0, .slice none 0 0] 62)) #[.string l, .string c, .int .i64 n] [(⟨l, c, n⟩ : Lk)] w.heap.size (by omega) (by show 1 ≤ maxLen; decide) rfl
   rw [e2] at this
   exact this.keep (S := fun _ => True) (Same.drew _ _) fun _ _ => trivial
theorem wrap_any (l c : ByteArray) (n : Int) (code : Nat) (h1 : 1 ≤ code) (h2 : code ≤ 13) (A : Option Addr) (m d : Nat) (B : Option Addr) (e : Nat) (ch : List Lk) (w : World) (hch : GRow w S A m d ch) (hco : GRow w S B 1 e [(code : Int)]) (hm : m ≤ 1073741824) :
 Calls Tryz.prog 59 #[.string l, .string c, .int .i64 n, .agg #[.int .i64 code, .slice A m d, .slice B 1 e]] w fun e w' => ∃ v, e = .returned v ∧ IsNo w' (Fr w S) (⟨l, c, atOf n⟩ :: ch) code v ∧ Below w.heap.size w w' := by
 by_cases hn : n < 0
 · go_enter Tryz.func59, Tryz.ntmps59
   repeat' (first | (with_reducible refine stop_region 6 ?_) | go_step)
   refine Stop.go ?_
   obtain ⟨hbA, hbB, hoL, hbW⟩ := wrap_cells w (.int .i64 code) (.slice A m d) (.slice B 1 e) (.int .i64 0) l c (-1)
   have hH := hbA
   unfold Blk at hH
   have hrowW := hch.step hbW
   have hzW := hbW.size
   have hT : (fun b => b ≠ w.heap.size + 1 + 1) w.heap.size := by show w.heap.size ≠ _; omega
   dsimp only at hT
   repeat' (first | ((with_reducible refine region_at 6 ?_); refine wp_region_orderT (fun b => b ≠ w.heap.size + 1 + 1) (rgl [0,4,8,12,16,24,28,21,32,39]) (by kernel_rfl) (by kernel_rfl) (by kernel_rfl) rfl rfl ?_) | ((with_reducible refine app_links_here ?_); refine wp_append_links w.heap.size (some ⟨w.heap.size + 1 + 1, 0, none⟩) A 1 1 m d _ ch _ (by rfl) (by rfl) hoL hrowW hzW (by omega) ?_; intro A' c' w4 hown4 hb4 hsm4 hat4 hz4; have hk4 : KeepT (fun b => b ≠ w.heap.size + 1 + 1) _ w4 := ⟨hz4, fun b hl hb => hsm4 b (by intro g hg; injection hg with hg; subst hg; exact fun e => hb e.symm) hl⟩; have hbB4 : Blk w4 (w.heap.size + 1) 62 #[.int .i64 0, .slice none 0 0, .slice none 0 0] := hbB.keepS hsm4 (by intro g hg; injection hg with hg; subst hg; show w.heap.size + 1 + 1 ≠ w.heap.size + 1; omega); have c40 := hbB4.cell 0; have c41 := hbB4.cell 1; have c42 := hbB4.cell 2; have f40 := hbB4.frozen 0; have f41 := hbB4.frozen 1; have f42 := hbB4.frozen 2; have hl4 := hbB4.lt) | (with_reducible first | refine Keep.last ?_ | refine Keep.kept (by assumption) ?_) | ((with_reducible refine WpH.here ?_); first | (refine WpH.nil ?_; refine NoP.normal ?_) | ((first | refine WpH.loadT (by rfl) (by rfl) (by go_simp; rfl) (by rintro _ _ ⟨⟩; exact ⟨_, _, _, _, _, _, by rfl, by assumption, by assumption⟩) ?_ | refine WpH.pure (by rfl) (fun w_ => by go_simp; (try go_bits); rfl) ?_); go_frame) | (refine WpH.wild1 (by rfl) (fun _ _ => ?_))) | go_step)
   have hB4 := hbW.trans hb4
   have hat1 : (-1) = atOf n := by unfold atOf; split <;> omega
   refine bodyPost_ret (v := .agg #[.int .i64 code, .slice A' (1 + m) c', .slice B 1 e]) (by simp [results, Tryz.results59, go_sem, c40, c41, c42]) rfl ⟨_, rfl, ⟨h1, A', 1 + m, c', B, e, rfl, ?_, ?_⟩, ?_⟩
   · rw [hat1] at hown4
     have hrow4 : GRow w4 (fun b => Fr w S b ∧ b ≠ w.heap.size + 1) A' (1 + m) c' ((⟨l, c, atOf n⟩ : Lk) :: ch) := (hown4.row (S := fun _ => True) fun _ _ _ => trivial).re fun x hx => by
      have hge := (hown4.block x hx).1
      refine ⟨.inr hge, fun e => ?_⟩
      rcases hat4 with h | ⟨g, h, hg⟩
      · rw [h] at hx; injection hx with hx; subst hx; revert e; show ¬ (w.heap.size + 1 + 1 = w.heap.size + 1); omega
      · rw [h] at hx; injection hx with hx; subst hx; have := hbB.lt; revert e; show ¬ (g = w.heap.size + 1); omega
     exact (hrow4.keep (by simp [World.setCell]) (((Same.setCell w4 (fun h => h.2 rfl) _).trans (by simp [World.setCell]) (Same.setCell _ (fun h => h.2 rfl) _)).trans (by simp [World.setCell]) (Same.setCell _ (fun h => h.2 rfl) _))).more fun b _ h => h.1
   · have hlt' : ∀ x, B = some x → True := fun _ _ => trivial
     have hco4 := ((hco.more (S' := fun b => S b ∧ b < w.heap.size) fun b hl h => ⟨h, hl⟩).step hB4)
     have ns : ¬ (S (w.heap.size + 1) ∧ w.heap.size + 1 < w.heap.size) := by omega
     exact (hco4.keep (by simp [World.setCell]) (((Same.setCell w4 ns _).trans (by simp [World.setCell]) (Same.setCell _ ns _)).trans (by simp [World.setCell]) (Same.setCell _ ns _))).more fun b _ h => .inl h.1
   · exact ((hB4.setCell (by show w.heap.size ≤ w.heap.size + 1; omega) _).setCell (by show w.heap.size ≤ w.heap.size + 1; omega) _).setCell (by show w.heap.size ≤ w.heap.size + 1; omega) _
 · go_enter Tryz.func59, Tryz.ntmps59
   repeat' (first | (with_reducible refine stop_region 6 ?_) | go_step)
   refine Stop.go ?_
   obtain ⟨hbA, hbB, hoL, hbW⟩ := wrap_cells w (.int .i64 code) (.slice A m d) (.slice B 1 e) (.int .i64 0) l c n
   have hH := hbA
   unfold Blk at hH
   have hrowW := hch.step hbW
   have hzW := hbW.size
   have hT : (fun b => b ≠ w.heap.size + 1 + 1) w.heap.size := by show w.heap.size ≠ _; omega
   dsimp only at hT
   repeat' (first | ((with_reducible refine region_at 6 ?_); refine wp_region_orderT (fun b => b ≠ w.heap.size + 1 + 1) (rgl [0,4,8,12,16,24,28,21,32,39]) (by kernel_rfl) (by kernel_rfl) (by kernel_rfl) rfl rfl ?_) | ((with_reducible refine app_links_here ?_); refine wp_append_links w.heap.size (some ⟨w.heap.size + 1 + 1, 0, none⟩) A 1 1 m d _ ch _ (by rfl) (by rfl) hoL hrowW hzW (by omega) ?_; intro A' c' w4 hown4 hb4 hsm4 hat4 hz4; have hk4 : KeepT (fun b => b ≠ w.heap.size + 1 + 1) _ w4 := ⟨hz4, fun b hl hb => hsm4 b (by intro g hg; injection hg with hg; subst hg; exact fun e => hb e.symm) hl⟩; have hbB4 : Blk w4 (w.heap.size + 1) 62 #[.int .i64 0, .slice none 0 0, .slice none 0 0] := hbB.keepS hsm4 (by intro g hg; injection hg with hg; subst hg; show w.heap.size + 1 + 1 ≠ w.heap.size + 1; omega); have c40 := hbB4.cell 0; have c41 := hbB4.cell 1; have c42 := hbB4.cell 2; have f40 := hbB4.frozen 0; have f41 := hbB4.frozen 1; have f42 := hbB4.frozen 2; have hl4 := hbB4.lt) | (with_reducible first | refine Keep.last ?_ | refine Keep.kept (by assumption) ?_) | ((with_reducible refine WpH.here ?_); first | (refine WpH.nil ?_; refine NoP.normal ?_) | ((first | refine WpH.loadT (by rfl) (by rfl) (by go_simp; rfl) (by rintro _ _ ⟨⟩; exact ⟨_, _, _, _, _, _, by rfl, by assumption, by assumption⟩) ?_ | refine WpH.pure (by rfl) (fun w_ => by go_simp; (try go_bits); rfl) ?_); go_frame) | (refine WpH.wild1 (by rfl) (fun _ _ => ?_))) | go_step)
   have hB4 := hbW.trans hb4
   have hat1 : n = atOf n := by unfold atOf; split <;> omega
   refine bodyPost_ret (v := .agg #[.int .i64 code, .slice A' (1 + m) c', .slice B 1 e]) (by simp [results, Tryz.results59, go_sem, c40, c41, c42]) rfl ⟨_, rfl, ⟨h1, A', 1 + m, c', B, e, rfl, ?_, ?_⟩, ?_⟩
   · rw [hat1] at hown4
     have hrow4 : GRow w4 (fun b => Fr w S b ∧ b ≠ w.heap.size + 1) A' (1 + m) c' ((⟨l, c, atOf n⟩ : Lk) :: ch) := (hown4.row (S := fun _ => True) fun _ _ _ => trivial).re fun x hx => by
      have hge := (hown4.block x hx).1
      refine ⟨.inr hge, fun e => ?_⟩
      rcases hat4 with h | ⟨g, h, hg⟩
      · rw [h] at hx; injection hx with hx; subst hx; revert e; show ¬ (w.heap.size + 1 + 1 = w.heap.size + 1); omega
      · rw [h] at hx; injection hx with hx; subst hx; have := hbB.lt; revert e; show ¬ (g = w.heap.size + 1); omega
     exact (hrow4.keep (by simp [World.setCell]) (((Same.setCell w4 (fun h => h.2 rfl) _).trans (by simp [World.setCell]) (Same.setCell _ (fun h => h.2 rfl) _)).trans (by simp [World.setCell]) (Same.setCell _ (fun h => h.2 rfl) _))).more fun b _ h => h.1
   · have hlt' : ∀ x, B = some x → True := fun _ _ => trivial
     have hco4 := ((hco.more (S' := fun b => S b ∧ b < w.heap.size) fun b hl h => ⟨h, hl⟩).step hB4)
     have ns : ¬ (S (w.heap.size + 1) ∧ w.heap.size + 1 < w.heap.size) := by omega
     exact (hco4.keep (by simp [World.setCell]) (((Same.setCell w4 ns _).trans (by simp [World.setCell]) (Same.setCell _ ns _)).trans (by simp [World.setCell]) (Same.setCell _ ns _))).more fun b _ h => .inl h.1
   · exact ((hB4.setCell (by show w.heap.size ≤ w.heap.size + 1; omega) _).setCell (by show w.heap.size ≤ w.heap.size + 1; omega) _).setCell (by show w.heap.size ≤ w.heap.size + 1; omega) _
end Go.Proofs.YteggpddlkkjmjaaGreatDoor
namespace Go.Proofs.YteggpddlkkjmjaaGreatDoor
open Go Go.RowKit
variable {S : Nat → Prop} {a : Nat → Addr}
theorem say_any (l c : ByteArray) (n : Int) (code : Nat) (h1 : 1 ≤ code) (h2 : code ≤ 13) (S : Nat → Prop) (w : World) :
 Calls Tryz.prog 57 #[.string l, .string c, .int .i64 n, .int .i64 code] w fun e w' => ∃ v, e = .returned v ∧ IsNo w' (Fr w S) [⟨l, c, atOf n⟩] code v ∧ Below w.heap.size w w' := by
 have b1 : Below w.heap.size w (w.alloc (.cells #[.int .i64 0, .slice none 0 0, .slice none 0 0] 62)) := (Below.refl _ _).alloc (Nat.le_refl _) _
 have e1 : (w.alloc (.cells #[.int .i64 0, .slice none 0 0, .slice none 0 0] 62)).heap.size = w.heap.size + 1 := Array.size_push _
 have b2 := b1.alloc (by omega) (.cells #[.int .i64 code] 3)
 have hB := ((Blk.new w 62 #[.int .i64 0, .slice none 0 0, .slice none 0 0]).alloc (.cells #[.int .i64 code] 3))
 have hco : GRow ((w.alloc (.cells #[.int .i64 0, .slice none 0 0, .slice none 0 0] 62)).alloc (.cells #[.int .i64 code] 3)) (fun b => Fr w S b ∧ b ≠ w.heap.size) (some ⟨w.heap.size + 1, 0, none⟩) 1 1 [(code : Int)] := by
  have := (GOwn.lit (t := 3) (w.alloc (.cells #[.int .i64 0, .slice none 0 0, .slice none 0 0] 62)) #[.int .i64 code] [(code : Int)] w.heap.size (by omega) (by show 1 ≤ maxLen; decide) rfl).row (S := fun _ => True) (fun _ _ _ => trivial) |>.re (S' := fun b => Fr w S b ∧ b ≠ w.heap.size) fun x hx => by injection hx with hx; subst hx; exact ⟨.inr (Nat.le_trans (Nat.le_succ _) (Nat.le_of_eq e1.symm)), by show Array.size _ ≠ _; rw [e1]; omega⟩
  rw [e1] at this
  exact this
 have hch : GRow ((w.alloc (.cells #[.int .i64 0, .slice none 0 0, .slice none 0 0] 62)).alloc (.cells #[.int .i64 code] 3)) (fun b => Fr w S b ∧ b ≠ w.heap.size) none 0 0 ([] : List Lk) := GRow.nil _ _ _ _ (Nat.zero_le _)
 have hz2 := b2.size
 go_enter Tryz.func57, Tryz.ntmps57
 repeat' (first | (go_at_call 59; go_must ((with_reducible refine (wrap_any l c n code h1 h2 none 0 0 (some ⟨w.heap.size + 1, 0, none⟩) 1 [] _ hch hco (by omega)).mono ?_); rintro _ w3 ⟨v3, rfl, ⟨_, A, m, d, B, k, rfl, hr1, hr2⟩, hb3⟩; have hB3 := hB.step hb3; have c0 := hB3.cell 0; have c1 := hB3.cell 1; have c2 := hB3.cell 2; have f0 := hB3.frozen 0; have f1 := hB3.frozen 1; have f2 := hB3.frozen 2; dsimp only)) | go_step)
 have hbb := b2.trans (hb3.mono hz2)
 have hlt := hB.lt
 have hns : ¬ (Fr w S w.heap.size ∧ w.heap.size ≠ w.heap.size) := fun h => h.2 rfl
 have hre : ∀ b, Fr ((w.alloc (.cells #[.int .i64 0, .slice none 0 0, .slice none 0 0] 62)).alloc (.cells #[.int .i64 code] 3)) (fun b => Fr w S b ∧ b ≠ w.heap.size) b → Fr w S b ∧ b ≠ w.heap.size := by
  intro b h
  rcases h with h | h
  · exact h
  · exact ⟨.inr (Nat.le_trans hz2 h), by omega⟩
 have sm : ∀ x y z : Value, Same (fun b => Fr w S b ∧ b ≠ w.heap.size) w3 (((w3.setCell ⟨w.heap.size, 0, none⟩ x).setCell ⟨w.heap.size, 1, none⟩ y).setCell ⟨w.heap.size, 2, none⟩ z) := fun x y z =>
  ((Same.setCell w3 hns _).trans (by simp [World.setCell]) (Same.setCell _ hns _)).trans (by simp [World.setCell]) (Same.setCell _ hns _)
 refine bodyPost_ret (v := .agg #[.int .i64 code, .slice A m d, .slice B 1 k]) (by simp [results, Tryz.results57, go_sem, c0, c1, c2]) rfl ⟨_, rfl, ⟨h1, A, m, d, B, k, rfl, ?_, ?_⟩, ?_⟩
 · exact ((hr1.more fun b _ h => hre b h).keep (by simp [World.setCell]) (sm _ _ _)).more fun b _ h => h.1
 · exact ((hr2.more fun b _ h => hre b h).keep (by simp [World.setCell]) (sm _ _ _)).more fun b _ h => h.1
 · exact ((hbb.setCell (Nat.le_refl _) _).setCell (Nat.le_refl _) _).setCell (Nat.le_refl _) _
theorem links_eq (A : Option Addr) (n c : Nat) (B : Option Addr) (d : Nat) (ch : List Lk) (S S' : Nat → Prop) (w : World) (h1 : GRow w S A n c ch) (h2 : GRow w S' B n d ch) :
 Calls Tryz.prog 61 #[.slice A n c, .slice B n d] w fun e w' => e = .returned (.bool true) ∧ Below w.heap.size w w' := by
 have hn := h1.len_le
 have hm : maxLen = 9223372036854775807 := rfl
 have hnc := h1.2.1
 have hnd := h2.2.1
 go_enter Tryz.func61, Tryz.ntmps61
 go_wp2
 go_loopw [5] (fun i wr => ∃ k : Nat, i = .int .i64 k ∧ k ≤ n ∧ Below w.heap.size w wr) (fun i _ => n - (intOf i).toNat)
 case atStart => exact ⟨0, rfl, Nat.zero_le _, Below.refl _ _⟩
 case round =>
  obtain ⟨k, rfl, hk, hb⟩ := hrel
  by_cases e : k < n
  · obtain ⟨b1, o1, l1, rfl, _, hlt1, he1, c1⟩ := (h1.step hb).at_ e
    obtain ⟨b2, o2, l2, rfl, _, hlt2, he2, c2⟩ := (h2.step hb).at_ e
    obtain rfl : l1 = l2 := Option.some.inj (he1.symm.trans he2)
    have p0 : wr.drew.cell? ⟨b1, o1 + k * 3, none⟩ = some (.string l1.layer) := c1 0 _ rfl
    have p1 : wr.drew.cell? ⟨b1, o1 + k * 3 + 1, none⟩ = some (.string l1.call) := c1 1 _ rfl
    have p2 : wr.drew.cell? ⟨b1, o1 + k * 3 + 2, none⟩ = some (.int .i64 l1.at_) := c1 2 _ rfl
    have q0 : wr.drew.cell? ⟨b2, o2 + k * 3, none⟩ = some (.string l1.layer) := c2 0 _ rfl
    have q1 : wr.drew.cell? ⟨b2, o2 + k * 3 + 1, none⟩ = some (.string l1.call) := c2 1 _ rfl
    have q2 : wr.drew.cell? ⟨b2, o2 + k * 3 + 2, none⟩ = some (.int .i64 l1.at_) := c2 2 _ rfl
    clear c1 c2
    repeat' (first | ((with_reducible refine region_at 6 ?_); refine wp_region_order (rgl [0,4,8,12,16,20,24,28,32]) (by kernel_rfl) (by kernel_rfl) (by kernel_rfl) rfl rfl ?_) | ((with_reducible refine WpH.here ?_); first | (refine WpH.nil ?_; refine NoP.normal ?_) | ((first | refine WpH.load (by rfl) (by rfl) (by go_simp; rfl) ?_ | refine WpH.pure (by rfl) (fun w_ => by go_simp; (try go_bits); rfl) ?_); go_frame)) | go_step)
    go_roundw
    case rel => exact ⟨k + 1, by go_num, by omega, hb.drew⟩
    case measure => simp [intOf]; omega
  · obtain rfl : k = n := by omega
    go_wp2
    go_ret
    exact ⟨rfl, hb⟩
theorem ints_eq (A : Option Addr) (n c : Nat) (B : Option Addr) (d : Nat) (ch : List Int) (S S' : Nat → Prop) (w : World) (h1 : GRow w S A n c ch) (h2 : GRow w S' B n d ch) :
 Calls Tryz.prog 40 #[.slice A n c, .slice B n d] w fun e w' => e = .returned (.bool true) ∧ Below w.heap.size w w' := by
 have hn := h1.len_le
 have hm : maxLen = 9223372036854775807 := rfl
 have hnc := h1.2.1
 have hnd := h2.2.1
 go_enter Tryz.func40, Tryz.ntmps40
 go_wp2
 go_loopw [5] (fun i wr => ∃ k : Nat, i = .int .i64 k ∧ k ≤ n ∧ Below w.heap.size w wr) (fun i _ => n - (intOf i).toNat)
 case atStart => exact ⟨0, rfl, Nat.zero_le _, Below.refl _ _⟩
 case round =>
  obtain ⟨k, rfl, hk, hb⟩ := hrel
  by_cases e : k < n
  · obtain ⟨b1, o1, l1, rfl, _, hlt1, he1, c1⟩ := (h1.step hb).at_ e
    obtain ⟨b2, o2, l2, rfl, _, hlt2, he2, c2⟩ := (h2.step hb).at_ e
    obtain rfl : l1 = l2 := Option.some.inj (he1.symm.trans he2)
    have p0 : wr.drew.cell? ⟨b1, o1 + k * 1, none⟩ = some (.int .i64 l1) := c1 0 _ rfl
    have q0 : wr.drew.cell? ⟨b2, o2 + k * 1, none⟩ = some (.int .i64 l1) := c2 0 _ rfl
    rw [Nat.mul_one] at p0 q0
    clear c1 c2
    repeat' (first | ((with_reducible refine region_at 6 ?_); refine wp_region_order (rgl [0,4,8,12,16,20,24,28,32]) (by kernel_rfl) (by kernel_rfl) (by kernel_rfl) rfl rfl ?_) | ((with_reducible refine WpH.here ?_); first | (refine WpH.nil ?_; refine NoP.normal ?_) | ((first | refine WpH.load (by rfl) (by rfl) (by go_simp; rfl) ?_ | refine WpH.pure (by rfl) (fun w_ => by go_simp; (try go_bits); rfl) ?_); go_frame)) | go_step)
    go_roundw
    case rel => exact ⟨k + 1, by go_num, by omega, hb.drew⟩
    case measure => simp [intOf]; omega
  · obtain rfl : k = n := by omega
    go_wp2
    go_ret
    exact ⟨rfl, hb⟩
theorem WpH.wild2 {P : Program} {T : Nat → Prop} {ops : Array Oper} {Q : Exit → Act → World → Prop} {o : Oper} {t : Bool} {rest : List (Oper × Bool × Bool)} {a : Act} {w : World} (hw : Region.wanted o (yielded ops a.tmps) = true)
 (h : ∀ K : Act → World → Prop, (∀ a' w', Keep T t w w' (WpH T P ops Q rest a' w') → K a' w') → o.wp P a w K Q) : WpH T P ops Q ((o, false, t) :: rest) a w :=
 WpH.wild hw (h _ fun _ _ h => h)
theorem refused_none (w : World) : Calls Tryz.prog 27 #[.nilIface, noNone] w fun e w' => e = .returned (.bool true) ∧ Below w.heap.size w w' := by
 unfold noNone
 go_enter Tryz.func27, Tryz.ntmps27
 go_wp2
 go_ret
 exact ⟨rfl, (Below.refl _ _).alloc (Nat.le_refl _) _⟩
theorem refused_any (ch : List Lk) (code : Nat) (e v : Value) (S S' : Nat → Prop) (w : World) (he : IsErr w S a ch code e) (hno : IsNo w S' ch code v) (hs : Sents w S a) (hn : ch.length ≤ 1073741824) :
 Calls Tryz.prog 27 #[e, v] w fun e w' => e = .returned (.bool true) ∧ Below w.heap.size w w' := by
 obtain ⟨h1, A, n, c, B, d, rfl, hch, hco⟩ := hno
 obtain ⟨t, x, hx⟩ := he.notNil
 have hz : ((code : Int) == 0) = false := by simp; omega
 have b0 : Below w.heap.size w (w.alloc (.cells #[.int .i64 code, .slice A n c, .slice B 1 d] 62)) := (Below.refl _ _).alloc (Nat.le_refl _) _
 have hB := Blk.new w 62 #[.int .i64 code, .slice A n c, .slice B 1 d]
 obtain rfl := hch.1
 have he0 := (he.step b0).keep (Same.drew S _)
 have hs0 := (hs.step b0).drew
 have hch0 := (hch.step b0).drew
 have hco0 := (hco.step b0).drew
 have HE := hid (he.notNil)
 subst hx
 go_enter Tryz.func27, Tryz.ntmps27
 repeat' (first | ((with_reducible refine region_at 3 ?_); refine wp_region_order (rgl [0,4,8,12,20,24,17,28,32]) (by kernel_rfl) (by kernel_rfl) (by kernel_rfl) rfl rfl ?_) | ((with_reducible refine region_at 5 ?_); refine wp_region_order (rgl [0,8,12,5,17,20,24,32,36,29,41,44,48]) (by kernel_rfl) (by kernel_rfl) (by kernel_rfl) rfl rfl ?_) | ((with_reducible refine WpH.here ?_); refine WpH.wild2 (by rfl) (fun _ _ => ?_)) | (go_at_call 60; go_must ((with_reducible refine (code_any ch code _ _ he0 hs0).mono ?_); rintro _ w1 ⟨rfl, hb1⟩; have hB1 := hB.drew.step hb1; have c10 := hB1.cell 0; have c11 := hB1.cell 1; have c12 := hB1.cell 2; have he1 := (he0.step hb1).keep (Same.drew S _); have hs1 := (hs0.step hb1).drew; have hch1 := (hch0.step hb1).drew; have hco1 := (hco0.step hb1).drew; have hbb1 := b0.trans ((undrew hb1).mono b0.size); dsimp only)) | (go_at_call 62; go_must ((with_reducible refine (chain_any ch code _ _ he1 hn).mono ?_); rintro _ w2 ⟨A2, c2, rfl, ho2, hb2⟩; have hB2 := hB1.drew.step hb2; have c20 := hB2.cell 0; have c21 := hB2.cell 1; have c22 := hB2.cell 2; have he2 := he1.step hb2; have hs2 := hs1.step hb2; have hch2 := hch1.step hb2; have hco2 := hco1.step hb2; have hr2 := ho2.row (S := fun _ => True) (fun _ _ _ => trivial); dsimp only)) | (go_at_call 61; go_must ((with_reducible refine (links_eq A2 ch.length c2 A c ch (fun _ => True) S' w2 hr2 hch2).mono ?_); rintro _ w3 ⟨rfl, hb3⟩; have hB3 := hB2.step hb3; have c30 := hB3.cell 0; have c31 := hB3.cell 1; have c32 := hB3.cell 2; have he3 := he2.step hb3; have hs3 := hs2.step hb3; have hco3 := hco2.step hb3; dsimp only)) | (go_at_call 63; go_must ((with_reducible refine (codes_any ch code _ _ he3 hs3).mono ?_); rintro _ w4 ⟨A4, c4, rfl, ho4, hb4⟩; have hB4 := hB3.step hb4; have c40 := hB4.cell 0; have c41 := hB4.cell 1; have c42 := hB4.cell 2; have hco4 := hco3.step hb4; have hr4 := ho4.row (S := fun _ => True) (fun _ _ _ => trivial); dsimp only)) | (go_at_call 40; go_must ((with_reducible refine (ints_eq A4 1 c4 B d [(code : Int)] (fun _ => True) S' w4 hr4 hco4).mono ?_); rintro _ w5 ⟨rfl, hb5⟩; dsimp only)) | (with_reducible refine Keep.below (by assumption) ?_) | ((with_reducible refine WpH.here ?_); first | (refine WpH.nil ?_; refine NoP.normal ?_) | ((first | refine WpH.load (by rfl) (by rfl) (by go_simp; rfl) ?_ | refine WpH.pure (by rfl) (fun w_ => by go_simp; (try go_bits); rfl) ?_); go_frame)) | go_step)
 go_ret
 have B2 := hbb1.trans ((undrew hb2).mono hbb1.size)
 have B3 := B2.trans (hb3.mono B2.size)
 have B4 := B3.trans (hb4.mono B3.size)
 exact ⟨rfl, B4.trans (hb5.mono B4.size)⟩
end Go.Proofs.YteggpddlkkjmjaaGreatDoor
