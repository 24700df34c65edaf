/- An operation with any ID, done or refused: plain. No condition. No program in sight. -/
import Derived.Test.YtogkbddniacgiaaDoorRefApply
import Derived.Test.YtogkbddniacgiaaDoorPlain7
namespace Go.Proofs.YtogkbddniacgiaaDoor
set_option linter.unusedSimpArgs false
set_option linter.unusedVariables false
open Go Go.RowKit
/-- why an operation can't be done; 0: it can -/
def whyOf (l : List El) (o : Opn) (id : Nm) : Nat := if rightOp o = false then 1 else if validOp o l.length = false then 2 else if o.kind = 1 ∧ id ∈ l.map El.nm then 9 else 0
/-- the row behind it -/
def appOf (l : List El) (o : Opn) (id : Nm) : List El := if whyOf l o id = 0 then doneOp l o id else l
/-- a refusal's way -/
def chOf (o : Opn) (why : Nat) : List Lk := if why = 9 then [⟨({ data := #[120, 102, 111, 114, 109] } : ByteArray), ({ data := #[65, 112, 112, 108, 121] } : ByteArray), atOf o.at_⟩, ⟨({ data := #[109, 111, 100, 101, 108] } : ByteArray), ({ data := #[73, 110, 115, 101, 114, 116] } : ByteArray), atOf o.at_⟩] else [⟨({ data := #[120, 102, 111, 114, 109] } : ByteArray), ({ data := #[65, 112, 112, 108, 121] } : ByteArray), atOf o.at_⟩]
theorem why_cases (l : List El) (o : Opn) (id : Nm) : (whyOf l o id = 1 ∧ rightOp o = false) ∨ (whyOf l o id = 2 ∧ rightOp o = true ∧ validOp o l.length = false) ∨ (whyOf l o id = 9 ∧ validOp o l.length = true ∧ o.kind = 1 ∧ id ∈ l.map El.nm) ∨ (whyOf l o id = 0 ∧ validOp o l.length = true ∧ (o.kind = 1 → id ∉ l.map El.nm)) := by
  unfold whyOf
  cases h1 : rightOp o
  · exact .inl ⟨if_pos rfl, rfl⟩
  · right
    rw [if_neg (by simp)]
    cases h2 : validOp o l.length
    · exact .inl ⟨if_pos rfl, rfl, rfl⟩
    · right
      rw [if_neg (by simp)]
      by_cases h3 : o.kind = 1 ∧ id ∈ l.map El.nm
      · exact .inl ⟨if_pos h3, rfl, h3.1, h3.2⟩
      · exact .inr ⟨if_neg h3, rfl, fun h1 h2 => h3 ⟨h1, h2⟩⟩
theorem appOf_done {l : List El} {o : Opn} {id : Nm} (h : whyOf l o id = 0) : appOf l o id = doneOp l o id := if_pos h
theorem appOf_not {l : List El} {o : Opn} {id : Nm} (h : whyOf l o id ≠ 0) : appOf l o id = l := if_neg h
theorem appOf_length (l : List El) (o : Opn) (id : Nm) : (appOf l o id).length ≤ l.length + 1 := by
  unfold appOf
  split
  · exact doneOp_length l o id
  · omega
theorem appOf_calm {H : Int} {l : List El} (h : Calm H l) (h0 : 0 ≤ H) (o : Opn) (id : Nm) : Calm (H + 1) (appOf l o id) := by
  unfold appOf
  split
  · exact h.done h0 o id
  · intro e he
    have := h e he
    omega
theorem why_can {l : List El} {o : Opn} {id : Nm} (h : whyOf l o id = 0) {H : Int} (hc : Calm H l) (hH : H ≤ 1000000) (hi : id.In) : CanDo l o id := by
  rcases why_cases l o id with ⟨h1, _⟩ | ⟨h1, _⟩ | ⟨h1, _⟩ | ⟨_, h2, h3⟩
  · omega
  · omega
  · omega
  · exact canDo_of (Fits.of_valid h2) hc hH hi h3
theorem valid_right {o : Opn} {n : Int} (h : validOp o n = true) : rightOp o = true := (validOp_right h).1
theorem wrong_ins {l : List El} {o : Opn} {id : Nm} {n : Int} (h : validOp o n = true) (hk : o.kind = 1) : wrongOf l (insEl id o.char) = if id ∈ l.map El.nm then 9 else 0 := by
  have hr := valid_right h
  have hc : rightC o.char = true := by
    rcases rightOp_kind hr with ⟨_, h⟩ | h | h
    · exact h
    · omega
    · omega
  unfold wrongOf
  rw [if_neg (by show ¬ rightC o.char = false; rw [hc]; simp), if_neg (by show ¬ fairH 0 = false; decide)]
  rfl
end Go.Proofs.YtogkbddniacgiaaDoor
