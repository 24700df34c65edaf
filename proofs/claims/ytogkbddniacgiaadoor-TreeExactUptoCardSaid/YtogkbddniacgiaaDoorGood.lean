/- The leaves' lengths: a plain law: what an edit leaves of leaves that are as they must be is as it must be. No condition. -/
import Derived.Test.YtogkbddniacgiaaDoorTree10
namespace Go.Proofs.YtogkbddniacgiaaDoor
set_option linter.unusedSimpArgs false
set_option linter.unusedVariables false
open Go Go.RowKit
/-- of two neighbours R holds -/
def Adj {α : Type} (R : α → α → Prop) : List α → Prop
  | [] => True
  | [_] => True
  | x :: y :: l => R x y ∧ Adj R (y :: l)
theorem adj_append {α : Type} {R : α → α → Prop} : ∀ {a b : List α}, Adj R (a ++ b) ↔ Adj R a ∧ Adj R b ∧ (∀ a' x y b', a = a' ++ [x] → b = y :: b' → R x y)
  | [], b => ⟨fun h => ⟨trivial, h, fun a' x y b' h1 => by simp at h1⟩, fun h => h.2.1⟩
  | [x], [] => ⟨fun _ => ⟨trivial, trivial, fun a' x y b' _ h => by cases h⟩, fun _ => trivial⟩
  | [x], y :: b => by
    constructor
    · intro h
      refine ⟨trivial, h.2, fun a' x' y' b' h1 h2 => ?_⟩
      cases a' with
      | nil => obtain rfl : x = x' := by simpa using h1
               obtain ⟨rfl, rfl⟩ : y = y' ∧ b = b' := by simpa using h2
               exact h.1
      | cons z a' => simp at h1
    · intro h
      exact ⟨h.2.2 [] x y b rfl rfl, h.2.1⟩
  | x :: z :: a, b => by
    have ih := @adj_append α R (z :: a) b
    constructor
    · intro h
      obtain ⟨h1, h2, h3⟩ := ih.1 h.2
      refine ⟨⟨h.1, h1⟩, h2, fun a' x' y' b' e1 e2 => ?_⟩
      cases a' with
      | nil => simp at e1
      | cons u a' => exact h3 a' x' y' b' (by simpa using (List.cons.inj e1).2) e2
    · intro h
      exact ⟨h.1.1, ih.2 ⟨h.1.2, h.2.1, fun a' x' y' b' e1 e2 => h.2.2 (x :: a') x' y' b' (by rw [e1]; rfl) e2⟩⟩
theorem adj_of_get {α : Type} {R : α → α → Prop} : ∀ {l : List α}, (∀ (i : Nat) x y, l[i]? = some x → l[i + 1]? = some y → R x y) → Adj R l
  | [], _ => trivial
  | [_], _ => trivial
  | x :: y :: l, h => ⟨h 0 x y rfl rfl, adj_of_get fun i u v h1 h2 => h (i + 1) u v h1 h2⟩
theorem adj_get {α : Type} {R : α → α → Prop} : ∀ {l : List α}, Adj R l → ∀ (i : Nat) x y, l[i]? = some x → l[i + 1]? = some y → R x y
  | [], _, i, x, y, h1, _ => by cases h1
  | [_], _, i, x, y, _, h2 => by cases i <;> cases h2
  | a :: b :: l, h, 0, x, y, h1, h2 => by cases h1; cases h2; exact h.1
  | a :: b :: l, h, i + 1, x, y, h1, h2 => adj_get h.2 i x y h1 h2
/-- leaves as they must be -/
structure Good (chunk : Nat) (rows : List (List El)) : Prop where
  each : ∀ r ∈ rows, 1 ≤ r.length ∧ r.length ≤ chunk
  pair : Adj (fun a b => chunk / 2 < a.length + b.length) rows
theorem piece_length (es : List El) (m k : Nat) (hk : k < m) (hm : m ≤ es.length) : (pieceOf es m k).length = (k + 1) * es.length / m - k * es.length / m := by
  have h := cut_le es.length m k hk
  simp [pieceOf]
  omega
theorem div_add_le (a b c : Nat) (hc : 0 < c) : a / c + b / c ≤ (a + b) / c := by
  rw [Nat.le_div_iff_mul_le hc, Nat.add_mul]
  have h1 := Nat.div_mul_le_self a c
  have h2 := Nat.div_mul_le_self b c
  omega
theorem piece_lo (n m k : Nat) (hm : 0 < m) : n / m ≤ (k + 1) * n / m - k * n / m := by
  have h : k * n / m + n / m ≤ (k * n + n) / m := div_add_le _ _ _ hm
  rw [Nat.succ_mul]
  omega
theorem piece_two (n m k : Nat) (hm : 0 < m) : 2 * n / m ≤ (k + 2) * n / m - k * n / m := by
  have h : k * n / m + (2 * n) / m ≤ (k * n + 2 * n) / m := div_add_le _ _ _ hm
  rw [Nat.add_mul]
  omega
theorem piece_hi (n m c k : Nat) (hm : 0 < m) (hn : n ≤ m * c) : (k + 1) * n / m - k * n / m ≤ c := by
  have h : (k + 1) * n / m ≤ k * n / m + c := by
    have : (k + 1) * n ≤ k * n + m * c := by rw [Nat.succ_mul]; omega
    have h2 := Nat.div_le_div_right (c := m) this
    rwa [Nat.add_mul_div_left _ _ hm] at h2
  omega
theorem cutNo_mul (chunk n : Nat) (hc : 2 ≤ chunk) : n ≤ cutNo chunk n * chunk := by
  unfold cutNo
  have := Nat.div_add_mod (n + chunk - 1) chunk
  have h2 := Nat.mod_lt (n + chunk - 1) (show 0 < chunk by omega)
  rw [Nat.mul_comm] at this
  omega
theorem cutNo_lt (chunk n : Nat) (hc : 2 ≤ chunk) (h : 0 < cutNo chunk n) : (cutNo chunk n - 1) * chunk < n := by
  have h1 : cutNo chunk n * chunk ≤ n + chunk - 1 := Nat.div_mul_le_self _ _
  have h2 : (cutNo chunk n - 1) * chunk = cutNo chunk n * chunk - chunk := by rw [Nat.sub_mul, Nat.one_mul]
  have h3 : chunk ≤ cutNo chunk n * chunk := Nat.le_mul_of_pos_left _ h
  omega
theorem cutRows_get (chunk : Nat) (es : List El) (k : Nat) (r : List El) (h : (cutRows chunk es)[k]? = some r) : k < cutNo chunk es.length ∧ r = pieceOf es (cutNo chunk es.length) k := by
  unfold cutRows at h
  rw [List.getElem?_map] at h
  by_cases hk : k < cutNo chunk es.length
  · rw [List.getElem?_range hk] at h
    exact ⟨hk, (Option.some.inj h).symm⟩
  · rw [List.getElem?_eq_none (by simp; omega)] at h
    cases h
/-- a piece behind a cut: the whole, or half a leaf long -/
theorem cutRows_half (chunk : Nat) (es : List El) (hc : 2 ≤ chunk) (r : List El) (h : r ∈ cutRows chunk es) : r = es ∨ chunk / 2 ≤ r.length := by
  obtain ⟨k, hk, rfl⟩ := List.mem_iff_getElem.1 h
  obtain ⟨h1, h2⟩ := cutRows_get chunk es k _ (List.getElem?_eq_getElem hk)
  rw [h2]
  have hle := cutNo_le chunk es.length hc
  have hlt := cutNo_lt chunk es.length hc (by omega)
  rcases Nat.lt_or_ge (cutNo chunk es.length) 2 with h3 | h3
  · left
    have h4 : cutNo chunk es.length = 1 := by omega
    obtain rfl : k = 0 := by omega
    rw [h4]
    simp [pieceOf]
  · right
    rw [piece_length es _ k h1 hle]
    refine Nat.le_trans ?_ (piece_lo _ _ k (by omega))
    rw [Nat.le_div_iff_mul_le (by omega)]
    generalize cutNo chunk es.length = m at *
    obtain ⟨q, rfl⟩ : ∃ q, m = q + 2 := ⟨m - 2, by omega⟩
    have h5 : chunk / 2 * (q + 2) ≤ (q + 2 - 1) * chunk := by
      have h6 : chunk / 2 * 2 ≤ chunk := Nat.div_mul_le_self _ _
      have h7 : chunk / 2 * q ≤ q * chunk := by rw [Nat.mul_comm]; exact Nat.mul_le_mul_left _ (by omega)
      rw [show q + 2 - 1 = q + 1 from by omega, Nat.mul_add, Nat.succ_mul]
      omega
    omega
theorem cutRows_good (chunk : Nat) (es : List El) (hc : 2 ≤ chunk) : Good chunk (cutRows chunk es) := by
  have hle := cutNo_le chunk es.length hc
  refine ⟨fun r hr => ?_, adj_of_get fun i x y hx hy => ?_⟩
  · obtain ⟨k, hk, rfl⟩ := List.mem_iff_getElem.1 hr
    obtain ⟨h1, h2⟩ := cutRows_get chunk es k _ (List.getElem?_eq_getElem hk)
    rw [h2, piece_length es _ k h1 hle]
    have h3 := cut_lt es.length _ k hle h1
    exact ⟨by omega, piece_hi _ _ _ k (by omega) (cutNo_mul chunk es.length hc)⟩
  · obtain ⟨h1, rfl⟩ := cutRows_get chunk es i _ hx
    obtain ⟨h2, rfl⟩ := cutRows_get chunk es (i + 1) _ hy
    rw [piece_length es _ i h1 hle, piece_length es _ (i + 1) h2 hle]
    have h3 := cut_lt es.length _ i hle h1
    have h4 := cut_lt es.length _ (i + 1) hle h2
    have h5 := piece_two es.length (cutNo chunk es.length) i (by omega)
    have hlt := cutNo_lt chunk es.length hc (by omega)
    have h6 : chunk / 2 < 2 * es.length / cutNo chunk es.length := by
      rw [Nat.lt_iff_add_one_le, Nat.le_div_iff_mul_le (by omega)]
      generalize cutNo chunk es.length = m at *
      obtain ⟨q, rfl⟩ : ∃ q, m = q + 2 := ⟨m - 2, by omega⟩
      have h7 : (chunk / 2 + 1) * (q + 2) ≤ chunk * (q + 2) := Nat.mul_le_mul_right _ (by omega)
      have h8 : chunk * (q + 2) = q * chunk + 2 * chunk := by rw [Nat.mul_add, Nat.mul_comm chunk q]; omega
      have h9 : (q + 2 - 1) * chunk = q * chunk + chunk := by rw [show q + 2 - 1 = q + 1 from by omega, Nat.succ_mul]
      have h10 : 0 ≤ q * chunk := Nat.zero_le _
      omega
    show chunk / 2 < _
    rw [show i + 1 + 1 = i + 2 from rfl] at h4 ⊢
    omega
/-- behind an edit the leaves are as they must be -/
theorem Good.changed {chunk : Nat} {T T' : Tr} {i n : Nat} {ls : List El} (hg : Good chunk T.rows) (h : Changed chunk T i n ls T') (hc : 2 ≤ chunk) : Good chunk T'.rows := by
  obtain ⟨X, Y, M, fs, h1, h2, hx, hy, -⟩ := h
  rw [h1, List.append_assoc] at hg
  obtain ⟨ge, gp⟩ := hg
  obtain ⟨pX, pMY, pXM⟩ := adj_append.1 gp
  obtain ⟨pM, pY, pMY'⟩ := adj_append.1 pMY
  have cg := cutRows_good chunk fs hc
  rw [h2, List.append_assoc]
  have geX : ∀ r ∈ X, 1 ≤ r.length ∧ r.length ≤ chunk := fun r h => ge r (by simp [h])
  have geY : ∀ r ∈ Y, 1 ≤ r.length ∧ r.length ≤ chunk := fun r h => ge r (by simp [h])
  have geM : ∀ r ∈ M, 1 ≤ r.length ∧ r.length ≤ chunk := fun r h => ge r (by simp [h])
  -- a leaf beside the fresh ones
  have beside : ∀ x r : List El, x.length ≤ fs.length → r ∈ cutRows chunk fs → 1 ≤ x.length → ∀ z : List El, 1 ≤ z.length → chunk / 2 < z.length + x.length → chunk / 2 < z.length + r.length := by
    intro x r hxl hr h1x z hz hzx
    rcases cutRows_half chunk fs hc r hr with rfl | hh
    · omega
    · omega
  have empty : cutRows chunk fs = [] → fs.length = 0 := fun h => by
    have := cutRows_flat chunk fs hc
    rw [h] at this
    rw [← this]
    rfl
  refine ⟨fun r hr => ?_, adj_append.2 ⟨pX, adj_append.2 ⟨cg.pair, pY, ?_⟩, ?_⟩⟩
  · simp only [List.mem_append] at hr
    rcases hr with hr | hr | hr
    · exact geX r hr
    · exact cg.each r hr
    · exact geY r hr
  · intro a' x y b' e1 e2
    obtain ⟨m, M', hM, hml⟩ := hy (by rw [e2]; simp)
    have hxr : x ∈ cutRows chunk fs := by rw [e1]; simp
    have hyl := (geY y (by rw [e2]; simp)).1
    have hmM : m ∈ M := by rw [hM]; simp
    have hp := pMY' M' m y b' hM e2
    have hb := beside m x hml hxr (geM m hmM).1 y hyl (by omega)
    show chunk / 2 < x.length + y.length
    omega
  · intro a' x y b' e1 e2
    have hX : X ≠ [] := by rw [e1]; simp
    obtain ⟨m, M', hM, hml⟩ := hx hX
    have hmM : m ∈ M := by rw [hM]; simp
    have hxl := (geX x (by rw [e1]; simp)).1
    have hp := pXM a' x m (M' ++ Y) e1 (by rw [hM]; rfl)
    have hm1 := (geM m hmM).1
    show chunk / 2 < x.length + y.length
    cases hcut : cutRows chunk fs with
    | nil => have := empty hcut; omega
    | cons r rest =>
      rw [hcut] at e2
      obtain ⟨rfl, -⟩ : r = y ∧ _ := List.cons.inj e2
      exact beside m r hml (by rw [hcut]; simp) hm1 x hxl hp
theorem Good.nil (chunk : Nat) : Good chunk [] := ⟨fun r h => by simp at h, trivial⟩
theorem Good.edit {chunk : Nat} {T T' : Tr} {i n : Nat} {ls : List El} (hg : Good chunk T.rows) (h : Edit chunk T i n ls T') (hc : 2 ≤ chunk) : Good chunk T'.rows := by
  rcases h.2 with ⟨_, _, rfl⟩ | h
  · exact hg
  · exact hg.changed h hc
end Go.Proofs.YtogkbddniacgiaaDoor
