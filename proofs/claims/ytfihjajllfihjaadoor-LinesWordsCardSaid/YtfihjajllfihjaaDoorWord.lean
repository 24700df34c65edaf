/- A word's characters; the document's Around over a row of characters: the walks. Conditions: the row lies in memory, fewer than 2^29 characters. The document's Around over a row of characters: the walk. Conditions: the row lies in memory, fewer than 2^29 characters. lines.Around: the walks. Conditions: the model and the reasons lie in memory, fewer than 2^29 elements. -/
import Derived.Test.YtfihjajllfihjaaDoorRunes
import Derived.Test.YtfihjajllfihjaaDoorUtf8
import Derived.Test.YtfihjajllfihjaaDoorLines2
import Derived.Lib.OthersKept
namespace Go.Proofs.YtfihjajllfihjaaDoor
set_option linter.unusedSimpArgs false
set_option linter.unusedVariables false
open Go Go.RowKit
def wordC (c : Int) : Bool := decide ((97 ≤ c ∧ c ≤ 122) ∨ (65 ≤ c ∧ c ≤ 90) ∨ (48 ≤ c ∧ c ≤ 57) ∨ 128 ≤ c)
set_option maxRecDepth 20000 in
theorem inWord_any (c : Int) (w : World) : Calls Tryd.prog 114 #[.int .i32 c] w fun e w' => e = .returned (.bool (wordC c)) ∧ w = w' := by
  by_cases h0 : c < 48
  · have a1 : ¬ c ≥ 97 := by omega
    have a2 : ¬ c ≥ 65 := by omega
    have a3 : ¬ c ≥ 48 := by omega
    have a4 : ¬ c ≥ 128 := by omega
    rw [show wordC c = false from decide_eq_false (by omega)]
    clear h0
    go_enter Tryd.func114, Tryd.ntmps114
    repeat' (first | (with_reducible refine Keep.last ?_) | (with_reducible refine Keep.below (by assumption) ?_) | (with_reducible refine Keep.kept (by assumption) ?_) | (with_reducible refine Keep.alloc ?_) | (with_reducible refine Keep.same ?_) | ((with_reducible refine WpH.here ?_); first | (refine WpH.nil ?_; refine NoP.normal ?_) | (refine WpH.load (by rfl) (by rfl) (by go_simp; rfl) ?_; simp only [Act.put, List.setIfInBounds_toArray, List.set_cons_zero, List.set_cons_succ]) | (refine WpH.loadT (by rfl) (by rfl) (by go_simp; rfl) (by rintro _ _ ⟨⟩; exact ⟨_, _, _, _, _, _, by rfl, by assumption, by assumption⟩) ?_; simp only [Act.put, List.setIfInBounds_toArray, List.set_cons_zero, List.set_cons_succ]) | (refine WpH.pure (by rfl) (fun w_ => by go_simp; (try go_bits); rfl) ?_; simp only [Act.put, List.setIfInBounds_toArray, List.set_cons_zero, List.set_cons_succ]) | (refine WpH.wild1 (by rfl) (fun _ _ => ?_)) | (refine WpH.skip (by rfl) ?_; simp only [Act.put, List.setIfInBounds_toArray, List.set_cons_zero, List.set_cons_succ])) | go_values | go_skip | go_guarded | go_step | go_upon | go_back)
    go_ret
    exact ⟨rfl, rfl⟩
  · by_cases h1 : c ≤ 57
    · have a1 : ¬ c ≥ 97 := by omega
      have a2 : ¬ c ≥ 65 := by omega
      have a3 : c ≥ 48 := by omega
      rw [show wordC c = true from decide_eq_true (by omega)]
      clear h0
      go_enter Tryd.func114, Tryd.ntmps114
      repeat' (first | (with_reducible refine Keep.last ?_) | (with_reducible refine Keep.below (by assumption) ?_) | (with_reducible refine Keep.kept (by assumption) ?_) | (with_reducible refine Keep.alloc ?_) | (with_reducible refine Keep.same ?_) | ((with_reducible refine WpH.here ?_); first | (refine WpH.nil ?_; refine NoP.normal ?_) | (refine WpH.load (by rfl) (by rfl) (by go_simp; rfl) ?_; simp only [Act.put, List.setIfInBounds_toArray, List.set_cons_zero, List.set_cons_succ]) | (refine WpH.loadT (by rfl) (by rfl) (by go_simp; rfl) (by rintro _ _ ⟨⟩; exact ⟨_, _, _, _, _, _, by rfl, by assumption, by assumption⟩) ?_; simp only [Act.put, List.setIfInBounds_toArray, List.set_cons_zero, List.set_cons_succ]) | (refine WpH.pure (by rfl) (fun w_ => by go_simp; (try go_bits); rfl) ?_; simp only [Act.put, List.setIfInBounds_toArray, List.set_cons_zero, List.set_cons_succ]) | (refine WpH.wild1 (by rfl) (fun _ _ => ?_)) | (refine WpH.skip (by rfl) ?_; simp only [Act.put, List.setIfInBounds_toArray, List.set_cons_zero, List.set_cons_succ])) | go_values | go_skip | go_guarded | go_step | go_upon | go_back)
      go_ret
      exact ⟨rfl, rfl⟩
    · by_cases h2 : c < 65
      · have a1 : ¬ c ≥ 97 := by omega
        have a2 : ¬ c ≥ 65 := by omega
        have a3 : c ≥ 48 := by omega
        have a4 : ¬ c ≥ 128 := by omega
        rw [show wordC c = false from decide_eq_false (by omega)]
        clear h0 h2
        go_enter Tryd.func114, Tryd.ntmps114
        repeat' (first | (with_reducible refine Keep.last ?_) | (with_reducible refine Keep.below (by assumption) ?_) | (with_reducible refine Keep.kept (by assumption) ?_) | (with_reducible refine Keep.alloc ?_) | (with_reducible refine Keep.same ?_) | ((with_reducible refine WpH.here ?_); first | (refine WpH.nil ?_; refine NoP.normal ?_) | (refine WpH.load (by rfl) (by rfl) (by go_simp; rfl) ?_; simp only [Act.put, List.setIfInBounds_toArray, List.set_cons_zero, List.set_cons_succ]) | (refine WpH.loadT (by rfl) (by rfl) (by go_simp; rfl) (by rintro _ _ ⟨⟩; exact ⟨_, _, _, _, _, _, by rfl, by assumption, by assumption⟩) ?_; simp only [Act.put, List.setIfInBounds_toArray, List.set_cons_zero, List.set_cons_succ]) | (refine WpH.pure (by rfl) (fun w_ => by go_simp; (try go_bits); rfl) ?_; simp only [Act.put, List.setIfInBounds_toArray, List.set_cons_zero, List.set_cons_succ]) | (refine WpH.wild1 (by rfl) (fun _ _ => ?_)) | (refine WpH.skip (by rfl) ?_; simp only [Act.put, List.setIfInBounds_toArray, List.set_cons_zero, List.set_cons_succ])) | go_values | go_skip | go_guarded | go_step | go_upon | go_back)
        go_ret
        exact ⟨rfl, rfl⟩
      · by_cases h3 : c ≤ 90
        · have a1 : ¬ c ≥ 97 := by omega
          have a2 : c ≥ 65 := by omega
          rw [show wordC c = true from decide_eq_true (by omega)]
          clear h0 h1 h2
          go_enter Tryd.func114, Tryd.ntmps114
          repeat' (first | (with_reducible refine Keep.last ?_) | (with_reducible refine Keep.below (by assumption) ?_) | (with_reducible refine Keep.kept (by assumption) ?_) | (with_reducible refine Keep.alloc ?_) | (with_reducible refine Keep.same ?_) | ((with_reducible refine WpH.here ?_); first | (refine WpH.nil ?_; refine NoP.normal ?_) | (refine WpH.load (by rfl) (by rfl) (by go_simp; rfl) ?_; simp only [Act.put, List.setIfInBounds_toArray, List.set_cons_zero, List.set_cons_succ]) | (refine WpH.loadT (by rfl) (by rfl) (by go_simp; rfl) (by rintro _ _ ⟨⟩; exact ⟨_, _, _, _, _, _, by rfl, by assumption, by assumption⟩) ?_; simp only [Act.put, List.setIfInBounds_toArray, List.set_cons_zero, List.set_cons_succ]) | (refine WpH.pure (by rfl) (fun w_ => by go_simp; (try go_bits); rfl) ?_; simp only [Act.put, List.setIfInBounds_toArray, List.set_cons_zero, List.set_cons_succ]) | (refine WpH.wild1 (by rfl) (fun _ _ => ?_)) | (refine WpH.skip (by rfl) ?_; simp only [Act.put, List.setIfInBounds_toArray, List.set_cons_zero, List.set_cons_succ])) | go_values | go_skip | go_guarded | go_step | go_upon | go_back)
          go_ret
          exact ⟨rfl, rfl⟩
        · by_cases h4 : c < 97
          · have a1 : ¬ c ≥ 97 := by omega
            have a2 : c ≥ 65 := by omega
            have a3 : c ≥ 48 := by omega
            have a4 : ¬ c ≥ 128 := by omega
            rw [show wordC c = false from decide_eq_false (by omega)]
            clear h0 h2 h4
            go_enter Tryd.func114, Tryd.ntmps114
            repeat' (first | (with_reducible refine Keep.last ?_) | (with_reducible refine Keep.below (by assumption) ?_) | (with_reducible refine Keep.kept (by assumption) ?_) | (with_reducible refine Keep.alloc ?_) | (with_reducible refine Keep.same ?_) | ((with_reducible refine WpH.here ?_); first | (refine WpH.nil ?_; refine NoP.normal ?_) | (refine WpH.load (by rfl) (by rfl) (by go_simp; rfl) ?_; simp only [Act.put, List.setIfInBounds_toArray, List.set_cons_zero, List.set_cons_succ]) | (refine WpH.loadT (by rfl) (by rfl) (by go_simp; rfl) (by rintro _ _ ⟨⟩; exact ⟨_, _, _, _, _, _, by rfl, by assumption, by assumption⟩) ?_; simp only [Act.put, List.setIfInBounds_toArray, List.set_cons_zero, List.set_cons_succ]) | (refine WpH.pure (by rfl) (fun w_ => by go_simp; (try go_bits); rfl) ?_; simp only [Act.put, List.setIfInBounds_toArray, List.set_cons_zero, List.set_cons_succ]) | (refine WpH.wild1 (by rfl) (fun _ _ => ?_)) | (refine WpH.skip (by rfl) ?_; simp only [Act.put, List.setIfInBounds_toArray, List.set_cons_zero, List.set_cons_succ])) | go_values | go_skip | go_guarded | go_step | go_upon | go_back)
            go_ret
            exact ⟨rfl, rfl⟩
          · by_cases h5 : c ≤ 122
            · have a1 : c ≥ 97 := by omega
              rw [show wordC c = true from decide_eq_true (by omega)]
              clear h0 h1 h2 h3 h4
              go_enter Tryd.func114, Tryd.ntmps114
              repeat' (first | (with_reducible refine Keep.last ?_) | (with_reducible refine Keep.below (by assumption) ?_) | (with_reducible refine Keep.kept (by assumption) ?_) | (with_reducible refine Keep.alloc ?_) | (with_reducible refine Keep.same ?_) | ((with_reducible refine WpH.here ?_); first | (refine WpH.nil ?_; refine NoP.normal ?_) | (refine WpH.load (by rfl) (by rfl) (by go_simp; rfl) ?_; simp only [Act.put, List.setIfInBounds_toArray, List.set_cons_zero, List.set_cons_succ]) | (refine WpH.loadT (by rfl) (by rfl) (by go_simp; rfl) (by rintro _ _ ⟨⟩; exact ⟨_, _, _, _, _, _, by rfl, by assumption, by assumption⟩) ?_; simp only [Act.put, List.setIfInBounds_toArray, List.set_cons_zero, List.set_cons_succ]) | (refine WpH.pure (by rfl) (fun w_ => by go_simp; (try go_bits); rfl) ?_; simp only [Act.put, List.setIfInBounds_toArray, List.set_cons_zero, List.set_cons_succ]) | (refine WpH.wild1 (by rfl) (fun _ _ => ?_)) | (refine WpH.skip (by rfl) ?_; simp only [Act.put, List.setIfInBounds_toArray, List.set_cons_zero, List.set_cons_succ])) | go_values | go_skip | go_guarded | go_step | go_upon | go_back)
              go_ret
              exact ⟨rfl, rfl⟩
            · have a1 : c ≥ 97 := by omega
              have a2 : c ≥ 65 := by omega
              have a3 : c ≥ 48 := by omega
              by_cases h6 : c ≥ 128
              · rw [show wordC c = true from decide_eq_true (by omega)]
                clear h0 h2 h4
                go_enter Tryd.func114, Tryd.ntmps114
                repeat' (first | (with_reducible refine Keep.last ?_) | (with_reducible refine Keep.below (by assumption) ?_) | (with_reducible refine Keep.kept (by assumption) ?_) | (with_reducible refine Keep.alloc ?_) | (with_reducible refine Keep.same ?_) | ((with_reducible refine WpH.here ?_); first | (refine WpH.nil ?_; refine NoP.normal ?_) | (refine WpH.load (by rfl) (by rfl) (by go_simp; rfl) ?_; simp only [Act.put, List.setIfInBounds_toArray, List.set_cons_zero, List.set_cons_succ]) | (refine WpH.loadT (by rfl) (by rfl) (by go_simp; rfl) (by rintro _ _ ⟨⟩; exact ⟨_, _, _, _, _, _, by rfl, by assumption, by assumption⟩) ?_; simp only [Act.put, List.setIfInBounds_toArray, List.set_cons_zero, List.set_cons_succ]) | (refine WpH.pure (by rfl) (fun w_ => by go_simp; (try go_bits); rfl) ?_; simp only [Act.put, List.setIfInBounds_toArray, List.set_cons_zero, List.set_cons_succ]) | (refine WpH.wild1 (by rfl) (fun _ _ => ?_)) | (refine WpH.skip (by rfl) ?_; simp only [Act.put, List.setIfInBounds_toArray, List.set_cons_zero, List.set_cons_succ])) | go_values | go_skip | go_guarded | go_step | go_upon | go_back)
                go_ret
                exact ⟨rfl, rfl⟩
              · rw [show wordC c = false from decide_eq_false (by omega)]
                clear h0 h2 h4
                go_enter Tryd.func114, Tryd.ntmps114
                repeat' (first | (with_reducible refine Keep.last ?_) | (with_reducible refine Keep.below (by assumption) ?_) | (with_reducible refine Keep.kept (by assumption) ?_) | (with_reducible refine Keep.alloc ?_) | (with_reducible refine Keep.same ?_) | ((with_reducible refine WpH.here ?_); first | (refine WpH.nil ?_; refine NoP.normal ?_) | (refine WpH.load (by rfl) (by rfl) (by go_simp; rfl) ?_; simp only [Act.put, List.setIfInBounds_toArray, List.set_cons_zero, List.set_cons_succ]) | (refine WpH.loadT (by rfl) (by rfl) (by go_simp; rfl) (by rintro _ _ ⟨⟩; exact ⟨_, _, _, _, _, _, by rfl, by assumption, by assumption⟩) ?_; simp only [Act.put, List.setIfInBounds_toArray, List.set_cons_zero, List.set_cons_succ]) | (refine WpH.pure (by rfl) (fun w_ => by go_simp; (try go_bits); rfl) ?_; simp only [Act.put, List.setIfInBounds_toArray, List.set_cons_zero, List.set_cons_succ]) | (refine WpH.wild1 (by rfl) (fun _ _ => ?_)) | (refine WpH.skip (by rfl) ?_; simp only [Act.put, List.setIfInBounds_toArray, List.set_cons_zero, List.set_cons_succ])) | go_values | go_skip | go_guarded | go_step | go_upon | go_back)
                go_ret
                exact ⟨rfl, rfl⟩
set_option maxRecDepth 20000 in
theorem refWord_any (c : Int) (w : World) : Calls Tryd.prog 115 #[.int .i32 c] w fun e w' => e = .returned (.bool (wordC c)) ∧ w = w' := by
  by_cases h0 : c < 48
  · have a1 : ¬ c ≥ 97 := by omega
    have a2 : ¬ c ≥ 65 := by omega
    have a3 : ¬ c ≥ 48 := by omega
    have a4 : ¬ c ≥ 128 := by omega
    rw [show wordC c = false from decide_eq_false (by omega)]
    clear h0
    go_enter Tryd.func115, Tryd.ntmps115
    repeat' (first | (with_reducible refine Keep.last ?_) | (with_reducible refine Keep.below (by assumption) ?_) | (with_reducible refine Keep.kept (by assumption) ?_) | (with_reducible refine Keep.alloc ?_) | (with_reducible refine Keep.same ?_) | ((with_reducible refine WpH.here ?_); first | (refine WpH.nil ?_; refine NoP.normal ?_) | (refine WpH.load (by rfl) (by rfl) (by go_simp; rfl) ?_; simp only [Act.put, List.setIfInBounds_toArray, List.set_cons_zero, List.set_cons_succ]) | (refine WpH.loadT (by rfl) (by rfl) (by go_simp; rfl) (by rintro _ _ ⟨⟩; exact ⟨_, _, _, _, _, _, by rfl, by assumption, by assumption⟩) ?_; simp only [Act.put, List.setIfInBounds_toArray, List.set_cons_zero, List.set_cons_succ]) | (refine WpH.pure (by rfl) (fun w_ => by go_simp; (try go_bits); rfl) ?_; simp only [Act.put, List.setIfInBounds_toArray, List.set_cons_zero, List.set_cons_succ]) | (refine WpH.wild1 (by rfl) (fun _ _ => ?_)) | (refine WpH.skip (by rfl) ?_; simp only [Act.put, List.setIfInBounds_toArray, List.set_cons_zero, List.set_cons_succ])) | go_values | go_skip | go_guarded | go_step | go_upon | go_back)
    go_ret
    exact ⟨rfl, rfl⟩
  · by_cases h1 : c ≤ 57
    · have a1 : ¬ c ≥ 97 := by omega
      have a2 : ¬ c ≥ 65 := by omega
      have a3 : c ≥ 48 := by omega
      rw [show wordC c = true from decide_eq_true (by omega)]
      clear h0
      go_enter Tryd.func115, Tryd.ntmps115
      repeat' (first | (with_reducible refine Keep.last ?_) | (with_reducible refine Keep.below (by assumption) ?_) | (with_reducible refine Keep.kept (by assumption) ?_) | (with_reducible refine Keep.alloc ?_) | (with_reducible refine Keep.same ?_) | ((with_reducible refine WpH.here ?_); first | (refine WpH.nil ?_; refine NoP.normal ?_) | (refine WpH.load (by rfl) (by rfl) (by go_simp; rfl) ?_; simp only [Act.put, List.setIfInBounds_toArray, List.set_cons_zero, List.set_cons_succ]) | (refine WpH.loadT (by rfl) (by rfl) (by go_simp; rfl) (by rintro _ _ ⟨⟩; exact ⟨_, _, _, _, _, _, by rfl, by assumption, by assumption⟩) ?_; simp only [Act.put, List.setIfInBounds_toArray, List.set_cons_zero, List.set_cons_succ]) | (refine WpH.pure (by rfl) (fun w_ => by go_simp; (try go_bits); rfl) ?_; simp only [Act.put, List.setIfInBounds_toArray, List.set_cons_zero, List.set_cons_succ]) | (refine WpH.wild1 (by rfl) (fun _ _ => ?_)) | (refine WpH.skip (by rfl) ?_; simp only [Act.put, List.setIfInBounds_toArray, List.set_cons_zero, List.set_cons_succ])) | go_values | go_skip | go_guarded | go_step | go_upon | go_back)
      go_ret
      exact ⟨rfl, rfl⟩
    · by_cases h2 : c < 65
      · have a1 : ¬ c ≥ 97 := by omega
        have a2 : ¬ c ≥ 65 := by omega
        have a3 : c ≥ 48 := by omega
        have a4 : ¬ c ≥ 128 := by omega
        rw [show wordC c = false from decide_eq_false (by omega)]
        clear h0 h2
        go_enter Tryd.func115, Tryd.ntmps115
        repeat' (first | (with_reducible refine Keep.last ?_) | (with_reducible refine Keep.below (by assumption) ?_) | (with_reducible refine Keep.kept (by assumption) ?_) | (with_reducible refine Keep.alloc ?_) | (with_reducible refine Keep.same ?_) | ((with_reducible refine WpH.here ?_); first | (refine WpH.nil ?_; refine NoP.normal ?_) | (refine WpH.load (by rfl) (by rfl) (by go_simp; rfl) ?_; simp only [Act.put, List.setIfInBounds_toArray, List.set_cons_zero, List.set_cons_succ]) | (refine WpH.loadT (by rfl) (by rfl) (by go_simp; rfl) (by rintro _ _ ⟨⟩; exact ⟨_, _, _, _, _, _, by rfl, by assumption, by assumption⟩) ?_; simp only [Act.put, List.setIfInBounds_toArray, List.set_cons_zero, List.set_cons_succ]) | (refine WpH.pure (by rfl) (fun w_ => by go_simp; (try go_bits); rfl) ?_; simp only [Act.put, List.setIfInBounds_toArray, List.set_cons_zero, List.set_cons_succ]) | (refine WpH.wild1 (by rfl) (fun _ _ => ?_)) | (refine WpH.skip (by rfl) ?_; simp only [Act.put, List.setIfInBounds_toArray, List.set_cons_zero, List.set_cons_succ])) | go_values | go_skip | go_guarded | go_step | go_upon | go_back)
        go_ret
        exact ⟨rfl, rfl⟩
      · by_cases h3 : c ≤ 90
        · have a1 : ¬ c ≥ 97 := by omega
          have a2 : c ≥ 65 := by omega
          rw [show wordC c = true from decide_eq_true (by omega)]
          clear h0 h1 h2
          go_enter Tryd.func115, Tryd.ntmps115
          repeat' (first | (with_reducible refine Keep.last ?_) | (with_reducible refine Keep.below (by assumption) ?_) | (with_reducible refine Keep.kept (by assumption) ?_) | (with_reducible refine Keep.alloc ?_) | (with_reducible refine Keep.same ?_) | ((with_reducible refine WpH.here ?_); first | (refine WpH.nil ?_; refine NoP.normal ?_) | (refine WpH.load (by rfl) (by rfl) (by go_simp; rfl) ?_; simp only [Act.put, List.setIfInBounds_toArray, List.set_cons_zero, List.set_cons_succ]) | (refine WpH.loadT (by rfl) (by rfl) (by go_simp; rfl) (by rintro _ _ ⟨⟩; exact ⟨_, _, _, _, _, _, by rfl, by assumption, by assumption⟩) ?_; simp only [Act.put, List.setIfInBounds_toArray, List.set_cons_zero, List.set_cons_succ]) | (refine WpH.pure (by rfl) (fun w_ => by go_simp; (try go_bits); rfl) ?_; simp only [Act.put, List.setIfInBounds_toArray, List.set_cons_zero, List.set_cons_succ]) | (refine WpH.wild1 (by rfl) (fun _ _ => ?_)) | (refine WpH.skip (by rfl) ?_; simp only [Act.put, List.setIfInBounds_toArray, List.set_cons_zero, List.set_cons_succ])) | go_values | go_skip | go_guarded | go_step | go_upon | go_back)
          go_ret
          exact ⟨rfl, rfl⟩
        · by_cases h4 : c < 97
          · have a1 : ¬ c ≥ 97 := by omega
            have a2 : c ≥ 65 := by omega
            have a3 : c ≥ 48 := by omega
            have a4 : ¬ c ≥ 128 := by omega
            rw [show wordC c = false from decide_eq_false (by omega)]
            clear h0 h2 h4
            go_enter Tryd.func115, Tryd.ntmps115
            repeat' (first | (with_reducible refine Keep.last ?_) | (with_reducible refine Keep.below (by assumption) ?_) | (with_reducible refine Keep.kept (by assumption) ?_) | (with_reducible refine Keep.alloc ?_) | (with_reducible refine Keep.same ?_) | ((with_reducible refine WpH.here ?_); first | (refine WpH.nil ?_; refine NoP.normal ?_) | (refine WpH.load (by rfl) (by rfl) (by go_simp; rfl) ?_; simp only [Act.put, List.setIfInBounds_toArray, List.set_cons_zero, List.set_cons_succ]) | (refine WpH.loadT (by rfl) (by rfl) (by go_simp; rfl) (by rintro _ _ ⟨⟩; exact ⟨_, _, _, _, _, _, by rfl, by assumption, by assumption⟩) ?_; simp only [Act.put, List.setIfInBounds_toArray, List.set_cons_zero, List.set_cons_succ]) | (refine WpH.pure (by rfl) (fun w_ => by go_simp; (try go_bits); rfl) ?_; simp only [Act.put, List.setIfInBounds_toArray, List.set_cons_zero, List.set_cons_succ]) | (refine WpH.wild1 (by rfl) (fun _ _ => ?_)) | (refine WpH.skip (by rfl) ?_; simp only [Act.put, List.setIfInBounds_toArray, List.set_cons_zero, List.set_cons_succ])) | go_values | go_skip | go_guarded | go_step | go_upon | go_back)
            go_ret
            exact ⟨rfl, rfl⟩
          · by_cases h5 : c ≤ 122
            · have a1 : c ≥ 97 := by omega
              rw [show wordC c = true from decide_eq_true (by omega)]
              clear h0 h1 h2 h3 h4
              go_enter Tryd.func115, Tryd.ntmps115
              repeat' (first | (with_reducible refine Keep.last ?_) | (with_reducible refine Keep.below (by assumption) ?_) | (with_reducible refine Keep.kept (by assumption) ?_) | (with_reducible refine Keep.alloc ?_) | (with_reducible refine Keep.same ?_) | ((with_reducible refine WpH.here ?_); first | (refine WpH.nil ?_; refine NoP.normal ?_) | (refine WpH.load (by rfl) (by rfl) (by go_simp; rfl) ?_; simp only [Act.put, List.setIfInBounds_toArray, List.set_cons_zero, List.set_cons_succ]) | (refine WpH.loadT (by rfl) (by rfl) (by go_simp; rfl) (by rintro _ _ ⟨⟩; exact ⟨_, _, _, _, _, _, by rfl, by assumption, by assumption⟩) ?_; simp only [Act.put, List.setIfInBounds_toArray, List.set_cons_zero, List.set_cons_succ]) | (refine WpH.pure (by rfl) (fun w_ => by go_simp; (try go_bits); rfl) ?_; simp only [Act.put, List.setIfInBounds_toArray, List.set_cons_zero, List.set_cons_succ]) | (refine WpH.wild1 (by rfl) (fun _ _ => ?_)) | (refine WpH.skip (by rfl) ?_; simp only [Act.put, List.setIfInBounds_toArray, List.set_cons_zero, List.set_cons_succ])) | go_values | go_skip | go_guarded | go_step | go_upon | go_back)
              go_ret
              exact ⟨rfl, rfl⟩
            · have a1 : c ≥ 97 := by omega
              have a2 : c ≥ 65 := by omega
              have a3 : c ≥ 48 := by omega
              by_cases h6 : c ≥ 128
              · rw [show wordC c = true from decide_eq_true (by omega)]
                clear h0 h2 h4
                go_enter Tryd.func115, Tryd.ntmps115
                repeat' (first | (with_reducible refine Keep.last ?_) | (with_reducible refine Keep.below (by assumption) ?_) | (with_reducible refine Keep.kept (by assumption) ?_) | (with_reducible refine Keep.alloc ?_) | (with_reducible refine Keep.same ?_) | ((with_reducible refine WpH.here ?_); first | (refine WpH.nil ?_; refine NoP.normal ?_) | (refine WpH.load (by rfl) (by rfl) (by go_simp; rfl) ?_; simp only [Act.put, List.setIfInBounds_toArray, List.set_cons_zero, List.set_cons_succ]) | (refine WpH.loadT (by rfl) (by rfl) (by go_simp; rfl) (by rintro _ _ ⟨⟩; exact ⟨_, _, _, _, _, _, by rfl, by assumption, by assumption⟩) ?_; simp only [Act.put, List.setIfInBounds_toArray, List.set_cons_zero, List.set_cons_succ]) | (refine WpH.pure (by rfl) (fun w_ => by go_simp; (try go_bits); rfl) ?_; simp only [Act.put, List.setIfInBounds_toArray, List.set_cons_zero, List.set_cons_succ]) | (refine WpH.wild1 (by rfl) (fun _ _ => ?_)) | (refine WpH.skip (by rfl) ?_; simp only [Act.put, List.setIfInBounds_toArray, List.set_cons_zero, List.set_cons_succ])) | go_values | go_skip | go_guarded | go_step | go_upon | go_back)
                go_ret
                exact ⟨rfl, rfl⟩
              · rw [show wordC c = false from decide_eq_false (by omega)]
                clear h0 h2 h4
                go_enter Tryd.func115, Tryd.ntmps115
                repeat' (first | (with_reducible refine Keep.last ?_) | (with_reducible refine Keep.below (by assumption) ?_) | (with_reducible refine Keep.kept (by assumption) ?_) | (with_reducible refine Keep.alloc ?_) | (with_reducible refine Keep.same ?_) | ((with_reducible refine WpH.here ?_); first | (refine WpH.nil ?_; refine NoP.normal ?_) | (refine WpH.load (by rfl) (by rfl) (by go_simp; rfl) ?_; simp only [Act.put, List.setIfInBounds_toArray, List.set_cons_zero, List.set_cons_succ]) | (refine WpH.loadT (by rfl) (by rfl) (by go_simp; rfl) (by rintro _ _ ⟨⟩; exact ⟨_, _, _, _, _, _, by rfl, by assumption, by assumption⟩) ?_; simp only [Act.put, List.setIfInBounds_toArray, List.set_cons_zero, List.set_cons_succ]) | (refine WpH.pure (by rfl) (fun w_ => by go_simp; (try go_bits); rfl) ?_; simp only [Act.put, List.setIfInBounds_toArray, List.set_cons_zero, List.set_cons_succ]) | (refine WpH.wild1 (by rfl) (fun _ _ => ?_)) | (refine WpH.skip (by rfl) ?_; simp only [Act.put, List.setIfInBounds_toArray, List.set_cons_zero, List.set_cons_succ])) | go_values | go_skip | go_guarded | go_step | go_upon | go_back)
                go_ret
                exact ⟨rfl, rfl⟩
end Go.Proofs.YtfihjajllfihjaaDoor
namespace Go.Proofs.YtfihjajllfihjaaDoor
set_option linter.unusedSimpArgs false
set_option linter.unusedVariables false
open Go Go.RowKit
/-- where the word that ends at k begins; how many of a word's characters follow -/
def backW (s : List Int) : Nat → Nat
  | 0 => 0
  | k + 1 => if wordC (s[k]?.getD 0) then backW s k else k + 1
def fwdW (s : List Int) (k : Nat) : Nat := k + ((s.drop k).takeWhile wordC).length
theorem fwdW_yes {s : List Int} {k : Nat} {c : Int} (h : s[k]? = some c) (hw : wordC c = true) : fwdW s k = fwdW s (k + 1) := by
  obtain ⟨hk, rfl⟩ := List.getElem?_eq_some_iff.1 h
  unfold fwdW
  rw [List.drop_eq_getElem_cons hk, List.takeWhile_cons_of_pos hw]
  simp
  omega
theorem fwdW_no {s : List Int} {k : Nat} {c : Int} (h : s[k]? = some c) (hw : wordC c = false) : fwdW s k = k := by
  obtain ⟨hk, rfl⟩ := List.getElem?_eq_some_iff.1 h
  unfold fwdW
  rw [List.drop_eq_getElem_cons hk, List.takeWhile_cons_of_neg (by simp [hw])]
  rfl
theorem fwdW_end (s : List Int) : fwdW s s.length = s.length := by simp [fwdW]
theorem backW_yes {s : List Int} {k : Nat} {c : Int} (h : s[k]? = some c) (hw : wordC c = true) : backW s (k + 1) = backW s k := by
  rw [backW, h]
  exact if_pos hw
theorem backW_no {s : List Int} {k : Nat} {c : Int} (h : s[k]? = some c) (hw : wordC c = false) : backW s (k + 1) = k + 1 := by
  rw [backW, h]
  exact if_neg (by simp [hw])
set_option maxRecDepth 100000 in
set_option maxHeartbeats 2000000 in
theorem refAround_any (w : World) (A : Option Addr) (n c p : Nat) (s : List Int) (S : Nat → Prop) (h : GRow w S A n c (s.map Rn.mk)) (hn : n ≤ 536870912) (hp : p ≤ n) :
    Calls Tryd.prog 61 #[.slice A n c, .int .i64 p] w fun e w' => e = .returned (.tuple #[.int .i64 (backW s p), .int .i64 (fwdW s p)]) ∧ Below w.heap.size w w' := by
  have Hr := hid h
  have hnl : s.length = n := by have := h.1; rwa [List.length_map] at this
  clear h
  have HW := hid (fun c W => refWord_any c W)
  go_enter Tryd.func61, Tryd.ntmps61
  repeat' (first | (with_reducible refine Keep.last ?_) | (with_reducible refine Keep.below (by assumption) ?_) | (with_reducible refine Keep.kept (by assumption) ?_) | (with_reducible refine Keep.alloc ?_) | (with_reducible refine Keep.same ?_) | ((with_reducible refine WpH.here ?_); first | (refine WpH.nil ?_; refine NoP.normal ?_) | (refine WpH.load (by rfl) (by rfl) (by go_simp; rfl) ?_; simp only [Act.put, List.setIfInBounds_toArray, List.set_cons_zero, List.set_cons_succ]) | (refine WpH.loadT (by rfl) (by rfl) (by go_simp; rfl) (by rintro _ _ ⟨⟩; exact ⟨_, _, _, _, _, _, by rfl, by assumption, by assumption⟩) ?_; simp only [Act.put, List.setIfInBounds_toArray, List.set_cons_zero, List.set_cons_succ]) | (refine WpH.pure (by rfl) (fun w_ => by go_simp; (try go_bits); rfl) ?_; simp only [Act.put, List.setIfInBounds_toArray, List.set_cons_zero, List.set_cons_succ]) | (refine WpH.wild1 (by rfl) (fun _ _ => ?_)) | (refine WpH.skip (by rfl) ?_; simp only [Act.put, List.setIfInBounds_toArray, List.set_cons_zero, List.set_cons_succ])) | go_values | go_skip | go_guarded | go_step | go_upon | go_back)
  go_loopw [6] (fun f wr => ∃ j : Nat, f = .int .i64 j ∧ j ≤ p ∧ Hid (backW s j = backW s p) ∧ Below w.heap.size w wr) (fun f _ => (intOf f).toNat)
  case atStart => exact ⟨p, rfl, Nat.le_refl _, hid rfl, Below.refl _ _⟩
  case round =>
    obtain ⟨j, rfl, hj, hjb, hbr⟩ := hrel
    by_cases h0 : j = 0
    · have hB : Hid (backW s p = 0) := hid (by rw [← hjb.out, h0]; rfl)
      have hj0 : ¬ (j : Int) > 0 := by omega
      subst h0
      rw [show ((0 : Nat) : Int) = 0 from rfl] at *
      repeat' (first | (go_at_call 115; go_must ((with_reducible refine Calls.mono (HW.out _ _) ?_); rintro _ _ ⟨rfl, rfl⟩; dsimp only)) | (with_reducible refine Keep.last ?_) | (with_reducible refine Keep.below (by assumption) ?_) | (with_reducible refine Keep.kept (by assumption) ?_) | (with_reducible refine Keep.alloc ?_) | (with_reducible refine Keep.same ?_) | ((with_reducible refine WpH.here ?_); first | (refine WpH.nil ?_; refine NoP.normal ?_) | (refine WpH.load (by rfl) (by rfl) (by go_simp; rfl) ?_; simp only [Act.put, List.setIfInBounds_toArray, List.set_cons_zero, List.set_cons_succ]) | (refine WpH.loadT (by rfl) (by rfl) (by go_simp; rfl) (by rintro _ _ ⟨⟩; exact ⟨_, _, _, _, _, _, by rfl, by assumption, by assumption⟩) ?_; simp only [Act.put, List.setIfInBounds_toArray, List.set_cons_zero, List.set_cons_succ]) | (refine WpH.pure (by rfl) (fun w_ => by go_simp; (try go_bits); rfl) ?_; simp only [Act.put, List.setIfInBounds_toArray, List.set_cons_zero, List.set_cons_succ]) | (refine WpH.wild1 (by rfl) (fun _ _ => ?_)) | (refine WpH.skip (by rfl) ?_; simp only [Act.put, List.setIfInBounds_toArray, List.set_cons_zero, List.set_cons_succ])) | go_values | go_skip | go_guarded | go_step | go_upon | go_back)
      go_loopw [7] (fun t wr => ∃ k : Nat, t = .int .i64 k ∧ p ≤ k ∧ k ≤ n ∧ Hid (fwdW s k = fwdW s p) ∧ Below w.heap.size w wr) (fun t _ => n - (intOf t).toNat)
      case atStart => exact ⟨p, rfl, Nat.le_refl _, hp, hid rfl, hbr⟩
      case round =>
        clear hbr
        obtain ⟨k, rfl, hpk, hkn, hkf, hbr⟩ := hrel
        by_cases hlt : k < n
        · obtain ⟨b, off, e, hA, hSb, hbl, he, hcell⟩ := (Hr.out.step hbr).at_ hlt
          try (subst hA)
          try (injection hA with hA; injection hA with hA1 hA2; subst hA1; subst hA2)
          obtain ⟨ch, hch, rfl⟩ : ∃ ch, s[k]? = some ch ∧ Rn.mk ch = e := by simpa using he
          have c0 : wr.cell? ⟨b, off + k * 1, none⟩ = some (.int .i32 ch) := hcell 0 _ rfl
          rw [Nat.mul_one] at c0
          have hki : (k : Int) < n := by omega
          have HWk := hid (HW.out ch wr)
          have Hch := hid hch
          clear hcell he hch hSb
          cases hwd : wordC ch
          · rw [hwd] at HWk
            have Hwd := hid hwd
            clear hwd
            repeat' (first | (go_at_call 115; go_must ((with_reducible refine Calls.mono HWk.out ?_); rintro _ _ ⟨rfl, rfl⟩; dsimp only)) | (with_reducible refine Keep.last ?_) | (with_reducible refine Keep.below (by assumption) ?_) | (with_reducible refine Keep.kept (by assumption) ?_) | (with_reducible refine Keep.alloc ?_) | (with_reducible refine Keep.same ?_) | ((with_reducible refine WpH.here ?_); first | (refine WpH.nil ?_; refine NoP.normal ?_) | (refine WpH.load (by rfl) (by rfl) (by go_simp; rfl) ?_; simp only [Act.put, List.setIfInBounds_toArray, List.set_cons_zero, List.set_cons_succ]) | (refine WpH.loadT (by rfl) (by rfl) (by go_simp; rfl) (by rintro _ _ ⟨⟩; exact ⟨_, _, _, _, _, _, by rfl, by assumption, by assumption⟩) ?_; simp only [Act.put, List.setIfInBounds_toArray, List.set_cons_zero, List.set_cons_succ]) | (refine WpH.pure (by rfl) (fun w_ => by go_simp; (try go_bits); rfl) ?_; simp only [Act.put, List.setIfInBounds_toArray, List.set_cons_zero, List.set_cons_succ]) | (refine WpH.wild1 (by rfl) (fun _ _ => ?_)) | (refine WpH.skip (by rfl) ?_; simp only [Act.put, List.setIfInBounds_toArray, List.set_cons_zero, List.set_cons_succ])) | go_values | go_skip | go_guarded | go_step | go_upon | go_back)
            skip
            go_ret2
            rw [hB.out, show fwdW s p = k by rw [← hkf.out, fwdW_no Hch.out Hwd.out]]
            exact ⟨rfl, hbr⟩
          · rw [hwd] at HWk
            have Hwd := hid hwd
            clear hwd
            repeat' (first | (go_at_call 115; go_must ((with_reducible refine Calls.mono HWk.out ?_); rintro _ _ ⟨rfl, rfl⟩; dsimp only)) | (with_reducible refine Keep.last ?_) | (with_reducible refine Keep.below (by assumption) ?_) | (with_reducible refine Keep.kept (by assumption) ?_) | (with_reducible refine Keep.alloc ?_) | (with_reducible refine Keep.same ?_) | ((with_reducible refine WpH.here ?_); first | (refine WpH.nil ?_; refine NoP.normal ?_) | (refine WpH.load (by rfl) (by rfl) (by go_simp; rfl) ?_; simp only [Act.put, List.setIfInBounds_toArray, List.set_cons_zero, List.set_cons_succ]) | (refine WpH.loadT (by rfl) (by rfl) (by go_simp; rfl) (by rintro _ _ ⟨⟩; exact ⟨_, _, _, _, _, _, by rfl, by assumption, by assumption⟩) ?_; simp only [Act.put, List.setIfInBounds_toArray, List.set_cons_zero, List.set_cons_succ]) | (refine WpH.pure (by rfl) (fun w_ => by go_simp; (try go_bits); rfl) ?_; simp only [Act.put, List.setIfInBounds_toArray, List.set_cons_zero, List.set_cons_succ]) | (refine WpH.wild1 (by rfl) (fun _ _ => ?_)) | (refine WpH.skip (by rfl) ?_; simp only [Act.put, List.setIfInBounds_toArray, List.set_cons_zero, List.set_cons_succ])) | go_values | go_skip | go_guarded | go_step | go_upon | go_back)
            skip
            go_roundw
            case rel => exact ⟨k + 1, by go_num, by omega, by omega, hid (by rw [← fwdW_yes Hch.out Hwd.out]; exact hkf.out), hbr⟩
            case measure => simp [intOf]; omega
        · obtain rfl : k = n := by omega
          repeat' (first | (with_reducible refine Keep.last ?_) | (with_reducible refine Keep.below (by assumption) ?_) | (with_reducible refine Keep.kept (by assumption) ?_) | (with_reducible refine Keep.alloc ?_) | (with_reducible refine Keep.same ?_) | ((with_reducible refine WpH.here ?_); first | (refine WpH.nil ?_; refine NoP.normal ?_) | (refine WpH.load (by rfl) (by rfl) (by go_simp; rfl) ?_; simp only [Act.put, List.setIfInBounds_toArray, List.set_cons_zero, List.set_cons_succ]) | (refine WpH.loadT (by rfl) (by rfl) (by go_simp; rfl) (by rintro _ _ ⟨⟩; exact ⟨_, _, _, _, _, _, by rfl, by assumption, by assumption⟩) ?_; simp only [Act.put, List.setIfInBounds_toArray, List.set_cons_zero, List.set_cons_succ]) | (refine WpH.pure (by rfl) (fun w_ => by go_simp; (try go_bits); rfl) ?_; simp only [Act.put, List.setIfInBounds_toArray, List.set_cons_zero, List.set_cons_succ]) | (refine WpH.wild1 (by rfl) (fun _ _ => ?_)) | (refine WpH.skip (by rfl) ?_; simp only [Act.put, List.setIfInBounds_toArray, List.set_cons_zero, List.set_cons_succ])) | go_values | go_skip | go_guarded | go_step | go_upon | go_back)
          skip
          go_ret2
          rw [hB.out, show fwdW s p = k by rw [← hkf.out, ← hnl]; exact fwdW_end s]
          exact ⟨rfl, hbr⟩
    · obtain ⟨i, rfl⟩ : ∃ i, j = i + 1 := ⟨j - 1, by omega⟩
      obtain ⟨b, off, e, rfl, hSb, hbl, he, hcell⟩ := (Hr.out.step hbr).at_ (show i < n by omega)
      obtain ⟨ch, hch, rfl⟩ : ∃ ch, s[i]? = some ch ∧ Rn.mk ch = e := by simpa using he
      have c0 : wr.cell? ⟨b, off + i * 1, none⟩ = some (.int .i32 ch) := hcell 0 _ rfl
      rw [Nat.mul_one] at c0
      obtain ⟨q, hq⟩ : ∃ q : Nat, q = i + 1 := ⟨_, rfl⟩
      have hqi : (q : Int) - 1 = i := by omega
      have hq0 : (q : Int) > 0 := by omega
      have hqb : (q : Int) ≤ 536870912 := by omega
      have hin_ : (i : Int) < n := by omega
      rw [← hq]
      have Hq := hid hq
      have HWk := hid (HW.out ch wr)
      have Hch := hid hch
      clear hcell he hch hSb hq
      cases hwd : wordC ch
      · rw [hwd] at HWk
        have hB : Hid (backW s p = q) := hid (by rw [← hjb.out, backW_no Hch.out hwd]; exact Hq.out.symm)
        clear hwd
        repeat' (first | (go_at_call 115; go_must ((with_reducible refine Calls.mono HWk.out ?_); rintro _ _ ⟨rfl, rfl⟩; dsimp only)) | (with_reducible refine Keep.last ?_) | (with_reducible refine Keep.below (by assumption) ?_) | (with_reducible refine Keep.kept (by assumption) ?_) | (with_reducible refine Keep.alloc ?_) | (with_reducible refine Keep.same ?_) | ((with_reducible refine WpH.here ?_); first | (refine WpH.nil ?_; refine NoP.normal ?_) | (refine WpH.load (by rfl) (by rfl) (by go_simp; rfl) ?_; simp only [Act.put, List.setIfInBounds_toArray, List.set_cons_zero, List.set_cons_succ]) | (refine WpH.loadT (by rfl) (by rfl) (by go_simp; rfl) (by rintro _ _ ⟨⟩; exact ⟨_, _, _, _, _, _, by rfl, by assumption, by assumption⟩) ?_; simp only [Act.put, List.setIfInBounds_toArray, List.set_cons_zero, List.set_cons_succ]) | (refine WpH.pure (by rfl) (fun w_ => by go_simp; (try go_bits); rfl) ?_; simp only [Act.put, List.setIfInBounds_toArray, List.set_cons_zero, List.set_cons_succ]) | (refine WpH.wild1 (by rfl) (fun _ _ => ?_)) | (refine WpH.skip (by rfl) ?_; simp only [Act.put, List.setIfInBounds_toArray, List.set_cons_zero, List.set_cons_succ])) | go_values | go_skip | go_guarded | go_step | go_upon | go_back)
        go_loopw [7] (fun t wr => ∃ k : Nat, t = .int .i64 k ∧ p ≤ k ∧ k ≤ n ∧ Hid (fwdW s k = fwdW s p) ∧ Below w.heap.size w wr) (fun t _ => n - (intOf t).toNat)
        case atStart => exact ⟨p, rfl, Nat.le_refl _, hp, hid rfl, hbr⟩
        case round =>
          clear hbr
          obtain ⟨k, rfl, hpk, hkn, hkf, hbr⟩ := hrel
          by_cases hlt : k < n
          · obtain ⟨b, off, e, hA, hSb, hbl, he, hcell⟩ := (Hr.out.step hbr).at_ hlt
            try (subst hA)
            try (injection hA with hA; injection hA with hA1 hA2; subst hA1; subst hA2)
            obtain ⟨ch, hch, rfl⟩ : ∃ ch, s[k]? = some ch ∧ Rn.mk ch = e := by simpa using he
            have c0 : wr.cell? ⟨b, off + k * 1, none⟩ = some (.int .i32 ch) := hcell 0 _ rfl
            rw [Nat.mul_one] at c0
            have hki : (k : Int) < n := by omega
            have HWk := hid (HW.out ch wr)
            have Hch := hid hch
            clear hcell he hch hSb
            cases hwd : wordC ch
            · rw [hwd] at HWk
              have Hwd := hid hwd
              clear hwd
              repeat' (first | (go_at_call 115; go_must ((with_reducible refine Calls.mono HWk.out ?_); rintro _ _ ⟨rfl, rfl⟩; dsimp only)) | (with_reducible refine Keep.last ?_) | (with_reducible refine Keep.below (by assumption) ?_) | (with_reducible refine Keep.kept (by assumption) ?_) | (with_reducible refine Keep.alloc ?_) | (with_reducible refine Keep.same ?_) | ((with_reducible refine WpH.here ?_); first | (refine WpH.nil ?_; refine NoP.normal ?_) | (refine WpH.load (by rfl) (by rfl) (by go_simp; rfl) ?_; simp only [Act.put, List.setIfInBounds_toArray, List.set_cons_zero, List.set_cons_succ]) | (refine WpH.loadT (by rfl) (by rfl) (by go_simp; rfl) (by rintro _ _ ⟨⟩; exact ⟨_, _, _, _, _, _, by rfl, by assumption, by assumption⟩) ?_; simp only [Act.put, List.setIfInBounds_toArray, List.set_cons_zero, List.set_cons_succ]) | (refine WpH.pure (by rfl) (fun w_ => by go_simp; (try go_bits); rfl) ?_; simp only [Act.put, List.setIfInBounds_toArray, List.set_cons_zero, List.set_cons_succ]) | (refine WpH.wild1 (by rfl) (fun _ _ => ?_)) | (refine WpH.skip (by rfl) ?_; simp only [Act.put, List.setIfInBounds_toArray, List.set_cons_zero, List.set_cons_succ])) | go_values | go_skip | go_guarded | go_step | go_upon | go_back)
              skip
              go_ret2
              rw [hB.out, show fwdW s p = k by rw [← hkf.out, fwdW_no Hch.out Hwd.out]]
              exact ⟨rfl, hbr⟩
            · rw [hwd] at HWk
              have Hwd := hid hwd
              clear hwd
              repeat' (first | (go_at_call 115; go_must ((with_reducible refine Calls.mono HWk.out ?_); rintro _ _ ⟨rfl, rfl⟩; dsimp only)) | (with_reducible refine Keep.last ?_) | (with_reducible refine Keep.below (by assumption) ?_) | (with_reducible refine Keep.kept (by assumption) ?_) | (with_reducible refine Keep.alloc ?_) | (with_reducible refine Keep.same ?_) | ((with_reducible refine WpH.here ?_); first | (refine WpH.nil ?_; refine NoP.normal ?_) | (refine WpH.load (by rfl) (by rfl) (by go_simp; rfl) ?_; simp only [Act.put, List.setIfInBounds_toArray, List.set_cons_zero, List.set_cons_succ]) | (refine WpH.loadT (by rfl) (by rfl) (by go_simp; rfl) (by rintro _ _ ⟨⟩; exact ⟨_, _, _, _, _, _, by rfl, by assumption, by assumption⟩) ?_; simp only [Act.put, List.setIfInBounds_toArray, List.set_cons_zero, List.set_cons_succ]) | (refine WpH.pure (by rfl) (fun w_ => by go_simp; (try go_bits); rfl) ?_; simp only [Act.put, List.setIfInBounds_toArray, List.set_cons_zero, List.set_cons_succ]) | (refine WpH.wild1 (by rfl) (fun _ _ => ?_)) | (refine WpH.skip (by rfl) ?_; simp only [Act.put, List.setIfInBounds_toArray, List.set_cons_zero, List.set_cons_succ])) | go_values | go_skip | go_guarded | go_step | go_upon | go_back)
              skip
              go_roundw
              case rel => exact ⟨k + 1, by go_num, by omega, by omega, hid (by rw [← fwdW_yes Hch.out Hwd.out]; exact hkf.out), hbr⟩
              case measure => simp [intOf]; omega
          · obtain rfl : k = n := by omega
            repeat' (first | (with_reducible refine Keep.last ?_) | (with_reducible refine Keep.below (by assumption) ?_) | (with_reducible refine Keep.kept (by assumption) ?_) | (with_reducible refine Keep.alloc ?_) | (with_reducible refine Keep.same ?_) | ((with_reducible refine WpH.here ?_); first | (refine WpH.nil ?_; refine NoP.normal ?_) | (refine WpH.load (by rfl) (by rfl) (by go_simp; rfl) ?_; simp only [Act.put, List.setIfInBounds_toArray, List.set_cons_zero, List.set_cons_succ]) | (refine WpH.loadT (by rfl) (by rfl) (by go_simp; rfl) (by rintro _ _ ⟨⟩; exact ⟨_, _, _, _, _, _, by rfl, by assumption, by assumption⟩) ?_; simp only [Act.put, List.setIfInBounds_toArray, List.set_cons_zero, List.set_cons_succ]) | (refine WpH.pure (by rfl) (fun w_ => by go_simp; (try go_bits); rfl) ?_; simp only [Act.put, List.setIfInBounds_toArray, List.set_cons_zero, List.set_cons_succ]) | (refine WpH.wild1 (by rfl) (fun _ _ => ?_)) | (refine WpH.skip (by rfl) ?_; simp only [Act.put, List.setIfInBounds_toArray, List.set_cons_zero, List.set_cons_succ])) | go_values | go_skip | go_guarded | go_step | go_upon | go_back)
            skip
            go_ret2
            rw [hB.out, show fwdW s p = k by rw [← hkf.out, ← hnl]; exact fwdW_end s]
            exact ⟨rfl, hbr⟩
      · rw [hwd] at HWk
        have hB : Hid (backW s i = backW s p) := hid (by rw [← hjb.out, backW_yes Hch.out hwd])
        clear hwd
        repeat' (first | (go_at_call 115; go_must ((with_reducible refine Calls.mono HWk.out ?_); rintro _ _ ⟨rfl, rfl⟩; dsimp only)) | (with_reducible refine Keep.last ?_) | (with_reducible refine Keep.below (by assumption) ?_) | (with_reducible refine Keep.kept (by assumption) ?_) | (with_reducible refine Keep.alloc ?_) | (with_reducible refine Keep.same ?_) | ((with_reducible refine WpH.here ?_); first | (refine WpH.nil ?_; refine NoP.normal ?_) | (refine WpH.load (by rfl) (by rfl) (by go_simp; rfl) ?_; simp only [Act.put, List.setIfInBounds_toArray, List.set_cons_zero, List.set_cons_succ]) | (refine WpH.loadT (by rfl) (by rfl) (by go_simp; rfl) (by rintro _ _ ⟨⟩; exact ⟨_, _, _, _, _, _, by rfl, by assumption, by assumption⟩) ?_; simp only [Act.put, List.setIfInBounds_toArray, List.set_cons_zero, List.set_cons_succ]) | (refine WpH.pure (by rfl) (fun w_ => by go_simp; (try go_bits); rfl) ?_; simp only [Act.put, List.setIfInBounds_toArray, List.set_cons_zero, List.set_cons_succ]) | (refine WpH.wild1 (by rfl) (fun _ _ => ?_)) | (refine WpH.skip (by rfl) ?_; simp only [Act.put, List.setIfInBounds_toArray, List.set_cons_zero, List.set_cons_succ])) | go_values | go_skip | go_guarded | go_step | go_upon | go_back)
        skip
        go_roundw
        case rel => exact ⟨i, rfl, by have := Hq.out; omega, hB, hbr⟩
        case measure => simp [intOf]; have := Hq.out; omega
end Go.Proofs.YtfihjajllfihjaaDoor
namespace Go.Proofs.YtfihjajllfihjaaDoor
set_option linter.unusedSimpArgs false
set_option linter.unusedVariables false
open Go Go.RowKit
variable {a : Nat → Addr}
theorem laround_no (w : World) (S S' : Nat → Prop) (mb : Nat) (l : List El) (K : Nat) (i : Int) (h : Mdl w S mb l K) (hl : l.length ≤ 536870912) (hi : i < 0 ∨ (liveOf l : Int) < i) (hs : Sents w S' a) :
    Calls Tryd.prog 60 #[.pointer (some ⟨mb, 0, none⟩), .int .i64 i] w fun e w' => ∃ v, e = .returned (.tuple #[.int .i64 0, .int .i64 0, v]) ∧ IsErr w' (Fr w S') a [⟨({ data := #[108, 105, 110, 101, 115] } : ByteArray), ({ data := #[65, 114, 111, 117, 110, 100] } : ByteArray), atOf i⟩] 2 v ∧ Below w.heap.size w w' := by
  have HE := hid (fun W (hb : Below w.heap.size w W) => lrefused_range (a := a) ({ data := #[65, 114, 111, 117, 110, 100] } : ByteArray) i mb W S' (hs.step hb))
  have HV := hid (mlive_any w S mb l K h)
  clear h
  by_cases h0 : i < 0
  · have hb1 := Below.refl w.heap.size w
    go_enter Tryd.func60, Tryd.ntmps60
    repeat' (first | (go_at_call 109; go_must ((with_reducible refine Calls.mono (HE.out _ hb1) ?_); rintro _ w4 ⟨v, rfl, hv, hb4⟩; dsimp only)) | (with_reducible refine Keep.last ?_) | (with_reducible refine Keep.below (by assumption) ?_) | (with_reducible refine Keep.kept (by assumption) ?_) | (with_reducible refine Keep.alloc ?_) | (with_reducible refine Keep.same ?_) | ((with_reducible refine WpH.here ?_); first | (refine WpH.nil ?_; refine NoP.normal ?_) | (refine WpH.load (by rfl) (by rfl) (by go_simp; rfl) ?_; simp only [Act.put, List.setIfInBounds_toArray, List.set_cons_zero, List.set_cons_succ]) | (refine WpH.loadT (by rfl) (by rfl) (by go_simp; rfl) (by rintro _ _ ⟨⟩; exact ⟨_, _, _, _, _, _, by rfl, by assumption, by assumption⟩) ?_; simp only [Act.put, List.setIfInBounds_toArray, List.set_cons_zero, List.set_cons_succ]) | (refine WpH.pure (by rfl) (fun w_ => by go_simp; (try go_bits); rfl) ?_; simp only [Act.put, List.setIfInBounds_toArray, List.set_cons_zero, List.set_cons_succ]) | (refine WpH.wild1 (by rfl) (fun _ _ => ?_)) | (refine WpH.skip (by rfl) ?_; simp only [Act.put, List.setIfInBounds_toArray, List.set_cons_zero, List.set_cons_succ])) | go_values | go_skip | go_guarded | go_step | go_upon | go_back)
    skip
    refine bodyPost_ret (v := .tuple #[.int .i64 0, .int .i64 0, v]) (by simp [results, Tryd.results60, go_sem]) rfl ⟨v, rfl, hv, hb4⟩
  · have hg : i > (liveOf l : Int) := by omega
    go_enter Tryd.func60, Tryd.ntmps60
    repeat' (first | (go_at_call 19; go_must ((with_reducible refine Calls.mono HV.out ?_); rintro _ w1 ⟨rfl, hb1⟩; dsimp only)) | (go_at_call 109; go_must ((with_reducible refine Calls.mono (HE.out _ hb1) ?_); rintro _ w4 ⟨v, rfl, hv, hb4⟩; dsimp only)) | (with_reducible refine Keep.last ?_) | (with_reducible refine Keep.below (by assumption) ?_) | (with_reducible refine Keep.kept (by assumption) ?_) | (with_reducible refine Keep.alloc ?_) | (with_reducible refine Keep.same ?_) | ((with_reducible refine WpH.here ?_); first | (refine WpH.nil ?_; refine NoP.normal ?_) | (refine WpH.load (by rfl) (by rfl) (by go_simp; rfl) ?_; simp only [Act.put, List.setIfInBounds_toArray, List.set_cons_zero, List.set_cons_succ]) | (refine WpH.loadT (by rfl) (by rfl) (by go_simp; rfl) (by rintro _ _ ⟨⟩; exact ⟨_, _, _, _, _, _, by rfl, by assumption, by assumption⟩) ?_; simp only [Act.put, List.setIfInBounds_toArray, List.set_cons_zero, List.set_cons_succ]) | (refine WpH.pure (by rfl) (fun w_ => by go_simp; (try go_bits); rfl) ?_; simp only [Act.put, List.setIfInBounds_toArray, List.set_cons_zero, List.set_cons_succ]) | (refine WpH.wild1 (by rfl) (fun _ _ => ?_)) | (refine WpH.skip (by rfl) ?_; simp only [Act.put, List.setIfInBounds_toArray, List.set_cons_zero, List.set_cons_succ])) | go_values | go_skip | go_guarded | go_step | go_upon | go_back)
    skip
    refine bodyPost_ret (v := .tuple #[.int .i64 0, .int .i64 0, v]) (by simp [results, Tryd.results60, go_sem]) rfl ⟨v, rfl, hv.cut hb1.size, bvia hb1 hb4⟩
/-- as far as the walk over the text has come: at the k-th character -/
def backP (s : List Int) (p k : Nat) : Nat := backW s (min k p)
set_option maxRecDepth 100000 in
set_option maxHeartbeats 4000000 in
theorem laround_ok (w : World) (S : Nat → Prop) (mb : Nat) (l : List El) (K p : Nat) (h : Mdl w S mb l K) (hl : l.length ≤ 134217728) (hp : p ≤ liveOf l) :
    Calls Tryd.prog 60 #[.pointer (some ⟨mb, 0, none⟩), .int .i64 p] w fun e w' => e = .returned (.tuple #[.int .i64 (backW (seenOf l) p), .int .i64 (fwdW (seenOf l) p), .nilIface]) ∧ Below w.heap.size w w' := by
  have hle := liveOf_le l
  have hpb : (p : Int) ≤ 536870912 := by omega
  have hpg : ¬ (p : Int) > liveOf l := by omega
  have HL := hid (mlive_any w S mb l K h)
  have HV := hid (fun W (hb : Below w.heap.size w W) => view_any W S mb l K (h.step hb) (by omega))
  have HR := hid (seen_right h.allGood)
  have HW := hid (fun c W => inWord_any c W)
  have hsl := seenOf_length l
  have hvs := viewOf_seen l
  have hvl := utf8S_le (seenOf l)
  rw [hvs] at HV
  generalize liveOf l = lv at *
  generalize seenOf l = s at *
  obtain ⟨sb, hsb⟩ : ∃ sb : ByteArray, (⟨(utf8S s).toArray⟩ : ByteArray) = sb := ⟨_, rfl⟩
  have hsz : sb.size = (utf8S s).length := by rw [← hsb]; rfl
  rw [hsb] at HV
  have Hsb := hid hsb
  have Hsz := hid hsz
  have Hsl := hid hsl
  clear h hsb hsz hvs hsl
  have D0 := Below.refl w.heap.size w
  go_enter Tryd.func60, Tryd.ntmps60
  repeat' (first | (go_at_call 19; go_must ((with_reducible refine Calls.mono HL.out ?_); rintro _ w1 ⟨rfl, hb1⟩; dsimp only)) | (go_at_call 18; go_must ((with_reducible refine Calls.mono (HV.out _ hb1) ?_); rintro _ w2 ⟨rfl, hb2⟩; have B2 := bvia hb1 hb2; dsimp only)) | (with_reducible refine Keep.last ?_) | (with_reducible refine Keep.below (by assumption) ?_) | (with_reducible refine Keep.kept (by assumption) ?_) | (with_reducible refine Keep.alloc ?_) | (with_reducible refine Keep.same ?_) | ((with_reducible refine WpH.here ?_); first | (refine WpH.nil ?_; refine NoP.normal ?_) | (refine WpH.load (by rfl) (by rfl) (by go_simp; rfl) ?_; simp only [Act.put, List.setIfInBounds_toArray, List.set_cons_zero, List.set_cons_succ]) | (refine WpH.loadT (by rfl) (by rfl) (by go_simp; rfl) (by rintro _ _ ⟨⟩; exact ⟨_, _, _, _, _, _, by rfl, by assumption, by assumption⟩) ?_; simp only [Act.put, List.setIfInBounds_toArray, List.set_cons_zero, List.set_cons_succ]) | (refine WpH.pure (by rfl) (fun w_ => by go_simp; (try go_bits); rfl) ?_; simp only [Act.put, List.setIfInBounds_toArray, List.set_cons_zero, List.set_cons_succ]) | (refine WpH.wild1 (by rfl) (fun _ _ => ?_)) | (refine WpH.skip (by rfl) ?_; simp only [Act.put, List.setIfInBounds_toArray, List.set_cons_zero, List.set_cons_succ])) | go_values | go_skip | go_guarded | go_step | go_upon | go_back)
  go_loopw [4, 7] (fun tf ta wr => ∃ k : Nat, ta = .int .i64 k ∧ tf = .int .i64 (backP s p k) ∧ k ≤ lv ∧ (p ≤ k → Hid (fwdW s k = fwdW s p)) ∧ wr.heap[w2.heap.size]? = some (.stringIter sb (posS s k)) ∧ Below w.heap.size w wr) (fun _ ta _ => lv - (intOf ta).toNat)
  case atStart =>
    refine ⟨0, rfl, by unfold backP; rw [Nat.zero_min]; rfl, Nat.zero_le _, fun h => hid (by rw [show p = 0 by omega]), ?_, balloc B2⟩
    have := World.iter_heap w2 sb 0
    exact this
  case round =>
    obtain ⟨k, rfl, rfl, hk, hkf, hit, hbr⟩ := hrel
    by_cases hlt : k < lv
    · obtain ⟨c, hc⟩ : ∃ c, s[k]? = some c := ⟨_, List.getElem?_eq_getElem (by rw [Hsl.out]; exact hlt)⟩
      have hrc := HR.out c (List.mem_of_getElem? hc)
      have hpos : posS s k < sb.size := by rw [Hsz.out]; exact posS_lt hc
      have hcb : 0 ≤ c ∧ c ≤ 1114111 := by
        unfold rightC at hrc
        have := of_decide_eq_true hrc
        omega
      have hnx0 : ∀ ty, (Instr.next (.pointer (some ⟨w2.heap.size, 0, none⟩)) true ty).run Tryd.prog wr = _ := fun ty => Lib.run_next_any_at wr w2.heap.size sb (posS s k) ty hit hpos
      have hdec : Utf8.decode sb (posS s k) = (c.toNat, (Lib.encodeRune c).length) := by rw [← Hsb.out]; exact decode_char hrc hc
      have hps := posS_succ hc
      rw [hdec] at hnx0
      dsimp only at hnx0
      rw [← hps, Int.toNat_of_nonneg hcb.1] at hnx0
      have hnx := hnx0
      have hit2 := Lib.iterAt_heap wr w2.heap.size sb (posS s k) (posS s (k + 1)) hit
      have hbr2 := Lib.below_iterAt hbr (k := w2.heap.size) (by have := B2.size; omega) sb (posS s (k + 1))
      have HWc := hid (fun W => HW.out c W)
      have Hc := hid hc
      have Hkf := hid hkf
      clear hnx0 hdec hps hit hrc hc hkf
      generalize hW : wr.iterAt w2.heap.size sb (posS s (k + 1)) = W at *
      cases hwd : wordC c
      · rw [hwd] at HWc
        by_cases hge : p ≤ k
        · have hgi : (k : Int) ≥ p := by omega
          repeat' (first | (go_at_call 114; go_must ((with_reducible refine Calls.mono (HWc.out _) ?_); rintro _ _ ⟨rfl, rfl⟩; dsimp only)) | (with_reducible refine Keep.last ?_) | (with_reducible refine Keep.below (by assumption) ?_) | (with_reducible refine Keep.kept (by assumption) ?_) | (with_reducible refine Keep.alloc ?_) | (with_reducible refine Keep.same ?_) | ((with_reducible refine WpH.here ?_); first | (refine WpH.nil ?_; refine NoP.normal ?_) | (refine WpH.load (by rfl) (by rfl) (by go_simp; rfl) ?_; simp only [Act.put, List.setIfInBounds_toArray, List.set_cons_zero, List.set_cons_succ]) | (refine WpH.loadT (by rfl) (by rfl) (by go_simp; rfl) (by rintro _ _ ⟨⟩; exact ⟨_, _, _, _, _, _, by rfl, by assumption, by assumption⟩) ?_; simp only [Act.put, List.setIfInBounds_toArray, List.set_cons_zero, List.set_cons_succ]) | (refine WpH.pure (by rfl) (fun w_ => by go_simp; (try go_bits); rfl) ?_; simp only [Act.put, List.setIfInBounds_toArray, List.set_cons_zero, List.set_cons_succ]) | (refine WpH.wild1 (by rfl) (fun _ _ => ?_)) | (refine WpH.skip (by rfl) ?_; simp only [Act.put, List.setIfInBounds_toArray, List.set_cons_zero, List.set_cons_succ])) | go_values | go_skip | go_guarded | go_step | go_upon | go_back)
          skip
          have h1 := (Hkf.out hge).out
          rw [fwdW_no Hc.out hwd] at h1
          refine bodyPost_ret (v := .tuple #[.int .i64 (backP s p k), .int .i64 k, .nilIface]) (by simp [results, Tryd.results60, go_sem]) rfl ⟨?_, hbr2⟩
          unfold backP
          rw [← h1, Nat.min_eq_right hge]
        · have hgi : ¬ (k : Int) ≥ p := by omega
          have Hb : Hid (backP s p (k + 1) = k + 1) := hid (by unfold backP; rw [Nat.min_eq_left (by omega), backW_no Hc.out hwd])
          have Hf : p ≤ k + 1 → Hid (fwdW s (k + 1) = fwdW s p) := fun h => hid (by rw [show p = k + 1 by omega])
          have Hwd := hid hwd
          clear hwd
          repeat' (first | (go_at_call 114; go_must ((with_reducible refine Calls.mono (HWc.out _) ?_); rintro _ _ ⟨rfl, rfl⟩; dsimp only)) | (with_reducible refine Keep.last ?_) | (with_reducible refine Keep.below (by assumption) ?_) | (with_reducible refine Keep.kept (by assumption) ?_) | (with_reducible refine Keep.alloc ?_) | (with_reducible refine Keep.same ?_) | ((with_reducible refine WpH.here ?_); first | (refine WpH.nil ?_; refine NoP.normal ?_) | (refine WpH.load (by rfl) (by rfl) (by go_simp; rfl) ?_; simp only [Act.put, List.setIfInBounds_toArray, List.set_cons_zero, List.set_cons_succ]) | (refine WpH.loadT (by rfl) (by rfl) (by go_simp; rfl) (by rintro _ _ ⟨⟩; exact ⟨_, _, _, _, _, _, by rfl, by assumption, by assumption⟩) ?_; simp only [Act.put, List.setIfInBounds_toArray, List.set_cons_zero, List.set_cons_succ]) | (refine WpH.pure (by rfl) (fun w_ => by go_simp; (try go_bits); rfl) ?_; simp only [Act.put, List.setIfInBounds_toArray, List.set_cons_zero, List.set_cons_succ]) | (refine WpH.wild1 (by rfl) (fun _ _ => ?_)) | (refine WpH.skip (by rfl) ?_; simp only [Act.put, List.setIfInBounds_toArray, List.set_cons_zero, List.set_cons_succ])) | go_values | go_skip | go_guarded | go_step | go_upon | go_back)
          skip
          go_roundw
          case rel => exact ⟨k + 1, by go_num, by rw [Hb.out]; go_num, by omega, Hf, hit2, hbr2⟩
          case measure => simp [intOf]; omega
      · rw [hwd] at HWc
        have Hb : Hid (backP s p (k + 1) = backP s p k) := hid (by
          unfold backP
          by_cases hge : p ≤ k
          · rw [Nat.min_eq_right hge, Nat.min_eq_right (by omega)]
          · rw [Nat.min_eq_left (by omega), Nat.min_eq_left (by omega), backW_yes Hc.out hwd])
        have Hf : p ≤ k + 1 → Hid (fwdW s (k + 1) = fwdW s p) := fun h => hid (by
          by_cases hge : p ≤ k
          · rw [← fwdW_yes Hc.out hwd]
            exact (Hkf.out hge).out
          · rw [show p = k + 1 by omega])
        have Hwd := hid hwd
        clear hwd
        repeat' (first | (go_at_call 114; go_must ((with_reducible refine Calls.mono (HWc.out _) ?_); rintro _ _ ⟨rfl, rfl⟩; dsimp only)) | (with_reducible refine Keep.last ?_) | (with_reducible refine Keep.below (by assumption) ?_) | (with_reducible refine Keep.kept (by assumption) ?_) | (with_reducible refine Keep.alloc ?_) | (with_reducible refine Keep.same ?_) | ((with_reducible refine WpH.here ?_); first | (refine WpH.nil ?_; refine NoP.normal ?_) | (refine WpH.load (by rfl) (by rfl) (by go_simp; rfl) ?_; simp only [Act.put, List.setIfInBounds_toArray, List.set_cons_zero, List.set_cons_succ]) | (refine WpH.loadT (by rfl) (by rfl) (by go_simp; rfl) (by rintro _ _ ⟨⟩; exact ⟨_, _, _, _, _, _, by rfl, by assumption, by assumption⟩) ?_; simp only [Act.put, List.setIfInBounds_toArray, List.set_cons_zero, List.set_cons_succ]) | (refine WpH.pure (by rfl) (fun w_ => by go_simp; (try go_bits); rfl) ?_; simp only [Act.put, List.setIfInBounds_toArray, List.set_cons_zero, List.set_cons_succ]) | (refine WpH.wild1 (by rfl) (fun _ _ => ?_)) | (refine WpH.skip (by rfl) ?_; simp only [Act.put, List.setIfInBounds_toArray, List.set_cons_zero, List.set_cons_succ])) | go_values | go_skip | go_guarded | go_step | go_upon | go_back)
        skip
        go_roundw
        case rel => exact ⟨k + 1, by go_num, by rw [Hb.out], by omega, Hf, hit2, hbr2⟩
        case measure => simp [intOf]; omega
    · obtain rfl : k = lv := by omega
      have hpos : ¬ posS s k < sb.size := by rw [Hsz.out, ← posS_end, Hsl.out]; exact Nat.lt_irrefl _
      have hnx : ∀ ty, (Instr.next (.pointer (some ⟨w2.heap.size, 0, none⟩)) true ty).run Tryd.prog wr = _ := fun ty => Lib.run_next_end_at wr w2.heap.size sb (posS s k) ty hit hpos
      have Hkf := hid hkf
      clear hkf hpos hit
      repeat' (first | (with_reducible refine Keep.last ?_) | (with_reducible refine Keep.below (by assumption) ?_) | (with_reducible refine Keep.kept (by assumption) ?_) | (with_reducible refine Keep.alloc ?_) | (with_reducible refine Keep.same ?_) | ((with_reducible refine WpH.here ?_); first | (refine WpH.nil ?_; refine NoP.normal ?_) | (refine WpH.load (by rfl) (by rfl) (by go_simp; rfl) ?_; simp only [Act.put, List.setIfInBounds_toArray, List.set_cons_zero, List.set_cons_succ]) | (refine WpH.loadT (by rfl) (by rfl) (by go_simp; rfl) (by rintro _ _ ⟨⟩; exact ⟨_, _, _, _, _, _, by rfl, by assumption, by assumption⟩) ?_; simp only [Act.put, List.setIfInBounds_toArray, List.set_cons_zero, List.set_cons_succ]) | (refine WpH.pure (by rfl) (fun w_ => by go_simp; (try go_bits); rfl) ?_; simp only [Act.put, List.setIfInBounds_toArray, List.set_cons_zero, List.set_cons_succ]) | (refine WpH.wild1 (by rfl) (fun _ _ => ?_)) | (refine WpH.skip (by rfl) ?_; simp only [Act.put, List.setIfInBounds_toArray, List.set_cons_zero, List.set_cons_succ])) | go_values | go_skip | go_guarded | go_step | go_upon | go_back)
      skip
      have h1 := (Hkf.out hp).out
      refine bodyPost_ret (v := .tuple #[.int .i64 (backP s p k), .int .i64 k, .nilIface]) (by simp [results, Tryd.results60, go_sem]) rfl ⟨?_, hbr⟩
      unfold backP
      rw [← h1, Nat.min_eq_right hp, show fwdW s k = k by rw [← Hsl.out]; exact fwdW_end s]
end Go.Proofs.YtfihjajllfihjaaDoor
