/- Plain facts: a word's kind by its pattern. -/
import Derived.Test.YtnbbhgpflanhaaaDoorRefA
namespace Go.Proofs.YtnbbhgpflanhaaaDoor
open Go.RowKit
set_option maxRecDepth 100000
set_option linter.unusedVariables false
set_option linter.unusedSimpArgs false
/-- does a word fit a pattern? -/
def matchP (x : Int) (k : Nat) : Prop := bits .and .u32 x (patS.getD k (0, 0)).1 = (patS.getD k (0, 0)).2
set_option maxHeartbeats 4000000 in
theorem no_match (x : Int) (h0 : 0 ≤ x) (h1 : x ≤ 4294967295) (N : ∀ k : Nat, k < 57 → ¬ matchP x k) : kindS x = 0 := by
  have b0 : 0 ≤ x / 4096 % 8 ∧ x / 4096 % 8 ≤ 7 := by omega
  unfold kindS
  split
  · exfalso; exact N 0 (by decide) (by show bits .and .u32 x 127 = 55; rw [and_7f x h0 h1]; omega)
  split
  · exfalso; exact N 1 (by decide) (by show bits .and .u32 x 127 = 23; rw [and_7f x h0 h1]; omega)
  split
  · exfalso; exact N 2 (by decide) (by show bits .and .u32 x 127 = 111; rw [and_7f x h0 h1]; omega)
  split
  · split
    · exfalso
      have h : x / 4096 % 8 = 0 := by omega
      exact N 3 (by decide) (by show bits .and .u32 x 28799 = 103; rw [and_707f x h0 h1]; omega)
    · rfl
  split
  · unfold kBranch
    split
    · exfalso
      rcases (show x / 4096 % 8 = 0 ∨ x / 4096 % 8 = 1 by omega) with h | h
      · exact N 4 (by decide) (by show bits .and .u32 x 28799 = 99; rw [and_707f x h0 h1]; omega)
      · exact N 5 (by decide) (by show bits .and .u32 x 28799 = 4195; rw [and_707f x h0 h1]; omega)
    split
    · exfalso
      rcases (show x / 4096 % 8 = 4 ∨ x / 4096 % 8 = 5 ∨ x / 4096 % 8 = 6 ∨ x / 4096 % 8 = 7 by omega) with h | h | h | h
      · exact N 6 (by decide) (by show bits .and .u32 x 28799 = 16483; rw [and_707f x h0 h1]; omega)
      · exact N 7 (by decide) (by show bits .and .u32 x 28799 = 20579; rw [and_707f x h0 h1]; omega)
      · exact N 8 (by decide) (by show bits .and .u32 x 28799 = 24675; rw [and_707f x h0 h1]; omega)
      · exact N 9 (by decide) (by show bits .and .u32 x 28799 = 28771; rw [and_707f x h0 h1]; omega)
    · rfl
  split
  · unfold kLoad
    split
    · exfalso
      rcases (show x / 4096 % 8 = 0 ∨ x / 4096 % 8 = 1 ∨ x / 4096 % 8 = 2 by omega) with h | h | h
      · exact N 10 (by decide) (by show bits .and .u32 x 28799 = 3; rw [and_707f x h0 h1]; omega)
      · exact N 11 (by decide) (by show bits .and .u32 x 28799 = 4099; rw [and_707f x h0 h1]; omega)
      · exact N 12 (by decide) (by show bits .and .u32 x 28799 = 8195; rw [and_707f x h0 h1]; omega)
    split
    · exfalso
      rcases (show x / 4096 % 8 = 4 ∨ x / 4096 % 8 = 5 by omega) with h | h
      · exact N 13 (by decide) (by show bits .and .u32 x 28799 = 16387; rw [and_707f x h0 h1]; omega)
      · exact N 14 (by decide) (by show bits .and .u32 x 28799 = 20483; rw [and_707f x h0 h1]; omega)
    · rfl
  split
  · split
    · exfalso
      rcases (show x / 4096 % 8 = 0 ∨ x / 4096 % 8 = 1 ∨ x / 4096 % 8 = 2 by omega) with h | h | h
      · exact N 15 (by decide) (by show bits .and .u32 x 28799 = 35; rw [and_707f x h0 h1]; omega)
      · exact N 16 (by decide) (by show bits .and .u32 x 28799 = 4131; rw [and_707f x h0 h1]; omega)
      · exact N 17 (by decide) (by show bits .and .u32 x 28799 = 8227; rw [and_707f x h0 h1]; omega)
    · rfl
  split
  · unfold kImm
    split
    · exfalso
      have h : x / 4096 % 8 = 0 := by omega
      exact N 18 (by decide) (by show bits .and .u32 x 28799 = 19; rw [and_707f x h0 h1]; omega)
    split
    · exfalso
      have h : x / 4096 % 8 = 2 := by omega
      exact N 19 (by decide) (by show bits .and .u32 x 28799 = 8211; rw [and_707f x h0 h1]; omega)
    split
    · exfalso
      have h : x / 4096 % 8 = 3 := by omega
      exact N 20 (by decide) (by show bits .and .u32 x 28799 = 12307; rw [and_707f x h0 h1]; omega)
    split
    · exfalso
      have h : x / 4096 % 8 = 4 := by omega
      exact N 21 (by decide) (by show bits .and .u32 x 28799 = 16403; rw [and_707f x h0 h1]; omega)
    split
    · exfalso
      have h : x / 4096 % 8 = 6 := by omega
      exact N 22 (by decide) (by show bits .and .u32 x 28799 = 24595; rw [and_707f x h0 h1]; omega)
    split
    · exfalso
      have h : x / 4096 % 8 = 7 := by omega
      exact N 23 (by decide) (by show bits .and .u32 x 28799 = 28691; rw [and_707f x h0 h1]; omega)
    split
    · split
      · exfalso; exact N 24 (by decide) (by show bits .and .u32 x 4261441663 = 4115; rw [and_fe x h0 h1]; omega)
      · rfl
    split
    · exfalso
      have h : x / 4096 % 8 = 5 := by omega
      exact N 25 (by decide) (by show bits .and .u32 x 4261441663 = 20499; rw [and_fe x h0 h1]; omega)
    split
    · exfalso
      have h : x / 4096 % 8 = 5 := by omega
      exact N 26 (by decide) (by show bits .and .u32 x 4261441663 = 1073762323; rw [and_fe x h0 h1]; omega)
    · rfl
  split
  · unfold kReg
    split
    · exfalso
      rcases (show x / 4096 % 8 = 0 ∨ x / 4096 % 8 = 1 ∨ x / 4096 % 8 = 2 ∨ x / 4096 % 8 = 3 ∨ x / 4096 % 8 = 4 ∨ x / 4096 % 8 = 5 ∨ x / 4096 % 8 = 6 ∨ x / 4096 % 8 = 7 by omega) with h | h | h | h | h | h | h | h
      · exact N 27 (by decide) (by show bits .and .u32 x 4261441663 = 51; rw [and_fe x h0 h1]; omega)
      · exact N 29 (by decide) (by show bits .and .u32 x 4261441663 = 4147; rw [and_fe x h0 h1]; omega)
      · exact N 30 (by decide) (by show bits .and .u32 x 4261441663 = 8243; rw [and_fe x h0 h1]; omega)
      · exact N 31 (by decide) (by show bits .and .u32 x 4261441663 = 12339; rw [and_fe x h0 h1]; omega)
      · exact N 32 (by decide) (by show bits .and .u32 x 4261441663 = 16435; rw [and_fe x h0 h1]; omega)
      · exact N 33 (by decide) (by show bits .and .u32 x 4261441663 = 20531; rw [and_fe x h0 h1]; omega)
      · exact N 35 (by decide) (by show bits .and .u32 x 4261441663 = 24627; rw [and_fe x h0 h1]; omega)
      · exact N 36 (by decide) (by show bits .and .u32 x 4261441663 = 28723; rw [and_fe x h0 h1]; omega)
    split
    · exfalso
      rcases (show x / 4096 % 8 = 0 ∨ x / 4096 % 8 = 1 ∨ x / 4096 % 8 = 2 ∨ x / 4096 % 8 = 3 ∨ x / 4096 % 8 = 4 ∨ x / 4096 % 8 = 5 ∨ x / 4096 % 8 = 6 ∨ x / 4096 % 8 = 7 by omega) with h | h | h | h | h | h | h | h
      · exact N 49 (by decide) (by show bits .and .u32 x 4261441663 = 33554483; rw [and_fe x h0 h1]; omega)
      · exact N 50 (by decide) (by show bits .and .u32 x 4261441663 = 33558579; rw [and_fe x h0 h1]; omega)
      · exact N 51 (by decide) (by show bits .and .u32 x 4261441663 = 33562675; rw [and_fe x h0 h1]; omega)
      · exact N 52 (by decide) (by show bits .and .u32 x 4261441663 = 33566771; rw [and_fe x h0 h1]; omega)
      · exact N 53 (by decide) (by show bits .and .u32 x 4261441663 = 33570867; rw [and_fe x h0 h1]; omega)
      · exact N 54 (by decide) (by show bits .and .u32 x 4261441663 = 33574963; rw [and_fe x h0 h1]; omega)
      · exact N 55 (by decide) (by show bits .and .u32 x 4261441663 = 33579059; rw [and_fe x h0 h1]; omega)
      · exact N 56 (by decide) (by show bits .and .u32 x 4261441663 = 33583155; rw [and_fe x h0 h1]; omega)
    split
    · split
      · exfalso; exact N 28 (by decide) (by show bits .and .u32 x 4261441663 = 1073741875; rw [and_fe x h0 h1]; omega)
      split
      · exfalso; exact N 34 (by decide) (by show bits .and .u32 x 4261441663 = 1073762355; rw [and_fe x h0 h1]; omega)
      · rfl
    · rfl
  split
  · split
    · exfalso
      rcases (show x / 4096 % 8 = 0 ∨ x / 4096 % 8 = 1 by omega) with h | h
      · exact N 37 (by decide) (by show bits .and .u32 x 28799 = 15; rw [and_707f x h0 h1]; omega)
      · exact N 38 (by decide) (by show bits .and .u32 x 28799 = 4111; rw [and_707f x h0 h1]; omega)
    · rfl
  split
  · unfold kSys
    split
    · exfalso
      rcases (show x / 4096 % 8 = 1 ∨ x / 4096 % 8 = 2 ∨ x / 4096 % 8 = 3 by omega) with h | h | h
      · exact N 41 (by decide) (by show bits .and .u32 x 28799 = 4211; rw [and_707f x h0 h1]; omega)
      · exact N 42 (by decide) (by show bits .and .u32 x 28799 = 8307; rw [and_707f x h0 h1]; omega)
      · exact N 43 (by decide) (by show bits .and .u32 x 28799 = 12403; rw [and_707f x h0 h1]; omega)
    split
    · exfalso
      rcases (show x / 4096 % 8 = 5 ∨ x / 4096 % 8 = 6 ∨ x / 4096 % 8 = 7 by omega) with h | h | h
      · exact N 44 (by decide) (by show bits .and .u32 x 28799 = 20595; rw [and_707f x h0 h1]; omega)
      · exact N 45 (by decide) (by show bits .and .u32 x 28799 = 24691; rw [and_707f x h0 h1]; omega)
      · exact N 46 (by decide) (by show bits .and .u32 x 28799 = 28787; rw [and_707f x h0 h1]; omega)
    split
    · exfalso; exact N 39 (by decide) (by show bits .and .u32 x 4294967295 = 115; rw [and_all x h0 h1]; omega)
    split
    · exfalso; exact N 40 (by decide) (by show bits .and .u32 x 4294967295 = 1048691; rw [and_all x h0 h1]; omega)
    split
    · exfalso; exact N 47 (by decide) (by show bits .and .u32 x 4294967295 = 807403635; rw [and_all x h0 h1]; omega)
    split
    · exfalso; exact N 48 (by decide) (by show bits .and .u32 x 4294967295 = 273678451; rw [and_all x h0 h1]; omega)
    · rfl
  · rfl
set_option maxHeartbeats 4000000 in
theorem match_kind (x : Int) (h0 : 0 ≤ x) (h1 : x ≤ 4294967295) (k : Nat) (hk : k < 57) (h : matchP x k) : kindS x = k + 1 := by
  have b0 : 0 ≤ x / 4096 % 8 ∧ x / 4096 % 8 ≤ 7 := by omega
  have b1 : 0 ≤ x / 33554432 ∧ x / 33554432 ≤ 127 := by omega
  have b2 : 0 ≤ x % 128 ∧ x % 128 ≤ 127 := by omega
  obtain rfl | rfl | rfl | rfl | rfl | rfl | rfl | rfl | rfl | rfl | rfl | rfl | rfl | rfl | rfl | rfl | rfl | rfl | rfl | rfl | rfl | rfl | rfl | rfl | rfl | rfl | rfl | rfl | rfl | rfl | rfl | rfl | rfl | rfl | rfl | rfl | rfl | rfl | rfl | rfl | rfl | rfl | rfl | rfl | rfl | rfl | rfl | rfl | rfl | rfl | rfl | rfl | rfl | rfl | rfl | rfl | rfl : k = 0 ∨ k = 1 ∨ k = 2 ∨ k = 3 ∨ k = 4 ∨ k = 5 ∨ k = 6 ∨ k = 7 ∨ k = 8 ∨ k = 9 ∨ k = 10 ∨ k = 11 ∨ k = 12 ∨ k = 13 ∨ k = 14 ∨ k = 15 ∨ k = 16 ∨ k = 17 ∨ k = 18 ∨ k = 19 ∨ k = 20 ∨ k = 21 ∨ k = 22 ∨ k = 23 ∨ k = 24 ∨ k = 25 ∨ k = 26 ∨ k = 27 ∨ k = 28 ∨ k = 29 ∨ k = 30 ∨ k = 31 ∨ k = 32 ∨ k = 33 ∨ k = 34 ∨ k = 35 ∨ k = 36 ∨ k = 37 ∨ k = 38 ∨ k = 39 ∨ k = 40 ∨ k = 41 ∨ k = 42 ∨ k = 43 ∨ k = 44 ∨ k = 45 ∨ k = 46 ∨ k = 47 ∨ k = 48 ∨ k = 49 ∨ k = 50 ∨ k = 51 ∨ k = 52 ∨ k = 53 ∨ k = 54 ∨ k = 55 ∨ k = 56 := by omega
  · have e : bits .and .u32 x 127 = 55 := h
    rw [and_7f x h0 h1] at e
    simp [kindS, e]
  · have e : bits .and .u32 x 127 = 23 := h
    rw [and_7f x h0 h1] at e
    simp [kindS, e]
  · have e : bits .and .u32 x 127 = 111 := h
    rw [and_7f x h0 h1] at e
    simp [kindS, e]
  · have e : bits .and .u32 x 28799 = 103 := h
    rw [and_707f x h0 h1] at e
    have em : x % 128 = 103 := by omega
    have ef : x / 4096 % 8 = 0 := by omega
    simp [kindS, kBranch, kLoad, kImm, kReg, kSys, em, ef]
  · have e : bits .and .u32 x 28799 = 99 := h
    rw [and_707f x h0 h1] at e
    have em : x % 128 = 99 := by omega
    have ef : x / 4096 % 8 = 0 := by omega
    simp [kindS, kBranch, kLoad, kImm, kReg, kSys, em, ef]
  · have e : bits .and .u32 x 28799 = 4195 := h
    rw [and_707f x h0 h1] at e
    have em : x % 128 = 99 := by omega
    have ef : x / 4096 % 8 = 1 := by omega
    simp [kindS, kBranch, kLoad, kImm, kReg, kSys, em, ef]
  · have e : bits .and .u32 x 28799 = 16483 := h
    rw [and_707f x h0 h1] at e
    have em : x % 128 = 99 := by omega
    have ef : x / 4096 % 8 = 4 := by omega
    simp [kindS, kBranch, kLoad, kImm, kReg, kSys, em, ef]
  · have e : bits .and .u32 x 28799 = 20579 := h
    rw [and_707f x h0 h1] at e
    have em : x % 128 = 99 := by omega
    have ef : x / 4096 % 8 = 5 := by omega
    simp [kindS, kBranch, kLoad, kImm, kReg, kSys, em, ef]
  · have e : bits .and .u32 x 28799 = 24675 := h
    rw [and_707f x h0 h1] at e
    have em : x % 128 = 99 := by omega
    have ef : x / 4096 % 8 = 6 := by omega
    simp [kindS, kBranch, kLoad, kImm, kReg, kSys, em, ef]
  · have e : bits .and .u32 x 28799 = 28771 := h
    rw [and_707f x h0 h1] at e
    have em : x % 128 = 99 := by omega
    have ef : x / 4096 % 8 = 7 := by omega
    simp [kindS, kBranch, kLoad, kImm, kReg, kSys, em, ef]
  · have e : bits .and .u32 x 28799 = 3 := h
    rw [and_707f x h0 h1] at e
    have em : x % 128 = 3 := by omega
    have ef : x / 4096 % 8 = 0 := by omega
    simp [kindS, kBranch, kLoad, kImm, kReg, kSys, em, ef]
  · have e : bits .and .u32 x 28799 = 4099 := h
    rw [and_707f x h0 h1] at e
    have em : x % 128 = 3 := by omega
    have ef : x / 4096 % 8 = 1 := by omega
    simp [kindS, kBranch, kLoad, kImm, kReg, kSys, em, ef]
  · have e : bits .and .u32 x 28799 = 8195 := h
    rw [and_707f x h0 h1] at e
    have em : x % 128 = 3 := by omega
    have ef : x / 4096 % 8 = 2 := by omega
    simp [kindS, kBranch, kLoad, kImm, kReg, kSys, em, ef]
  · have e : bits .and .u32 x 28799 = 16387 := h
    rw [and_707f x h0 h1] at e
    have em : x % 128 = 3 := by omega
    have ef : x / 4096 % 8 = 4 := by omega
    simp [kindS, kBranch, kLoad, kImm, kReg, kSys, em, ef]
  · have e : bits .and .u32 x 28799 = 20483 := h
    rw [and_707f x h0 h1] at e
    have em : x % 128 = 3 := by omega
    have ef : x / 4096 % 8 = 5 := by omega
    simp [kindS, kBranch, kLoad, kImm, kReg, kSys, em, ef]
  · have e : bits .and .u32 x 28799 = 35 := h
    rw [and_707f x h0 h1] at e
    have em : x % 128 = 35 := by omega
    have ef : x / 4096 % 8 = 0 := by omega
    simp [kindS, kBranch, kLoad, kImm, kReg, kSys, em, ef]
  · have e : bits .and .u32 x 28799 = 4131 := h
    rw [and_707f x h0 h1] at e
    have em : x % 128 = 35 := by omega
    have ef : x / 4096 % 8 = 1 := by omega
    simp [kindS, kBranch, kLoad, kImm, kReg, kSys, em, ef]
  · have e : bits .and .u32 x 28799 = 8227 := h
    rw [and_707f x h0 h1] at e
    have em : x % 128 = 35 := by omega
    have ef : x / 4096 % 8 = 2 := by omega
    simp [kindS, kBranch, kLoad, kImm, kReg, kSys, em, ef]
  · have e : bits .and .u32 x 28799 = 19 := h
    rw [and_707f x h0 h1] at e
    have em : x % 128 = 19 := by omega
    have ef : x / 4096 % 8 = 0 := by omega
    simp [kindS, kBranch, kLoad, kImm, kReg, kSys, em, ef]
  · have e : bits .and .u32 x 28799 = 8211 := h
    rw [and_707f x h0 h1] at e
    have em : x % 128 = 19 := by omega
    have ef : x / 4096 % 8 = 2 := by omega
    simp [kindS, kBranch, kLoad, kImm, kReg, kSys, em, ef]
  · have e : bits .and .u32 x 28799 = 12307 := h
    rw [and_707f x h0 h1] at e
    have em : x % 128 = 19 := by omega
    have ef : x / 4096 % 8 = 3 := by omega
    simp [kindS, kBranch, kLoad, kImm, kReg, kSys, em, ef]
  · have e : bits .and .u32 x 28799 = 16403 := h
    rw [and_707f x h0 h1] at e
    have em : x % 128 = 19 := by omega
    have ef : x / 4096 % 8 = 4 := by omega
    simp [kindS, kBranch, kLoad, kImm, kReg, kSys, em, ef]
  · have e : bits .and .u32 x 28799 = 24595 := h
    rw [and_707f x h0 h1] at e
    have em : x % 128 = 19 := by omega
    have ef : x / 4096 % 8 = 6 := by omega
    simp [kindS, kBranch, kLoad, kImm, kReg, kSys, em, ef]
  · have e : bits .and .u32 x 28799 = 28691 := h
    rw [and_707f x h0 h1] at e
    have em : x % 128 = 19 := by omega
    have ef : x / 4096 % 8 = 7 := by omega
    simp [kindS, kBranch, kLoad, kImm, kReg, kSys, em, ef]
  · have e : bits .and .u32 x 4261441663 = 4115 := h
    rw [and_fe x h0 h1] at e
    have em : x % 128 = 19 := by omega
    have ef : x / 4096 % 8 = 1 := by omega
    have eg : x / 33554432 = 0 := by omega
    simp [kindS, kBranch, kLoad, kImm, kReg, kSys, em, ef, eg]
  · have e : bits .and .u32 x 4261441663 = 20499 := h
    rw [and_fe x h0 h1] at e
    have em : x % 128 = 19 := by omega
    have ef : x / 4096 % 8 = 5 := by omega
    have eg : x / 33554432 = 0 := by omega
    simp [kindS, kBranch, kLoad, kImm, kReg, kSys, em, ef, eg]
  · have e : bits .and .u32 x 4261441663 = 1073762323 := h
    rw [and_fe x h0 h1] at e
    have em : x % 128 = 19 := by omega
    have ef : x / 4096 % 8 = 5 := by omega
    have eg : x / 33554432 = 32 := by omega
    simp [kindS, kBranch, kLoad, kImm, kReg, kSys, em, ef, eg]
  · have e : bits .and .u32 x 4261441663 = 51 := h
    rw [and_fe x h0 h1] at e
    have em : x % 128 = 51 := by omega
    have ef : x / 4096 % 8 = 0 := by omega
    have eg : x / 33554432 = 0 := by omega
    simp [kindS, kBranch, kLoad, kImm, kReg, kSys, em, ef, eg]
  · have e : bits .and .u32 x 4261441663 = 1073741875 := h
    rw [and_fe x h0 h1] at e
    have em : x % 128 = 51 := by omega
    have ef : x / 4096 % 8 = 0 := by omega
    have eg : x / 33554432 = 32 := by omega
    simp [kindS, kBranch, kLoad, kImm, kReg, kSys, em, ef, eg]
  · have e : bits .and .u32 x 4261441663 = 4147 := h
    rw [and_fe x h0 h1] at e
    have em : x % 128 = 51 := by omega
    have ef : x / 4096 % 8 = 1 := by omega
    have eg : x / 33554432 = 0 := by omega
    simp [kindS, kBranch, kLoad, kImm, kReg, kSys, em, ef, eg]
  · have e : bits .and .u32 x 4261441663 = 8243 := h
    rw [and_fe x h0 h1] at e
    have em : x % 128 = 51 := by omega
    have ef : x / 4096 % 8 = 2 := by omega
    have eg : x / 33554432 = 0 := by omega
    simp [kindS, kBranch, kLoad, kImm, kReg, kSys, em, ef, eg]
  · have e : bits .and .u32 x 4261441663 = 12339 := h
    rw [and_fe x h0 h1] at e
    have em : x % 128 = 51 := by omega
    have ef : x / 4096 % 8 = 3 := by omega
    have eg : x / 33554432 = 0 := by omega
    simp [kindS, kBranch, kLoad, kImm, kReg, kSys, em, ef, eg]
  · have e : bits .and .u32 x 4261441663 = 16435 := h
    rw [and_fe x h0 h1] at e
    have em : x % 128 = 51 := by omega
    have ef : x / 4096 % 8 = 4 := by omega
    have eg : x / 33554432 = 0 := by omega
    simp [kindS, kBranch, kLoad, kImm, kReg, kSys, em, ef, eg]
  · have e : bits .and .u32 x 4261441663 = 20531 := h
    rw [and_fe x h0 h1] at e
    have em : x % 128 = 51 := by omega
    have ef : x / 4096 % 8 = 5 := by omega
    have eg : x / 33554432 = 0 := by omega
    simp [kindS, kBranch, kLoad, kImm, kReg, kSys, em, ef, eg]
  · have e : bits .and .u32 x 4261441663 = 1073762355 := h
    rw [and_fe x h0 h1] at e
    have em : x % 128 = 51 := by omega
    have ef : x / 4096 % 8 = 5 := by omega
    have eg : x / 33554432 = 32 := by omega
    simp [kindS, kBranch, kLoad, kImm, kReg, kSys, em, ef, eg]
  · have e : bits .and .u32 x 4261441663 = 24627 := h
    rw [and_fe x h0 h1] at e
    have em : x % 128 = 51 := by omega
    have ef : x / 4096 % 8 = 6 := by omega
    have eg : x / 33554432 = 0 := by omega
    simp [kindS, kBranch, kLoad, kImm, kReg, kSys, em, ef, eg]
  · have e : bits .and .u32 x 4261441663 = 28723 := h
    rw [and_fe x h0 h1] at e
    have em : x % 128 = 51 := by omega
    have ef : x / 4096 % 8 = 7 := by omega
    have eg : x / 33554432 = 0 := by omega
    simp [kindS, kBranch, kLoad, kImm, kReg, kSys, em, ef, eg]
  · have e : bits .and .u32 x 28799 = 15 := h
    rw [and_707f x h0 h1] at e
    have em : x % 128 = 15 := by omega
    have ef : x / 4096 % 8 = 0 := by omega
    simp [kindS, kBranch, kLoad, kImm, kReg, kSys, em, ef]
  · have e : bits .and .u32 x 28799 = 4111 := h
    rw [and_707f x h0 h1] at e
    have em : x % 128 = 15 := by omega
    have ef : x / 4096 % 8 = 1 := by omega
    simp [kindS, kBranch, kLoad, kImm, kReg, kSys, em, ef]
  · have e : bits .and .u32 x 4294967295 = 115 := h
    rw [and_all x h0 h1] at e
    subst e
    rfl
  · have e : bits .and .u32 x 4294967295 = 1048691 := h
    rw [and_all x h0 h1] at e
    subst e
    rfl
  · have e : bits .and .u32 x 28799 = 4211 := h
    rw [and_707f x h0 h1] at e
    have em : x % 128 = 115 := by omega
    have ef : x / 4096 % 8 = 1 := by omega
    simp [kindS, kBranch, kLoad, kImm, kReg, kSys, em, ef]
  · have e : bits .and .u32 x 28799 = 8307 := h
    rw [and_707f x h0 h1] at e
    have em : x % 128 = 115 := by omega
    have ef : x / 4096 % 8 = 2 := by omega
    simp [kindS, kBranch, kLoad, kImm, kReg, kSys, em, ef]
  · have e : bits .and .u32 x 28799 = 12403 := h
    rw [and_707f x h0 h1] at e
    have em : x % 128 = 115 := by omega
    have ef : x / 4096 % 8 = 3 := by omega
    simp [kindS, kBranch, kLoad, kImm, kReg, kSys, em, ef]
  · have e : bits .and .u32 x 28799 = 20595 := h
    rw [and_707f x h0 h1] at e
    have em : x % 128 = 115 := by omega
    have ef : x / 4096 % 8 = 5 := by omega
    simp [kindS, kBranch, kLoad, kImm, kReg, kSys, em, ef]
  · have e : bits .and .u32 x 28799 = 24691 := h
    rw [and_707f x h0 h1] at e
    have em : x % 128 = 115 := by omega
    have ef : x / 4096 % 8 = 6 := by omega
    simp [kindS, kBranch, kLoad, kImm, kReg, kSys, em, ef]
  · have e : bits .and .u32 x 28799 = 28787 := h
    rw [and_707f x h0 h1] at e
    have em : x % 128 = 115 := by omega
    have ef : x / 4096 % 8 = 7 := by omega
    simp [kindS, kBranch, kLoad, kImm, kReg, kSys, em, ef]
  · have e : bits .and .u32 x 4294967295 = 807403635 := h
    rw [and_all x h0 h1] at e
    subst e
    rfl
  · have e : bits .and .u32 x 4294967295 = 273678451 := h
    rw [and_all x h0 h1] at e
    subst e
    rfl
  · have e : bits .and .u32 x 4261441663 = 33554483 := h
    rw [and_fe x h0 h1] at e
    have em : x % 128 = 51 := by omega
    have ef : x / 4096 % 8 = 0 := by omega
    have eg : x / 33554432 = 1 := by omega
    simp [kindS, kBranch, kLoad, kImm, kReg, kSys, em, ef, eg]
  · have e : bits .and .u32 x 4261441663 = 33558579 := h
    rw [and_fe x h0 h1] at e
    have em : x % 128 = 51 := by omega
    have ef : x / 4096 % 8 = 1 := by omega
    have eg : x / 33554432 = 1 := by omega
    simp [kindS, kBranch, kLoad, kImm, kReg, kSys, em, ef, eg]
  · have e : bits .and .u32 x 4261441663 = 33562675 := h
    rw [and_fe x h0 h1] at e
    have em : x % 128 = 51 := by omega
    have ef : x / 4096 % 8 = 2 := by omega
    have eg : x / 33554432 = 1 := by omega
    simp [kindS, kBranch, kLoad, kImm, kReg, kSys, em, ef, eg]
  · have e : bits .and .u32 x 4261441663 = 33566771 := h
    rw [and_fe x h0 h1] at e
    have em : x % 128 = 51 := by omega
    have ef : x / 4096 % 8 = 3 := by omega
    have eg : x / 33554432 = 1 := by omega
    simp [kindS, kBranch, kLoad, kImm, kReg, kSys, em, ef, eg]
  · have e : bits .and .u32 x 4261441663 = 33570867 := h
    rw [and_fe x h0 h1] at e
    have em : x % 128 = 51 := by omega
    have ef : x / 4096 % 8 = 4 := by omega
    have eg : x / 33554432 = 1 := by omega
    simp [kindS, kBranch, kLoad, kImm, kReg, kSys, em, ef, eg]
  · have e : bits .and .u32 x 4261441663 = 33574963 := h
    rw [and_fe x h0 h1] at e
    have em : x % 128 = 51 := by omega
    have ef : x / 4096 % 8 = 5 := by omega
    have eg : x / 33554432 = 1 := by omega
    simp [kindS, kBranch, kLoad, kImm, kReg, kSys, em, ef, eg]
  · have e : bits .and .u32 x 4261441663 = 33579059 := h
    rw [and_fe x h0 h1] at e
    have em : x % 128 = 51 := by omega
    have ef : x / 4096 % 8 = 6 := by omega
    have eg : x / 33554432 = 1 := by omega
    simp [kindS, kBranch, kLoad, kImm, kReg, kSys, em, ef, eg]
  · have e : bits .and .u32 x 4261441663 = 33583155 := h
    rw [and_fe x h0 h1] at e
    have em : x % 128 = 51 := by omega
    have ef : x / 4096 % 8 = 7 := by omega
    have eg : x / 33554432 = 1 := by omega
    simp [kindS, kBranch, kLoad, kImm, kReg, kSys, em, ef, eg]
end Go.Proofs.YtnbbhgpflanhaaaDoor
