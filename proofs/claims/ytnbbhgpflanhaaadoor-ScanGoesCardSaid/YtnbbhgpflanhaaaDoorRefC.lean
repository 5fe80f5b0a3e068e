/- Walks: the references' instructions. -/
import Derived.Test.YtnbbhgpflanhaaaDoorRefA
namespace Go.Proofs.YtnbbhgpflanhaaaDoor
open Go.RowKit
set_option maxRecDepth 100000
set_option linter.unusedVariables false

set_option maxHeartbeats 3200000 in
theorem rform_calls (op : Int) (w : World) :
    Calls Tryd.prog 40 #[.int .i64 op] w fun e w' => e = .returned (.int .i64 (formS op)) ∧ w = w' := by
  go_enter Tryd.func40, Tryd.ntmps40
  go_wp2
  all_goals go_ret
  all_goals refine ⟨ret_i64 ?_, rfl⟩
  all_goals
    try simp only [beq_iff_eq, beq_eq_false_iff_ne, ne_eq] at *
    unfold formS
    (repeat' split) <;> omega
theorem rreg_calls (n : Int) (t : Bool) (w : World) :
    Calls Tryd.prog 75 #[.int .i64 n, .bool t] w fun e w' => e = .returned (.bool (regB n t)) ∧ w = w' := by
  cases t
  all_goals
    go_enter Tryd.func75, Tryd.ntmps75
    go_wp2
    all_goals go_ret
    all_goals refine ⟨ret_bool ?_, rfl⟩
    all_goals
      unfold regB
      rw [Bool.eq_iff_iff] <;> simp at * <;> omega
theorem rsigned_calls (x : Int) (h0 : 0 ≤ x) (h1 : x ≤ 4294967295) (w : World) :
    Calls Tryd.prog 105 #[.int .u32 x] w fun e w' => e = .returned (.int .i64 (sgn x)) ∧ w = w' := by
  unfold sgn
  by_cases h : 2147483648 ≤ x
  · rw [if_pos h]
    go_enter Tryd.func105, Tryd.ntmps105
    go_wp2
    go_ret
    exact ⟨rfl, rfl⟩
  · rw [if_neg h]
    go_enter Tryd.func105, Tryd.ntmps105
    go_wp2
    go_ret
    exact ⟨rfl, rfl⟩
theorem tmod2 (s : Int) : s.tmod 2 = 0 ↔ s % 2 = 0 := by
  rcases Int.le_total 0 s with h | h
  · rw [Int.tmod_eq_emod_of_nonneg h]
  · obtain ⟨m, rfl⟩ : ∃ m, s = -m := ⟨-s, by omega⟩
    rw [Int.neg_tmod, Int.tmod_eq_emod_of_nonneg (by omega)]
    omega
set_option maxHeartbeats 1600000 in
theorem rsig_calls (x n u : Int) (h0 : 0 ≤ x) (h1 : x ≤ 4294967295) (hn : (n = 21 ∧ u = 2) ∨ (n = 12 ∧ u = 1) ∨ (n = 13 ∧ u = 2)) (w : World) :
    Calls Tryd.prog 76 #[.int .u32 x, .int .i64 n, .int .i64 u] w fun e w' => e = .returned (.bool (immOk x (if n = 21 then 2 else if n = 12 then 3 else 4))) ∧ w = w' := by
  have hs := fun w' => rsigned_calls x h0 h1 w'
  have hsr : -2147483648 ≤ sgn x ∧ sgn x ≤ 2147483647 ∧ (sgn x - x) % 2 = 0 := by unfold sgn; split <;> omega
  obtain ⟨s0, s1, s2⟩ := hsr
  have e2 : immOk x 2 = decide (-1048576 ≤ sgn x ∧ sgn x < 1048576 ∧ x % 2 = 0) := rfl
  have e3 : immOk x 3 = decide (-2048 ≤ sgn x ∧ sgn x < 2048) := rfl
  have e4 : immOk x 4 = decide (-4096 ≤ sgn x ∧ sgn x < 4096 ∧ x % 2 = 0) := rfl
  generalize sgn x = s at *
  have HS := Lib.hid hs
  have E2 := Lib.hid e2
  have E3 := Lib.hid e3
  have E4 := Lib.hid e4
  have S2 := Lib.hid s2
  clear hs e2 e3 e4 s2
  rcases hn with ⟨rfl, rfl⟩ | ⟨rfl, rfl⟩ | ⟨rfl, rfl⟩
  · rw [if_pos rfl]
    go_enter Tryd.func76, Tryd.ntmps76
    go_wp2_with (first | (go_at_call 105; refine (HS.out _).mono ?_; rintro e w' ⟨rfl, rfl⟩) | (go_at_call 74; refine (power_calls _ (by omega) (by omega) _).mono ?_; rintro e w' ⟨rfl, rfl⟩))
    all_goals go_ret
    all_goals refine ⟨ret_bool ?_, rfl⟩
    all_goals
      rw [E2.out]
      have h22 := S2.out
      have h23 := tmod2 s
      rw [Bool.eq_iff_iff] <;> simp at * <;> omega
  · rw [if_neg (by omega), if_pos rfl]
    go_enter Tryd.func76, Tryd.ntmps76
    go_wp2_with (first | (go_at_call 105; refine (HS.out _).mono ?_; rintro e w' ⟨rfl, rfl⟩) | (go_at_call 74; refine (power_calls _ (by omega) (by omega) _).mono ?_; rintro e w' ⟨rfl, rfl⟩))
    all_goals go_ret
    all_goals refine ⟨ret_bool ?_, rfl⟩
    all_goals
      rw [E3.out]
      rw [Bool.eq_iff_iff] <;> simp at * <;> omega
  · rw [if_neg (by omega), if_neg (by omega)]
    go_enter Tryd.func76, Tryd.ntmps76
    go_wp2_with (first | (go_at_call 105; refine (HS.out _).mono ?_; rintro e w' ⟨rfl, rfl⟩) | (go_at_call 74; refine (power_calls _ (by omega) (by omega) _).mono ?_; rintro e w' ⟨rfl, rfl⟩))
    all_goals go_ret
    all_goals refine ⟨ret_bool ?_, rfl⟩
    all_goals
      rw [E4.out]
      have h22 := S2.out
      have h23 := tmod2 s
      rw [Bool.eq_iff_iff] <;> simp at * <;> omega
theorem rreckons_calls (op : Int) (w : World) :
    Calls Tryd.prog 53 #[.int .i64 op] w fun e w' => e = .returned (.bool (decide ((19 ≤ op ∧ op ≤ 37) ∨ (50 ≤ op ∧ op ≤ 57)))) ∧ w = w' := by
  go_enter Tryd.func53, Tryd.ntmps53
  go_wp2
  all_goals go_ret
  all_goals refine ⟨ret_bool ?_, rfl⟩
  all_goals
    rw [Bool.eq_iff_iff] <;> simp at * <;> omega
theorem rbranch_calls (op : Int) (w : World) :
    Calls Tryd.prog 34 #[.int .i64 op] w fun e w' => e = .returned (.bool (isBranch op)) ∧ w = w' := by
  go_enter Tryd.func34, Tryd.ntmps34
  go_wp2
  all_goals go_ret
  all_goals refine ⟨ret_bool ?_, rfl⟩
  all_goals
    unfold isBranch
    rw [Bool.eq_iff_iff] <;> simp at * <;> omega
end Go.Proofs.YtnbbhgpflanhaaaDoor
