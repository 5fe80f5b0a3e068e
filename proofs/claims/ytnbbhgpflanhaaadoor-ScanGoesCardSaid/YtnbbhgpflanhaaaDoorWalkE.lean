import Derived.Test.YtnbbhgpflanhaaaDoorWalkD
namespace Go.Proofs.YtnbbhgpflanhaaaDoor
open Go.RowKit
set_option maxRecDepth 100000
set_option linter.unusedVariables false

theorem neq_ins (i j : Ins) (w : World) : (binOp .neq 41 (insV i) (insV j)).run Tryd.prog w = .ok (.bool (decide (i ≠ j))) w := by
  obtain ⟨a, b, c, d, e, f⟩ := i
  obtain ⟨a', b', c', d', e', f'⟩ := j
  simp only [insV]
  go_simp
  by_cases h1 : a = a' <;> by_cases h2 : b = b' <;> by_cases h3 : c = c' <;> by_cases h4 : d = d' <;> by_cases h5 : e = e' <;> by_cases h6 : f = f' <;> simp [h1, h2, h3, h4, h5, h6]
theorem regs_calls (n : Int) (w : World) :
    Calls Tryd.prog 68 #[.int .i64 n] w fun e w' => e = .returned (.bool (regB n true)) ∧ w = w' := by
  go_enter Tryd.func68, Tryd.ntmps68
  go_wp2
  all_goals go_ret
  all_goals refine ⟨ret_bool ?_, rfl⟩
  all_goals simp [regB]
  all_goals omega
def numOk (x f : Int) : Bool := if f = 0 ∨ f = 6 ∨ f = 8 then true else immOk x f
theorem num_1 (x : Int) : (x % 4096 == 0) = numOk x 1 := by
  show _ = decide (x % 4096 = 0)
  rw [Bool.eq_iff_iff, beq_iff_eq, decide_eq_true_eq]
theorem num_2 (x : Int) (h0 : 0 ≤ x) (h1 : x ≤ 4294967295) (h : x % 2 = 0) : (wrap32 (x * 2048 % 4294967296) / 2048 % 4294967296 == x) = numOk x 2 := by
  show _ = decide (-1048576 ≤ sgn x ∧ sgn x < 1048576 ∧ x % 2 = 0)
  rw [Bool.eq_iff_iff, beq_iff_eq, decide_eq_true_eq]
  unfold wrap32 sgn
  split <;> omega
theorem num_2o (x : Int) (h : ¬ x % 2 = 0) : false = numOk x 2 := by
  show _ = decide (-1048576 ≤ sgn x ∧ sgn x < 1048576 ∧ x % 2 = 0)
  simp [h]
theorem num_4 (x : Int) (h0 : 0 ≤ x) (h1 : x ≤ 4294967295) (h : x % 2 = 0) : (wrap32 (x * 524288 % 4294967296) / 524288 % 4294967296 == x) = numOk x 4 := by
  show _ = decide (-4096 ≤ sgn x ∧ sgn x < 4096 ∧ x % 2 = 0)
  rw [Bool.eq_iff_iff, beq_iff_eq, decide_eq_true_eq]
  unfold wrap32 sgn
  split <;> omega
theorem num_4o (x : Int) (h : ¬ x % 2 = 0) : false = numOk x 4 := by
  show _ = decide (-4096 ≤ sgn x ∧ sgn x < 4096 ∧ x % 2 = 0)
  simp [h]
theorem num_35 (x f : Int) (h0 : 0 ≤ x) (h1 : x ≤ 4294967295) (h : f = 3 ∨ f = 5) : (wrap32 (x * 1048576 % 4294967296) / 1048576 % 4294967296 == x) = numOk x f := by
  have e : numOk x f = decide (-2048 ≤ sgn x ∧ sgn x < 2048) := by rcases h with rfl | rfl <;> rfl
  rw [e, Bool.eq_iff_iff, beq_iff_eq, decide_eq_true_eq]
  unfold wrap32 sgn
  split <;> omega
theorem num_79 (x f : Int) (h : f = 7 ∨ f = 9) : decide (x ≤ 31) = numOk x f := by
  have e : numOk x f = decide (x < 32) := by rcases h with rfl | rfl <;> rfl
  rw [e, decide_eq_decide]
  omega
set_option maxHeartbeats 1600000 in
theorem inumber_calls (x f : Int) (h0 : 0 ≤ x) (h1 : x ≤ 4294967295) (hf : 0 ≤ f ∧ f ≤ 9) (w : World) :
    Calls Tryd.prog 69 #[.int .u32 x, .int .i64 f] w fun e w' => e = .returned (.bool (numOk x f)) ∧ w = w' := by
  have e1 := and_1 x h0 h1
  have e2 := and_fff x h0 h1
  go_enter Tryd.func69, Tryd.ntmps69
  go_wp2
  all_goals go_ret
  all_goals refine ⟨ret_bool ?_, rfl⟩
  all_goals
    clear e1 e2
    simp only [beq_iff_eq, beq_eq_false_iff_ne, ne_eq] at *
    first
      | (have e : f = 1 := (by assumption); subst e; exact num_1 x)
      | (have e : f = 2 := (by assumption); subst e; first | exact num_2 x h0 h1 (by assumption) | exact num_2o x (by assumption))
      | (have e : f = 4 := (by assumption); subst e; first | exact num_4 x h0 h1 (by assumption) | exact num_4o x (by assumption))
      | exact num_35 x f h0 h1 (by omega)
      | exact num_79 x f (by omega)
      | (unfold numOk; rw [if_pos (by omega)])
end Go.Proofs.YtnbbhgpflanhaaaDoor
