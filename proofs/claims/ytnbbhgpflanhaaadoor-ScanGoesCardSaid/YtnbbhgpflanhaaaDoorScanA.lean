/- Walks: which instructions are right, and can be translated. -/
import Derived.Test.YtnbbhgpflanhaaaDoorWalkG
namespace Go.Proofs.YtnbbhgpflanhaaaDoor
open Go.RowKit
set_option maxRecDepth 100000
set_option linter.unusedVariables false

def chainS (i : Ins) : Bool := decide (onlyS i (formS i.op) = i) && (regB i.rd true && (regB i.rs1 true && (regB i.rs2 true && (numOk i.imm (formS i.op) && decide (0 ≤ i.csr ∧ i.csr ≤ 4095)))))
theorem right_eq (i : Ins) (hop : 0 ≤ i.op ∧ i.op < 58) : rightS i = chainS i := by
  obtain ⟨a, b, c, d, e, f⟩ := i
  simp only at hop
  unfold rightS chainS
  simp only
  rw [show decide (0 ≤ a ∧ a < 58) = true by simpa using hop, Bool.true_and]
  rcases formS_range a with h | h | h | h | h | h | h | h | h | h
  all_goals
    rw [h]
    rw [Bool.eq_iff_iff]
    simp [onlyS, hasRd, regB, numOk, immOk]
    try omega
theorem decide_ne (i j : Ins) : decide (i ≠ j) = !decide (i = j) := by by_cases h : i = j <;> simp [h]
theorem ask_of (a b c d e' f' : Int) (hop : 0 ≤ a ∧ a < 58) (j : Ins) (hj : onlyS ⟨a, b, c, d, e', f'⟩ (formS a) = j) : RightAsk a b c d e' f' (formS a) j := by
  have hr := formS_range a
  have hFr : 0 ≤ formS a ∧ formS a ≤ 9 := by omega
  refine ⟨fun w' h => ?_, fun w' => ?_, fun w' => ?_⟩
  · have := form_calls a w' h
    rw [if_pos hop, if_pos hop] at this
    exact this
  · have := only_calls a b c d e' f' (formS a) hFr w'
    rw [hj] at this
    exact this
  · exact neq_ins j ⟨a, b, c, d, e', f'⟩ w'
set_option maxHeartbeats 1600000 in
theorem right_calls (a b c d e' f' : Int) (h0 : 0 ≤ e') (h1 : e' ≤ 4294967295) (w : World) (hF : FormsAt w) :
    Calls Tryd.prog 43 #[.agg #[.int .i64 a, .int .i64 b, .int .i64 c, .int .i64 d, .int .u32 e', .int .i64 f']] w fun e w' => e = .returned (.bool (rightS ⟨a, b, c, d, e', f'⟩)) ∧ Below w.heap.size w w' := by
  by_cases hop : 0 ≤ a ∧ a < 58
  · have hr := formS_range a
    have hFr : 0 ≤ formS a ∧ formS a ≤ 9 := by omega
    obtain ⟨j, hj⟩ : ∃ j, onlyS ⟨a, b, c, d, e', f'⟩ (formS a) = j := ⟨_, rfl⟩
    have ask := ask_of a b c d e' f' hop j hj
    have e : rightS ⟨a, b, c, d, e', f'⟩ = (decide (j = ⟨a, b, c, d, e', f'⟩) && (regB b true && (regB c true && (regB d true && (numOk e' (formS a) && decide (0 ≤ f' ∧ f' ≤ 4095)))))) := by
      rw [right_eq _ hop]; unfold chainS; simp only; rw [hj]
    rw [e]
    clear e hj
    generalize formS a = F at *
    by_cases hj : j = ⟨a, b, c, d, e', f'⟩
    · have hne : decide (j ≠ ⟨a, b, c, d, e', f'⟩) = false := decide_eq_false (by simpa using hj)
      rw [decide_eq_true hj]
      cases hb : regB b true
      · simp only [Bool.true_and, Bool.false_and]
        exact right_r1 a b c d e' f' F j w hF ask hne hb
      · cases hc : regB c true
        · simp only [Bool.true_and, Bool.false_and]
          exact right_r2 a b c d e' f' F j w hF ask hne hb hc
        · cases hd : regB d true
          · simp only [Bool.true_and, Bool.false_and]
            exact right_r3 a b c d e' f' F j w hF ask hne hb hc hd
          · simp only [Bool.true_and]
            exact right_all a b c d e' f' F j h0 h1 hFr w hF ask hne hb hc hd
    · rw [decide_eq_false hj, Bool.false_and]
      exact right_ne a b c d e' f' F j w hF ask (decide_eq_true hj)
  · have : rightS ⟨a, b, c, d, e', f'⟩ = false := by unfold rightS; simp only; rw [decide_eq_false hop]; simp
    rw [this]
    exact right_noop a b c d e' f' w hF hop
theorem has_op (op : Int) (w : World) : Calls Tryd.prog 29 #[.int .i64 op] w fun e w' => e = .returned (.bool (endsS op)) ∧ w = w' := by
  go_enter Tryd.func29, Tryd.ntmps29
  go_wp2
  all_goals go_ret
  all_goals refine ⟨ret_bool ?_, rfl⟩
  all_goals
    unfold endsS
    rw [Bool.eq_iff_iff]
    simp at *
    omega
end Go.Proofs.YtnbbhgpflanhaaaDoor
