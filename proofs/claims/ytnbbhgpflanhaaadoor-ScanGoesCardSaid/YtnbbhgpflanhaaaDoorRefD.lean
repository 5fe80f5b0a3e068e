/- Walks: the references' right instructions, and what can be translated. -/
import Derived.Test.YtnbbhgpflanhaaaDoorRefC
import Derived.Test.YtnbbhgpflanhaaaDoorWalkB
namespace Go.Proofs.YtnbbhgpflanhaaaDoor
open Go.RowKit
set_option maxRecDepth 100000
set_option linter.unusedVariables false

theorem right_form (a b c d e' f' f : Int) (hop : 0 ≤ a ∧ a < 58) (hf : formS a = f) : rightS ⟨a, b, c, d, e', f'⟩ =
    ((regB b (hasRd f) && regB c (decide (3 ≤ f ∧ f ≤ 8)) && regB d (decide (4 ≤ f ∧ f ≤ 6))) && (decide (0 ≤ f' ∧ f' ≤ 4095) && (decide (8 ≤ f) || decide (f' = 0))) && immOk e' f) := by
  unfold rightS
  simp only
  rw [hf, decide_eq_true hop, Bool.true_and]
def OpPost (w : World) (v : Bool) (e : Ending) (w' : World) : Prop := e = .returned (.bool v) ∧ Below w.heap.size w w'
set_option maxHeartbeats 6400000 in
theorem rrt_calls (a b c d e' f' : Int) (h0 : 0 ≤ e') (h1 : e' ≤ 4294967295) (w : World) :
    Calls Tryd.prog 52 #[.agg #[.int .i64 a, .int .i64 b, .int .i64 c, .int .i64 d, .int .u32 e', .int .i64 f']] w (OpPost w (rightS ⟨a, b, c, d, e', f'⟩)) := by
  by_cases hop : 0 ≤ a ∧ a < 58
  · have hfo := fun w' => rform_calls a w'
    rcases formS_range a with h | h | h | h | h | h | h | h | h | h
    all_goals
      have hr := right_form a b c d e' f' _ hop h
      rw [h] at hfo
      obtain ⟨o1, o2⟩ := hop
      simp [hasRd] at hr
      have hs := fun n u hn w' => rsig_calls e' n u h0 h1 hn w'
      have HFo := Lib.hid hfo
      have HR := Lib.hid hr
      have HS := Lib.hid hs
      clear h hfo hr hs
      go_enter Tryd.func52, Tryd.ntmps52
      go_wp2_with (first | (go_at_call 40; refine (HFo.out _).mono ?_; rintro e w' ⟨rfl, rfl⟩) | (go_at_call 75; refine (rreg_calls _ _ _).mono ?_; rintro e w' ⟨rfl, rfl⟩) | (go_at_call 76; refine (HS.out _ _ (by omega) _).mono ?_; rintro e w' ⟨rfl, rfl⟩))
      all_goals go_ret
      all_goals refine ⟨ret_bool ?_, bl_alloc (Below.refl _ _) _⟩
      all_goals
        rw [HR.out]
        clear HFo HR HS
        simp only [Bool.not_eq_true, Bool.not_eq_eq_eq_not, Bool.not_true, Bool.not_false, bne_iff_ne, bne_eq_false_iff_eq, ne_eq] at *
        simp [immOk, *]
        try first | omega | (rw [Bool.eq_iff_iff]; simp; omega) | (rw [Bool.eq_iff_iff]; simp)
  · have : rightS ⟨a, b, c, d, e', f'⟩ = false := by unfold rightS; simp only; rw [decide_eq_false hop]; simp
    rw [this]
    by_cases c1 : 0 ≤ a
    · have c2 : ¬ a < 58 := by omega
      clear hop this
      go_enter Tryd.func52, Tryd.ntmps52
      go_wp2_with fail
      go_ret
      exact ⟨rfl, bl_alloc (Below.refl _ _) _⟩
    · clear hop this
      go_enter Tryd.func52, Tryd.ntmps52
      go_wp2_with fail
      go_ret
      exact ⟨rfl, bl_alloc (Below.refl _ _) _⟩
end Go.Proofs.YtnbbhgpflanhaaaDoor
