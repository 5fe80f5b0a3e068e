/- Walks: what the references can translate. -/
import Derived.Test.YtnbbhgpflanhaaaDoorRefD
namespace Go.Proofs.YtnbbhgpflanhaaaDoor
open Go.RowKit
set_option maxRecDepth 100000
set_option linter.unusedVariables false
set_option linter.unusedSimpArgs false
set_option maxHeartbeats 3200000 in
theorem rcan_calls (a b c d e' f' : Int) (h0 : 0 ≤ e') (h1 : e' ≤ 4294967295) (w : World) :
    Calls Tryd.prog 33 #[.agg #[.int .i64 a, .int .i64 b, .int .i64 c, .int .i64 d, .int .u32 e', .int .i64 f']] w (OpPost w (canS ⟨a, b, c, d, e', f'⟩)) := by
  have hr := fun w' => rrt_calls a b c d e' f' h0 h1 w'
  unfold canS
  simp only
  cases hR : rightS ⟨a, b, c, d, e', f'⟩
  · rw [hR] at hr
    have HR := Lib.hid hr
    clear hr hR
    rw [Bool.false_and]
    go_enter Tryd.func33, Tryd.ntmps33
    go_wp2_with (go_at_call 52; refine (HR.out _).mono ?_; rintro e w1 ⟨rfl, hb1⟩; obtain ⟨hc1, hf1⟩ := bcell hb1)
    go_ret
    exact ⟨rfl, bl_then (bl_alloc (Below.refl _ _) _) hb1⟩
  · rw [hR] at hr
    have HR := Lib.hid hr
    clear hr hR
    rw [Bool.true_and]
    by_cases c3 : a = 3
    · subst c3
      rw [if_pos rfl]
      go_enter Tryd.func33, Tryd.ntmps33
      go_wp2_with (go_at_call 52; refine (HR.out _).mono ?_; rintro e w1 ⟨rfl, hb1⟩; obtain ⟨hc1, hf1⟩ := bcell hb1)
      go_ret
      exact ⟨ret_bool (by rw [Bool.eq_iff_iff]; simp), bl_then (bl_alloc (Below.refl _ _) _) hb1⟩
    · rw [if_neg c3]
      have q3 : (a == 3) = false := beq_eq_false_iff_ne.2 c3
      have hrk := fun w' => rreckons_calls a w'
      have hbr := fun w' => rbranch_calls a w'
      obtain ⟨t1, ht1⟩ : ∃ t, isBranch a = t := ⟨_, rfl⟩
      obtain ⟨t2, ht2⟩ : ∃ t, decide ((19 ≤ a ∧ a ≤ 37) ∨ (50 ≤ a ∧ a ≤ 57)) = t := ⟨_, rfl⟩
      rw [ht2] at hrk
      rw [ht1] at hbr
      obtain ⟨V, hV⟩ : ∃ V, decide (a = 1 ∨ a = 2 ∨ a = 4 ∨ (5 ≤ a ∧ a ≤ 10) ∨ (11 ≤ a ∧ a ≤ 18) ∨ a = 38 ∨ (19 ≤ a ∧ a ≤ 37) ∨ (50 ≤ a ∧ a ≤ 57)) = V := ⟨_, rfl⟩
      rw [hV]
      have T1 := Lib.hid ht1
      have T2 := Lib.hid ht2
      have HV := Lib.hid hV
      have HK := Lib.hid hrk
      have HB := Lib.hid hbr
      clear ht1 ht2 hV hrk hbr c3
      cases t1
      all_goals
        cases t2
        all_goals
          go_enter Tryd.func33, Tryd.ntmps33
          go_wp2_with (first | (go_at_call 52; refine (HR.out _).mono ?_; rintro e w1 ⟨rfl, hb1⟩; obtain ⟨hc1, hf1⟩ := bcell hb1) | (go_at_call 53; refine (HK.out _).mono ?_; rintro e w' ⟨rfl, rfl⟩) | (go_at_call 34; refine (HB.out _).mono ?_; rintro e w' ⟨rfl, rfl⟩))
          all_goals go_ret
          all_goals refine ⟨ret_bool ?_, bl_then (bl_alloc (Below.refl _ _) _) hb1⟩
          all_goals
            have hT1 := T1.out
            have hT2 := T2.out
            rw [← HV.out]
            clear T1 T2 HV HK HB HR hc1 hf1 hb1
            unfold isBranch at hT1
            simp only [decide_eq_true_eq, decide_eq_false_iff_not, beq_iff_eq, beq_eq_false_iff_ne, ne_eq, Bool.not_eq_true] at *
            first
              | (exact (decide_eq_true (by omega)).symm)
              | (exact (decide_eq_false (by omega)).symm)
              | (rw [Bool.eq_iff_iff]; simp; omega)
end Go.Proofs.YtnbbhgpflanhaaaDoor
