/- Walks: what can be translated; the item at an address. -/
import Derived.Test.YtnbbhgpflanhaaaDoorScanA
import Derived.Test.YtnbbhgpflanhaaaDoorRamA
namespace Go.Proofs.YtnbbhgpflanhaaaDoor
open Go.RowKit
set_option maxRecDepth 100000
set_option linter.unusedVariables false

theorem can_right (i : Ins) (h : rightS i = true) : canS i = if i.op = 3 then decide (i.imm % 4 = 0) else if i.op = 4 ∨ (5 ≤ i.op ∧ i.op ≤ 10) then true else !endsS i.op := by
  have hop : 0 ≤ i.op ∧ i.op < 58 := by
    unfold rightS at h
    by_cases c : 0 ≤ i.op ∧ i.op < 58
    · exact c
    · rw [decide_eq_false c] at h; simp at h
  unfold canS
  rw [h, Bool.true_and]
  by_cases h3 : i.op = 3
  · rw [if_pos h3, if_pos h3]
  · rw [if_neg h3, if_neg h3]
    by_cases h4 : i.op = 4 ∨ (5 ≤ i.op ∧ i.op ≤ 10)
    · rw [if_pos h4]
      exact decide_eq_true (by omega)
    · rw [if_neg h4]
      unfold endsS
      rw [Bool.eq_iff_iff]
      simp
      omega
theorem branch_calls (op : Int) (w : World) : Calls Tryd.prog 36 #[.int .i64 op] w fun e w' => e = .returned (.bool (isBranch op)) ∧ w = w' := by
  go_enter Tryd.func36, Tryd.ntmps36
  go_wp2
  all_goals go_ret
  all_goals refine ⟨ret_bool ?_, rfl⟩
  all_goals
    unfold isBranch
    simp
    omega
set_option maxHeartbeats 1600000 in
theorem can_calls (a b c d e' f' : Int) (h0 : 0 ≤ e') (h1 : e' ≤ 4294967295) (w : World) (hF : FormsAt w) :
    Calls Tryd.prog 22 #[.agg #[.int .i64 a, .int .i64 b, .int .i64 c, .int .i64 d, .int .u32 e', .int .i64 f']] w fun e w' => e = .returned (.bool (canS ⟨a, b, c, d, e', f'⟩)) ∧ Below w.heap.size w w' := by
  have hr := fun w' h => right_calls a b c d e' f' h0 h1 w' h
  cases hR : rightS ⟨a, b, c, d, e', f'⟩
  · have hc : canS ⟨a, b, c, d, e', f'⟩ = false := by unfold canS; rw [hR]; rfl
    rw [hc]
    simp only [hR] at hr
    have HR := Lib.hid hr
    clear hr hR hc
    go_enter Tryd.func22, Tryd.ntmps22
    go_wp2_with (go_at_call 43; refine (HR.out _ (hF.below (bl_alloc (Below.refl _ _) _))).mono ?_; rintro e w1 ⟨rfl, hb1⟩; obtain ⟨hc1, hf1⟩ := bcell hb1)
    go_ret
    exact ⟨rfl, bl_then (bl_alloc (Below.refl _ _) _) hb1⟩
  · have hc := can_right ⟨a, b, c, d, e', f'⟩ hR
    simp only at hc
    have he := fun w' => has_op a w'
    have hbr := fun w' => branch_calls a w'
    rw [hc]
    simp only [hR] at hr
    have HR := Lib.hid hr
    have HE := Lib.hid he
    have HB := Lib.hid hbr
    clear hr hR hc he hbr
    by_cases c3 : a = 3
    · subst c3
      rw [if_pos rfl]
      go_enter Tryd.func22, Tryd.ntmps22
      go_wp2_with (go_at_call 43; refine (HR.out _ (hF.below (bl_alloc (Below.refl _ _) _))).mono ?_; rintro e w1 ⟨rfl, hb1⟩; obtain ⟨hc1, hf1⟩ := bcell hb1)
      go_ret
      exact ⟨ret_bool (by rw [Bool.eq_iff_iff]; simp), bl_then (bl_alloc (Below.refl _ _) _) hb1⟩
    · rw [if_neg c3]
      by_cases c4 : a = 4
      · subst c4
        rw [if_pos (by omega)]
        go_enter Tryd.func22, Tryd.ntmps22
        go_wp2_with (go_at_call 43; refine (HR.out _ (hF.below (bl_alloc (Below.refl _ _) _))).mono ?_; rintro e w1 ⟨rfl, hb1⟩; obtain ⟨hc1, hf1⟩ := bcell hb1)
        go_ret
        exact ⟨rfl, bl_then (bl_alloc (Below.refl _ _) _) hb1⟩
      · have q3 : (a == 3) = false := beq_eq_false_iff_ne.2 c3
        have q4 : (a == 4) = false := beq_eq_false_iff_ne.2 c4
        by_cases cb : 5 ≤ a ∧ a ≤ 10
        · rw [if_pos (.inr cb)]
          have hb' : isBranch a = true := decide_eq_true cb
          rw [hb'] at HB
          clear hb' cb c3 c4 HE
          go_enter Tryd.func22, Tryd.ntmps22
          go_wp2_with (first | (go_at_call 43; refine (HR.out _ (hF.below (bl_alloc (Below.refl _ _) _))).mono ?_; rintro e w1 ⟨rfl, hb1⟩; obtain ⟨hc1, hf1⟩ := bcell hb1) | (go_at_call 36; refine (HB.out _).mono ?_; rintro e w' ⟨rfl, rfl⟩))
          go_ret
          exact ⟨rfl, bl_then (bl_alloc (Below.refl _ _) _) hb1⟩
        · rw [if_neg (by omega)]
          have hb' : isBranch a = false := decide_eq_false cb
          rw [hb'] at HB
          clear hb' cb c3 c4
          generalize endsS a = t at *
          go_enter Tryd.func22, Tryd.ntmps22
          go_wp2_with (first | (go_at_call 43; refine (HR.out _ (hF.below (bl_alloc (Below.refl _ _) _))).mono ?_; rintro e w1 ⟨rfl, hb1⟩; obtain ⟨hc1, hf1⟩ := bcell hb1) | (go_at_call 36; refine (HB.out _).mono ?_; rintro e w' ⟨rfl, rfl⟩) | (go_at_call 29; refine (HE.out _).mono ?_; rintro e w' ⟨rfl, rfl⟩))
          go_ret
          exact ⟨rfl, bl_then (bl_alloc (Below.refl _ _) _) hb1⟩
end Go.Proofs.YtnbbhgpflanhaaaDoor
