/- Walks: which instructions are right, the last ways; and the whole. -/
import Derived.Test.YtnbbhgpflanhaaaDoorWalkF
namespace Go.Proofs.YtnbbhgpflanhaaaDoor
open Go.RowKit
set_option maxRecDepth 100000
set_option linter.unusedVariables false

set_option maxHeartbeats 3200000 in
theorem right_noop (a b c d e' f' : Int) (w : World) (hF : FormsAt w) (hop : ¬ (0 ≤ a ∧ a < 58)) :
    Calls Tryd.prog 43 #[.agg #[.int .i64 a, .int .i64 b, .int .i64 c, .int .i64 d, .int .u32 e', .int .i64 f']] w fun e w' => e = .returned (.bool false) ∧ Below w.heap.size w w' := by
  have hf := fun w' h => form_calls a w' h
  simp only [if_neg hop] at hf
  have HFo := Lib.hid hf
  clear hf hop
  go_enter Tryd.func43, Tryd.ntmps43
  go_wp2_with (go_at_call 66; refine (HFo.out _ (hF.below (bl_alloc (Below.refl _ _) _))).mono ?_; rintro e w' ⟨rfl, rfl⟩)
  first
  | (go_region_with fail)
  | skip
  all_goals
    go_wp2
    go_ret
    exact ⟨rfl, bl_drew (bl_alloc (Below.refl _ _) _)⟩
set_option maxHeartbeats 8000000 in
theorem right_all (a b c d e' f' F : Int) (j : Ins) (h0 : 0 ≤ e') (h1 : e' ≤ 4294967295) (hFr : 0 ≤ F ∧ F ≤ 9) (w : World) (hF : FormsAt w) (ask : RightAsk a b c d e' f' F j)
    (hne : decide (j ≠ ⟨a, b, c, d, e', f'⟩) = false) (hb : regB b true = true) (hc : regB c true = true) (hd : regB d true = true) :
    Calls Tryd.prog 43 #[.agg #[.int .i64 a, .int .i64 b, .int .i64 c, .int .i64 d, .int .u32 e', .int .i64 f']] w fun e w' =>
      e = .returned (.bool (numOk e' F && decide (0 ≤ f' ∧ f' ≤ 4095))) ∧ Below w.heap.size w w' := by
  have q := ask.ne
  rw [hne] at q
  clear hne
  have hnum := fun w' => inumber_calls e' F h0 h1 hFr w'
  have Rb := Lib.hid (fun w => reg_true b hb w)
  have Rc := Lib.hid (fun w => reg_true c hc w)
  have Rd := Lib.hid (fun w => reg_true d hd w)
  clear hb hc hd
  generalize numOk e' F = t at *
  have HN := Lib.hid hnum
  clear hnum
  go_enter Tryd.func43, Tryd.ntmps43
  go_wp2_with (go_at_call 66; refine (ask.form _ (hF.below (bl_alloc (Below.refl _ _) _))).mono ?_; rintro e w' ⟨rfl, rfl⟩)
  go_region_held3 (fun w' => w'.cell? ⟨w.heap.size, 0, none⟩ = some (.int .i64 a) ∧ w'.cell? ⟨w.heap.size, 1, none⟩ = some (.int .i64 b) ∧ w'.cell? ⟨w.heap.size, 2, none⟩ = some (.int .i64 c) ∧ w'.cell? ⟨w.heap.size, 3, none⟩ = some (.int .i64 d) ∧ w'.cell? ⟨w.heap.size, 4, none⟩ = some (.int .u32 e') ∧ w'.cell? ⟨w.heap.size, 5, none⟩ = some (.int .i64 f'))
    (first | go_keep | (go_split_ands; refine ⟨?_, ?_, ?_, ?_, ?_, ?_⟩ <;> (rw [hb1.cell (by simp)]; simp)))
    ((first | (go_at_call 67; refine (ask.only _).mono ?_; rintro e w1 ⟨rfl, hb1⟩) | (go_at_call_of 68 (Value.int IntKind.i64 b); refine (Rb.out _).mono ?_; rintro e w' ⟨rfl, rfl⟩) | (go_at_call_of 68 (Value.int IntKind.i64 c); refine (Rc.out _).mono ?_; rintro e w' ⟨rfl, rfl⟩) | (go_at_call_of 68 (Value.int IntKind.i64 d); refine (Rd.out _).mono ?_; rintro e w' ⟨rfl, rfl⟩)))
  obtain ⟨hc1, hf1⟩ := bcell hb1
  cases t
  all_goals
    go_wp2_with (go_at_call 69; refine (HN.out _).mono ?_; rintro e w' ⟨rfl, rfl⟩)
    all_goals
      go_ret
      refine ⟨ret_bool ?_, bl_then (bl_drew (bl_alloc (Below.refl _ _) _)) hb1⟩
      simp
      try omega
end Go.Proofs.YtnbbhgpflanhaaaDoor
