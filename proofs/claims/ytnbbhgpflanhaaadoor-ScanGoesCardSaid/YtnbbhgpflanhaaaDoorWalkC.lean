import Derived.Test.YtnbbhgpflanhaaaDoorWalkB
namespace Go.Proofs.YtnbbhgpflanhaaaDoor
open Go.RowKit
set_option maxRecDepth 100000
set_option linter.unusedVariables false
theorem kindS_range (x : Int) (h0 : 0 ≤ x) (h1 : x ≤ 4294967295) : 0 ≤ kindS x ∧ kindS x < 58 := by
  have a : 0 ≤ x / 4096 % 8 ∧ x / 4096 % 8 ≤ 7 := by omega
  unfold kindS kBranch kLoad kImm kReg kSys
  generalize x / 4096 % 8 = f at *
  generalize x / 33554432 = g at *
  generalize x % 128 = m at *
  repeat' split
  all_goals omega
set_option maxHeartbeats 1600000 in
theorem decode_calls (x : Int) (h0 : 0 ≤ x) (h1 : x ≤ 4294967295) (w : World) (hF : FormsAt w) :
    Calls Tryd.prog 71 #[.int .u32 x] w fun e w' => e = .returned (insV (decS x)) ∧ Below w.heap.size w w' := by
  have hr := kindS_range x h0 h1
  obtain ⟨r0, r1⟩ := hr
  by_cases h : kindS x = 0
  · have hb : (kindS x == 0) = true := by simp [h]
    have hd : insV (decS x) = .agg #[.int .i64 0, .int .i64 0, .int .i64 0, .int .i64 0, .int .u32 0, .int .i64 0] := by simp [decS, h, insV]
    rw [hd]
    clear hd h r0 r1
    go_enter Tryd.func71, Tryd.ntmps71
    go_wp2_with (go_at_call 103; refine (kind_calls x h0 h1 _).mono ?_; rintro e w' ⟨rfl, rfl⟩)
    refine bodyPost_ret ?_ rfl ⟨rfl, by repeat (first | exact Below.refl _ _ | apply bl_alloc)⟩
    simp [results, Tryd.results71, go_sem]
  · have hb : (kindS x == 0) = false := by simp [h]
    have hd : insV (decS x) = insV (laidS x (kindS x)) := by simp [decS, h]
    rw [hd]
    have r2 : ∃ i, laidS x (kindS x) = i := ⟨_, rfl⟩
    have hl := fun w' h => laid_calls x (kindS x) h0 h1 r0 r1 w' h
    obtain ⟨i, hi⟩ := r2
    rw [hi] at hl ⊢
    have HL := Lib.hid hl
    clear hl hi hd h
    go_enter Tryd.func71, Tryd.ntmps71
    go_wp2_with (first
      | (go_at_call 103; refine (kind_calls x h0 h1 _).mono ?_; rintro e w' ⟨rfl, rfl⟩)
      | (go_at_call 104; refine (HL.out _ (hF.below (by repeat (first | exact Below.refl _ _ | apply bl_alloc)))).mono ?_; rintro e w1 ⟨rfl, hb1⟩; simp only [insV]; obtain ⟨hc, hfz⟩ := bcell hb1))
    refine bodyPost_ret ?_ rfl ⟨rfl, ?_⟩
    rotate_left
    · iterate 6 refine bl_set ?_ (Nat.le_refl _) _
      exact bl_then (bl_alloc (Below.refl _ _) _) hb1
    simp [results, Tryd.results71, go_sem, hc]
    rfl
end Go.Proofs.YtnbbhgpflanhaaaDoor
