import Derived.Test.YtnbbhgpflanhaaaDoorWalkE
namespace Go.Proofs.YtnbbhgpflanhaaaDoor
open Go.RowKit
set_option maxRecDepth 100000
set_option linter.unusedVariables false

/-- What 'Right' asks, in its order, and the contracts that it calls. -/
structure RightAsk (a b c d e' f' F : Int) (j : Ins) : Prop where
  form : ∀ w', FormsAt w' → Calls Tryd.prog 66 #[.int .i64 a] w' fun e w'' => e = .returned (.tuple #[.int .i64 F, .int .i64 0]) ∧ w' = w''
  only : ∀ w', Calls Tryd.prog 67 #[.agg #[.int .i64 a, .int .i64 b, .int .i64 c, .int .i64 d, .int .u32 e', .int .i64 f'], .int .i64 F] w' fun e w'' =>
      e = .returned (.agg #[.int .i64 j.op, .int .i64 j.rd, .int .i64 j.rs1, .int .i64 j.rs2, .int .u32 j.imm, .int .i64 j.csr]) ∧ Below w'.heap.size w' w''
  ne : ∀ w', (binOp .neq 41 (.agg #[.int .i64 j.op, .int .i64 j.rd, .int .i64 j.rs1, .int .i64 j.rs2, .int .u32 j.imm, .int .i64 j.csr])
      (.agg #[.int .i64 a, .int .i64 b, .int .i64 c, .int .i64 d, .int .u32 e', .int .i64 f'])).run Tryd.prog w' = .ok (.bool (decide (j ≠ ⟨a, b, c, d, e', f'⟩))) w'
theorem reg_true (n : Int) (h : regB n true = true) (w : World) : Calls Tryd.prog 68 #[.int .i64 n] w fun e w' => e = .returned (.bool true) ∧ w = w' := by
  have := regs_calls n w; rw [h] at this; exact this
theorem reg_false (n : Int) (h : regB n true = false) (w : World) : Calls Tryd.prog 68 #[.int .i64 n] w fun e w' => e = .returned (.bool false) ∧ w = w' := by
  have := regs_calls n w; rw [h] at this; exact this
set_option maxHeartbeats 8000000 in
theorem right_ne (a b c d e' f' F : Int) (j : Ins) (w : World) (hF : FormsAt w) (ask : RightAsk a b c d e' f' F j) (hne : decide (j ≠ ⟨a, b, c, d, e', f'⟩) = true) :
    Calls Tryd.prog 43 #[.agg #[.int .i64 a, .int .i64 b, .int .i64 c, .int .i64 d, .int .u32 e', .int .i64 f']] w fun e w' => e = .returned (.bool false) ∧ Below w.heap.size w w' := by
  have q := ask.ne
  rw [hne] at q
  clear hne
  go_enter Tryd.func43, Tryd.ntmps43
  go_wp2_with (go_at_call 66; refine (ask.form _ (hF.below (bl_alloc (Below.refl _ _) _))).mono ?_; rintro e w' ⟨rfl, rfl⟩)
  first
  | (go_region_with (first | (go_at_call 67; refine (ask.only _).mono ?_; rintro e w1 ⟨rfl, hb1⟩; obtain ⟨hc1, hf1⟩ := bcell hb1)))
  | skip
  all_goals
    go_wp2
    go_ret
    exact ⟨rfl, bl_then (bl_drew (bl_alloc (Below.refl _ _) _)) hb1⟩
set_option maxHeartbeats 8000000 in
theorem right_r1 (a b c d e' f' F : Int) (j : Ins) (w : World) (hF : FormsAt w) (ask : RightAsk a b c d e' f' F j) (hne : decide (j ≠ ⟨a, b, c, d, e', f'⟩) = false) (hb : regB b true = false) :
    Calls Tryd.prog 43 #[.agg #[.int .i64 a, .int .i64 b, .int .i64 c, .int .i64 d, .int .u32 e', .int .i64 f']] w fun e w' => e = .returned (.bool false) ∧ Below w.heap.size w w' := by
  have q := ask.ne
  rw [hne] at q
  clear hne
  have Rb := Lib.hid (fun w => reg_false b hb w)
  clear hb
  go_enter Tryd.func43, Tryd.ntmps43
  go_wp2_with (go_at_call 66; refine (ask.form _ (hF.below (bl_alloc (Below.refl _ _) _))).mono ?_; rintro e w' ⟨rfl, rfl⟩)
  first
  | (go_region_with (first | (go_at_call 67; refine (ask.only _).mono ?_; rintro e w1 ⟨rfl, hb1⟩; obtain ⟨hc1, hf1⟩ := bcell hb1) | (go_at_call_of 68 (Value.int IntKind.i64 b); refine (Rb.out _).mono ?_; rintro e w' ⟨rfl, rfl⟩)))
  | skip
  all_goals
    go_wp2
    go_ret
    exact ⟨rfl, bl_then (bl_drew (bl_alloc (Below.refl _ _) _)) hb1⟩
set_option maxHeartbeats 8000000 in
theorem right_r2 (a b c d e' f' F : Int) (j : Ins) (w : World) (hF : FormsAt w) (ask : RightAsk a b c d e' f' F j) (hne : decide (j ≠ ⟨a, b, c, d, e', f'⟩) = false) (hb : regB b true = true) (hc : regB c true = false) :
    Calls Tryd.prog 43 #[.agg #[.int .i64 a, .int .i64 b, .int .i64 c, .int .i64 d, .int .u32 e', .int .i64 f']] w fun e w' => e = .returned (.bool false) ∧ Below w.heap.size w w' := by
  have q := ask.ne
  rw [hne] at q
  clear hne
  have Rb := Lib.hid (fun w => reg_true b hb w)
  clear hb
  have Rc := Lib.hid (fun w => reg_false c hc w)
  clear hc
  go_enter Tryd.func43, Tryd.ntmps43
  go_wp2_with (go_at_call 66; refine (ask.form _ (hF.below (bl_alloc (Below.refl _ _) _))).mono ?_; rintro e w' ⟨rfl, rfl⟩)
  first
  | (go_region_with (first | (go_at_call 67; refine (ask.only _).mono ?_; rintro e w1 ⟨rfl, hb1⟩; obtain ⟨hc1, hf1⟩ := bcell hb1) | (go_at_call_of 68 (Value.int IntKind.i64 b); refine (Rb.out _).mono ?_; rintro e w' ⟨rfl, rfl⟩) | (go_at_call_of 68 (Value.int IntKind.i64 c); refine (Rc.out _).mono ?_; rintro e w' ⟨rfl, rfl⟩)))
  | skip
  all_goals
    go_wp2
    go_ret
    exact ⟨rfl, bl_then (bl_drew (bl_alloc (Below.refl _ _) _)) hb1⟩
set_option maxHeartbeats 8000000 in
theorem right_r3 (a b c d e' f' F : Int) (j : Ins) (w : World) (hF : FormsAt w) (ask : RightAsk a b c d e' f' F j) (hne : decide (j ≠ ⟨a, b, c, d, e', f'⟩) = false) (hb : regB b true = true) (hc : regB c true = true) (hd : regB d true = false) :
    Calls Tryd.prog 43 #[.agg #[.int .i64 a, .int .i64 b, .int .i64 c, .int .i64 d, .int .u32 e', .int .i64 f']] w fun e w' => e = .returned (.bool false) ∧ Below w.heap.size w w' := by
  have q := ask.ne
  rw [hne] at q
  clear hne
  have Rb := Lib.hid (fun w => reg_true b hb w)
  clear hb
  have Rc := Lib.hid (fun w => reg_true c hc w)
  clear hc
  have Rd := Lib.hid (fun w => reg_false d hd w)
  clear hd
  go_enter Tryd.func43, Tryd.ntmps43
  go_wp2_with (go_at_call 66; refine (ask.form _ (hF.below (bl_alloc (Below.refl _ _) _))).mono ?_; rintro e w' ⟨rfl, rfl⟩)
  first
  | (go_region_with (first | (go_at_call 67; refine (ask.only _).mono ?_; rintro e w1 ⟨rfl, hb1⟩; obtain ⟨hc1, hf1⟩ := bcell hb1) | (go_at_call_of 68 (Value.int IntKind.i64 b); refine (Rb.out _).mono ?_; rintro e w' ⟨rfl, rfl⟩) | (go_at_call_of 68 (Value.int IntKind.i64 c); refine (Rc.out _).mono ?_; rintro e w' ⟨rfl, rfl⟩) | (go_at_call_of 68 (Value.int IntKind.i64 d); refine (Rd.out _).mono ?_; rintro e w' ⟨rfl, rfl⟩)))
  | skip
  all_goals
    go_wp2
    go_ret
    exact ⟨rfl, bl_then (bl_drew (bl_alloc (Below.refl _ _) _)) hb1⟩
end Go.Proofs.YtnbbhgpflanhaaaDoor
