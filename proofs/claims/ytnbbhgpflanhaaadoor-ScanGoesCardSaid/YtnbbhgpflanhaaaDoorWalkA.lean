/- The walks of the functions that read words: instructions, their forms, and decoding. -/
import Derived.Test.YtnbbhgpflanhaaaDoorProg
import Derived.Test.YtnbbhgpflanhaaaDoorPure
import Derived.WalkKit
import Derived.WalkSpells
import Derived.WalkLawsBesides
namespace Go.Proofs.YtnbbhgpflanhaaaDoor
open Go.RowKit
set_option maxRecDepth 100000
set_option linter.unusedVariables false

theorem ret_i64 {a b : Int} (h : a = b) : Ending.returned (.int .i64 a) = .returned (.int .i64 b) := by rw [h]
theorem ret_u32 {a b : Int} (h : a = b) : Ending.returned (.int .u32 a) = .returned (.int .u32 b) := by rw [h]
theorem ret_bool {a b : Bool} (h : a = b) : Ending.returned (.bool a) = .returned (.bool b) := by rw [h]

set_option maxHeartbeats 800000 in
theorem kind_branch (f : Int) (h0 : 0 ≤ f) (h1 : f ≤ 7) (w : World) :
    Calls Tryd.prog 117 #[.int .u32 f] w fun e w' => e = .returned (.int .i64 (kBranch f)) ∧ w = w' := by
  obtain rfl | rfl | rfl | rfl | rfl | rfl | rfl | rfl : f = 0 ∨ f = 1 ∨ f = 2 ∨ f = 3 ∨ f = 4 ∨ f = 5 ∨ f = 6 ∨ f = 7 := by omega
  all_goals
    go_enter Tryd.func117, Tryd.ntmps117
    go_wp2
    go_ret
    exact ⟨rfl, rfl⟩
set_option maxHeartbeats 800000 in
theorem kind_load (f : Int) (h0 : 0 ≤ f) (h1 : f ≤ 7) (w : World) :
    Calls Tryd.prog 118 #[.int .u32 f] w fun e w' => e = .returned (.int .i64 (kLoad f)) ∧ w = w' := by
  obtain rfl | rfl | rfl | rfl | rfl | rfl | rfl | rfl : f = 0 ∨ f = 1 ∨ f = 2 ∨ f = 3 ∨ f = 4 ∨ f = 5 ∨ f = 6 ∨ f = 7 := by omega
  all_goals
    go_enter Tryd.func118, Tryd.ntmps118
    go_wp2
    go_ret
    exact ⟨rfl, rfl⟩
theorem f3_eq (x : Int) (h0 : 0 ≤ x) (h1 : x ≤ 4294967295) : x * 131072 % 4294967296 / 536870912 = x / 4096 % 8 := by omega
theorem field_calls (x h l : Int) (h0 : 0 ≤ x) (h1 : x ≤ 4294967295) (k1 : 0 ≤ l) (k2 : l ≤ h) (k3 : h ≤ 31) (w : World) :
    Calls Tryd.prog 116 #[.int .u32 x, .int .u64 h, .int .u64 l] w fun e w' => e = .returned (.int .u32 (x / 2 ^ l.toNat % 2 ^ (h - l + 1).toNat)) ∧ w = w' := by
  go_enter Tryd.func116, Tryd.ntmps116
  go_wp2
  go_ret
  refine ⟨ret_u32 ?_, rfl⟩
  obtain ⟨n, rfl⟩ := Int.eq_ofNat_of_zero_le h0
  obtain ⟨b, rfl⟩ := Int.eq_ofNat_of_zero_le k1
  obtain ⟨a, rfl⟩ : ∃ a : Nat, h = b + a := ⟨(h - b).toNat, by omega⟩
  obtain ⟨c, hc⟩ : ∃ c : Nat, b + a + c = 31 := ⟨31 - (b + a), by omega⟩
  have e1 : (31 - ((b : Int) + a)).toNat = c := by omega
  have e2 : (31 - ((b : Int) + a) + b).toNat = c + b := by omega
  have e3 : ((b : Int) + a - b + 1).toNat = a + 1 := by omega
  rw [e1, e2, e3, Int.toNat_natCast]
  have key : n * 2 ^ c % 4294967296 / 2 ^ (c + b) = n / 2 ^ b % 2 ^ (a + 1) := by
    rw [show (4294967296 : Nat) = 2 ^ (b + (a + 1)) * 2 ^ c by rw [← Nat.pow_add, show b + (a + 1) + c = 32 by omega], Nat.mul_mod_mul_right, Nat.add_comm c b, Nat.pow_add 2 b c, Nat.mul_comm (2 ^ b) (2 ^ c), Nat.mul_comm _ (2 ^ c), Nat.mul_div_mul_left _ _ (Nat.two_pow_pos c), Nat.pow_add 2 b (a + 1), Nat.mod_mul_right_div_self]
  have := congrArg (fun k : Nat => (k : Int)) key
  simpa [Int.natCast_ediv, Int.natCast_emod] using this
set_option maxHeartbeats 800000 in
theorem kind_imm (x : Int) (h0 : 0 ≤ x) (h1 : x ≤ 4294967295) (w : World) :
    Calls Tryd.prog 119 #[.int .u32 x] w fun e w' => e = .returned (.int .i64 (kImm (x / 4096 % 8) (x / 33554432))) ∧ w = w' := by
  have b0 : 0 ≤ x / 4096 % 8 := by omega
  have b1 : x / 4096 % 8 ≤ 7 := by omega
  go_enter Tryd.func119, Tryd.ntmps119
  go_wp2_with (go_at_call 116; refine (field_calls _ _ _ h0 h1 (by omega) (by omega) (by omega) _).mono ?_; rintro e w' ⟨rfl, rfl⟩)
  all_goals
    go_ret
    refine ⟨ret_i64 ?_, rfl⟩
    unfold kImm
    simp_all
theorem index8 (f : Int) (h0 : 0 ≤ f) (h1 : f ≤ 7) (w : World) :
    (Instr.index 152 (.agg #[.int .i64 28, .int .i64 30, .int .i64 31, .int .i64 32, .int .i64 33, .int .i64 34, .int .i64 36, .int .i64 37]) (.int .u32 f)).run Tryd.prog w = .ok (.int .i64 (kReg f 0)) w := by
  obtain rfl | rfl | rfl | rfl | rfl | rfl | rfl | rfl : f = 0 ∨ f = 1 ∨ f = 2 ∨ f = 3 ∨ f = 4 ∨ f = 5 ∨ f = 6 ∨ f = 7 := by omega
  all_goals kernel_rfl
set_option maxHeartbeats 800000 in
theorem kind_reg (x : Int) (h0 : 0 ≤ x) (h1 : x ≤ 4294967295) (w : World) :
    Calls Tryd.prog 120 #[.int .u32 x] w fun e w' => e = .returned (.int .i64 (kReg (x / 4096 % 8) (x / 33554432))) ∧ w = w' := by
  have b0 : 0 ≤ x / 4096 % 8 := by omega
  have b1 : x / 4096 % 8 ≤ 7 := by omega
  have ix := fun w => index8 (x / 4096 % 8) b0 b1 w
  go_enter Tryd.func120, Tryd.ntmps120
  go_wp2_with (go_at_call 116; refine (field_calls _ _ _ h0 h1 (by omega) (by omega) (by omega) _).mono ?_; rintro e w' ⟨rfl, rfl⟩)
  all_goals
    go_ret
    refine ⟨ret_i64 ?_, rfl⟩
    unfold kReg
    simp_all
set_option maxHeartbeats 800000 in
theorem kind_sys (x : Int) (h0 : 0 ≤ x) (h1 : x ≤ 4294967295) (w : World) :
    Calls Tryd.prog 121 #[.int .u32 x] w fun e w' => e = .returned (.int .i64 (kSys (x / 4096 % 8) x)) ∧ w = w' := by
  have b0 : 0 ≤ x / 4096 % 8 := by omega
  have b1 : x / 4096 % 8 ≤ 7 := by omega
  go_enter Tryd.func121, Tryd.ntmps121
  go_wp2_with (go_at_call 116; refine (field_calls _ _ _ h0 h1 (by omega) (by omega) (by omega) _).mono ?_; rintro e w' ⟨rfl, rfl⟩)
  all_goals
    go_ret
    refine ⟨ret_i64 ?_, rfl⟩
    unfold kSys
    simp_all
    try omega
set_option maxHeartbeats 1600000 in
theorem kind_calls (x : Int) (h0 : 0 ≤ x) (h1 : x ≤ 4294967295) (w : World) :
    Calls Tryd.prog 103 #[.int .u32 x] w fun e w' => e = .returned (.int .i64 (kindS x)) ∧ w = w' := by
  have b0 : 0 ≤ x / 4096 % 8 := by omega
  have b1 : x / 4096 % 8 ≤ 7 := by omega
  have e7 := and_7f x h0 h1
  go_enter Tryd.func103, Tryd.ntmps103
  go_wp2_with (first
    | (go_at_call 116; refine (field_calls _ _ _ h0 h1 (by omega) (by omega) (by omega) _).mono ?_; rintro e w' ⟨rfl, rfl⟩)
    | (go_at_call 117; refine (kind_branch _ b0 b1 _).mono ?_; rintro e w' ⟨rfl, rfl⟩)
    | (go_at_call 118; refine (kind_load _ b0 b1 _).mono ?_; rintro e w' ⟨rfl, rfl⟩)
    | (go_at_call 119; refine (kind_imm _ h0 h1 _).mono ?_; rintro e w' ⟨rfl, rfl⟩)
    | (go_at_call 120; refine (kind_reg _ h0 h1 _).mono ?_; rintro e w' ⟨rfl, rfl⟩)
    | (go_at_call 121; refine (kind_sys _ h0 h1 _).mono ?_; rintro e w' ⟨rfl, rfl⟩))
  all_goals
    go_ret
    refine ⟨ret_i64 ?_, rfl⟩
    unfold kindS
    simp_all
    try omega

end Go.Proofs.YtnbbhgpflanhaaaDoor
