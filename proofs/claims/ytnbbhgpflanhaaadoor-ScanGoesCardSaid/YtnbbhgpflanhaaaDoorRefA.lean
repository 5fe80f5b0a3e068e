/- Walks: the references' words and instructions. -/
import Derived.Test.YtnbbhgpflanhaaaDoorRamA
import Derived.Deep.QuietTactic
import Derived.BigQuiet
import Derived.Deep.RegionWith
namespace Go.Proofs.YtnbbhgpflanhaaaDoor
open Go.RowKit
set_option maxRecDepth 100000
set_option linter.unusedVariables false

theorem pow_le (k : Nat) (h : k ≤ 32) : (1 : Int) ≤ 2 ^ k ∧ (2 : Int) ^ k ≤ 4294967296 := by
  have h1 : (2 : Nat) ^ k ≤ 2 ^ 32 := Nat.pow_le_pow_right (by decide) h
  have h2 := Nat.two_pow_pos k
  have e : ((2 ^ k : Nat) : Int) = (2 : Int) ^ k := by simp
  omega
set_option maxHeartbeats 800000 in
theorem power_nat (n : Nat) (hn : n ≤ 32) (w : World) :
    Calls Tryd.prog 74 #[.int .i64 n] w fun e w' => e = .returned (.int .u64 (2 ^ n)) ∧ w' = w := by
  go_enter Tryd.func74, Tryd.ntmps74
  go_wp2
  go_loop [3, 4] (fun t i => ∃ k : Nat, k ≤ n ∧ i = .int .i64 k ∧ t = .int .u64 (2 ^ k)) (fun _ i => n - (intOf i).toNat)
  case atStart => exact ⟨0, Nat.zero_le _, rfl, rfl⟩
  case round =>
    obtain ⟨k, hk, rfl, rfl⟩ := hrel
    have hp := pow_le k (by omega)
    have hs : (2 : Int) ^ k * 2 = 2 ^ (k + 1) := by rw [Int.pow_succ]
    have HS := Lib.hid hs
    clear hs
    obtain ⟨p1, p2⟩ := hp
    by_cases hlt : k < n
    · generalize hP : (2 : Int) ^ k = p at *
      go_wp2
      go_round
      case rel => exact ⟨k + 1, by omega, by go_num, by rw [← HS.out]⟩
      case measure => simp [intOf]; omega
    · obtain rfl : k = n := by omega
      go_wp2
      go_ret
      exact ⟨rfl, rfl⟩
theorem power_calls (n : Int) (h0 : 0 ≤ n) (h1 : n ≤ 32) (w : World) :
    Calls Tryd.prog 74 #[.int .i64 n] w fun e w' => e = .returned (.int .u64 (2 ^ n.toNat)) ∧ w' = w := by
  obtain ⟨k, rfl⟩ := Int.eq_ofNat_of_zero_le h0
  rw [Int.toNat_natCast]
  exact power_nat k (by omega) w
set_option maxHeartbeats 800000 in
theorem rbits_calls (x a n : Int) (h0 : 0 ≤ x) (h1 : x ≤ 4294967295) (a0 : 0 ≤ a) (a1 : a ≤ 32) (n0 : 0 ≤ n) (n1 : n ≤ 32) (w : World) :
    Calls Tryd.prog 73 #[.int .u32 x, .int .i64 a, .int .i64 n] w fun e w' => e = .returned (.int .u32 (x / 2 ^ a.toNat % 2 ^ n.toNat)) ∧ ∃ k, w' = w.drewN k := by
  have pa := pow_le a.toNat (by omega)
  have pn := pow_le n.toNat (by omega)
  obtain ⟨pa1, pa2⟩ := pa
  obtain ⟨pn1, pn2⟩ := pn
  have ha := fun w' => power_calls a a0 a1 w'
  have hn := fun w' => power_calls n n0 n1 w'
  generalize (2 : Int) ^ a.toNat = A at *
  generalize (2 : Int) ^ n.toNat = B at *
  have q0 : 0 ≤ x / A := Int.ediv_nonneg h0 (by omega)
  have q1 : x / A ≤ x := Int.ediv_le_self _ h0
  have q2 : 0 ≤ x / A % B := Int.emod_nonneg _ (by omega)
  have q3 : x / A % B < B := Int.emod_lt_of_pos _ (by omega)
  have HA := Lib.hid ha
  have HN := Lib.hid hn
  have nz1 : ¬ A = 0 := by omega
  have nz2 : ¬ B = 0 := by omega
  clear ha hn
  go_enter Tryd.func73, Tryd.ntmps73
  go_wp2_with fail
  go_quiet ((first | (go_at_call_of 74 (Value.int IntKind.i64 a); exact Calls.quiet_of_same (HA.out _)) | (go_at_call_of 74 (Value.int IntKind.i64 n); exact Calls.quiet_of_same (HN.out _))))
  go_wp2
  go_ret
  exact ⟨rfl, nq, rfl⟩
theorem rb_calls (x h l : Int) (h0 : 0 ≤ x) (h1 : x ≤ 4294967295) (k1 : 0 ≤ l) (k2 : l ≤ h) (k3 : h ≤ 31) (w : World) :
    Calls Tryd.prog 50 #[.int .u32 x, .int .i64 h, .int .i64 l] w fun e w' => e = .returned (.int .u32 (x / 2 ^ l.toNat % 2 ^ (h - l + 1).toNat)) ∧ ∃ k, w' = w.drewN k := by
  have hb := fun w' => rbits_calls x l (h - l + 1) h0 h1 k1 (by omega) (by omega) (by omega) w'
  generalize x / 2 ^ l.toNat % 2 ^ (h - l + 1).toNat = v at *
  have HB := Lib.hid hb
  clear hb
  go_enter Tryd.func50, Tryd.ntmps50
  go_wp2_with (go_at_call 73; refine (HB.out _).mono ?_; rintro e w' ⟨rfl, n, rfl⟩)
  go_ret
  exact ⟨rfl, _, rfl⟩
set_option maxHeartbeats 800000 in
theorem ext_calls (x n half all : Int) (h0 : 0 ≤ x) (h1 : x ≤ 4294967295) (hn : (n = 12 ∧ half = 2048 ∧ all = 4096) ∨ (n = 13 ∧ half = 4096 ∧ all = 8192) ∨ (n = 21 ∧ half = 1048576 ∧ all = 2097152)) (hx : x < all) (w : World) :
    Calls Tryd.prog 72 #[.int .u32 x, .int .i64 n] w fun e w' => e = .returned (.int .u32 (ext x half all)) ∧ w = w' := by
  have hm : x % all = x := Int.emod_eq_of_lt h0 hx
  by_cases hh : half ≤ x
  · rcases hn with ⟨rfl, rfl, rfl⟩ | ⟨rfl, rfl, rfl⟩ | ⟨rfl, rfl, rfl⟩
    all_goals
      rw [ext, if_pos hh]
      go_enter Tryd.func72, Tryd.ntmps72
      go_wp2_with (go_at_call 74; refine (power_calls _ (by omega) (by omega) _).mono ?_; rintro e w' ⟨rfl, rfl⟩)
      go_ret
      exact ⟨rfl, rfl⟩
  · rcases hn with ⟨rfl, rfl, rfl⟩ | ⟨rfl, rfl, rfl⟩ | ⟨rfl, rfl, rfl⟩
    all_goals
      rw [ext, if_neg hh]
      go_enter Tryd.func72, Tryd.ntmps72
      go_wp2_with (go_at_call 74; refine (power_calls _ (by omega) (by omega) _).mono ?_; rintro e w' ⟨rfl, rfl⟩)
      go_ret
      exact ⟨rfl, rfl⟩
set_option maxHeartbeats 3200000 in
theorem rimm_calls (x f : Int) (h0 : 0 ≤ x) (h1 : x ≤ 4294967295) (w : World) :
    Calls Tryd.prog 49 #[.int .u32 x, .int .i64 f] w fun e w' => e = .returned (.int .u32 (immS x f)) ∧ ∃ k, w' = w.drewN k := by
  go_enter Tryd.func49, Tryd.ntmps49
  go_wp2_with (first | (go_at_call 50; refine (rb_calls _ _ _ h0 h1 (by omega) (by omega) (by omega) _).mono ?_; rintro e w' ⟨rfl, n, rfl⟩) | (go_at_call 72; refine (ext_calls _ _ _ _ (by omega) (by omega) (by first | exact .inl ⟨rfl, rfl, rfl⟩ | exact .inr (.inl ⟨rfl, rfl, rfl⟩) | exact .inr (.inr ⟨rfl, rfl, rfl⟩)) (by omega) _).mono ?_; rintro e w' ⟨rfl, rfl⟩))
  all_goals go_ret
  all_goals first
    | refine ⟨ret_u32 ?_, _, rfl⟩
    | refine ⟨ret_u32 ?_, 0, rfl⟩
  all_goals
    have m2 : x / 2147483648 % 2 = x / 2147483648 := by omega
    have m3 : x / 1048576 % 4096 = x / 1048576 := by omega
    have m5 : x / 33554432 % 128 = x / 33554432 := by omega
    try simp only [m2, m3, m5]
    first
      | (have e : f = 1 := (by simpa using ‹(f == 1) = true›); rw [e]; simp [immS]; omega)
      | (have e : f = 2 := (by simpa using ‹(f == 2) = true›); rw [e]; rfl)
      | (have e : f = 3 := (by simpa using ‹(f == 3) = true›); rw [e]; rfl)
      | (have e : f = 4 := (by simpa using ‹(f == 4) = true›); rw [e]; rfl)
      | (have e : f = 5 := (by simpa using ‹(f == 5) = true›); rw [e]; rfl)
      | (have e : f = 7 := (by simpa using ‹(f == 7) = true›); rw [e]; rfl)
      | (have e : f = 9 := (by simpa using ‹(f == 9) = true›); rw [e]; rfl)
      | (unfold immS; simp_all)
def patS : List (Int × Int) := [(127, 55), (127, 23), (127, 111), (28799, 103), (28799, 99), (28799, 4195), (28799, 16483), (28799, 20579), (28799, 24675), (28799, 28771), (28799, 3), (28799, 4099), (28799, 8195), (28799, 16387), (28799, 20483), (28799, 35), (28799, 4131), (28799, 8227), (28799, 19), (28799, 8211), (28799, 12307), (28799, 16403), (28799, 24595), (28799, 28691), (4261441663, 4115), (4261441663, 20499), (4261441663, 1073762323), (4261441663, 51), (4261441663, 1073741875), (4261441663, 4147), (4261441663, 8243), (4261441663, 12339), (4261441663, 16435), (4261441663, 20531), (4261441663, 1073762355), (4261441663, 24627), (4261441663, 28723), (28799, 15), (28799, 4111), (4294967295, 115), (4294967295, 1048691), (28799, 4211), (28799, 8307), (28799, 12403), (28799, 20595), (28799, 24691), (28799, 28787), (4294967295, 807403635), (4294967295, 273678451), (4261441663, 33554483), (4261441663, 33558579), (4261441663, 33562675), (4261441663, 33566771), (4261441663, 33570867), (4261441663, 33574963), (4261441663, 33579059), (4261441663, 33583155)]
def patV : Array Value := #[.int .u32 127, .int .u32 55, .int .u32 127, .int .u32 23, .int .u32 127, .int .u32 111, .int .u32 28799, .int .u32 103, .int .u32 28799, .int .u32 99, .int .u32 28799, .int .u32 4195, .int .u32 28799, .int .u32 16483, .int .u32 28799, .int .u32 20579, .int .u32 28799, .int .u32 24675, .int .u32 28799, .int .u32 28771, .int .u32 28799, .int .u32 3, .int .u32 28799, .int .u32 4099, .int .u32 28799, .int .u32 8195, .int .u32 28799, .int .u32 16387, .int .u32 28799, .int .u32 20483, .int .u32 28799, .int .u32 35, .int .u32 28799, .int .u32 4131, .int .u32 28799, .int .u32 8227, .int .u32 28799, .int .u32 19, .int .u32 28799, .int .u32 8211, .int .u32 28799, .int .u32 12307, .int .u32 28799, .int .u32 16403, .int .u32 28799, .int .u32 24595, .int .u32 28799, .int .u32 28691, .int .u32 4261441663, .int .u32 4115, .int .u32 4261441663, .int .u32 20499, .int .u32 4261441663, .int .u32 1073762323, .int .u32 4261441663, .int .u32 51, .int .u32 4261441663, .int .u32 1073741875, .int .u32 4261441663, .int .u32 4147, .int .u32 4261441663, .int .u32 8243, .int .u32 4261441663, .int .u32 12339, .int .u32 4261441663, .int .u32 16435, .int .u32 4261441663, .int .u32 20531, .int .u32 4261441663, .int .u32 1073762355, .int .u32 4261441663, .int .u32 24627, .int .u32 4261441663, .int .u32 28723, .int .u32 28799, .int .u32 15, .int .u32 28799, .int .u32 4111, .int .u32 4294967295, .int .u32 115, .int .u32 4294967295, .int .u32 1048691, .int .u32 28799, .int .u32 4211, .int .u32 28799, .int .u32 8307, .int .u32 28799, .int .u32 12403, .int .u32 28799, .int .u32 20595, .int .u32 28799, .int .u32 24691, .int .u32 28799, .int .u32 28787, .int .u32 4294967295, .int .u32 807403635, .int .u32 4294967295, .int .u32 273678451, .int .u32 4261441663, .int .u32 33554483, .int .u32 4261441663, .int .u32 33558579, .int .u32 4261441663, .int .u32 33562675, .int .u32 4261441663, .int .u32 33566771, .int .u32 4261441663, .int .u32 33570867, .int .u32 4261441663, .int .u32 33574963, .int .u32 4261441663, .int .u32 33579059, .int .u32 4261441663, .int .u32 33583155]
set_option maxHeartbeats 3200000 in
theorem patterns_calls (w : World) :
    Calls Tryd.prog 48 #[] w fun e w' => e = .returned (.slice (some ⟨w.heap.size, 0, none⟩) 57 57) ∧ w' = w.alloc (.cells patV 96 (0, 0)) := by
  go_enter Tryd.func48, Tryd.ntmps48
  go_wp2
  go_ret
  exact ⟨rfl, rfl⟩
end Go.Proofs.YtnbbhgpflanhaaaDoor
