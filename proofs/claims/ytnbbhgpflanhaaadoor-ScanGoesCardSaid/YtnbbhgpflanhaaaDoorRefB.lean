/- Walks: the references' memory, and numbers of bytes. -/
import Derived.Test.YtnbbhgpflanhaaaDoorRamB
import Derived.Test.YtnbbhgpflanhaaaDoorRefA
namespace Go.Proofs.YtnbbhgpflanhaaaDoor
open Go.RowKit
set_option maxRecDepth 100000
set_option linter.unusedVariables false

def sizeOk (n : Int) : Bool := decide (64 ≤ n ∧ n ≤ 65536 ∧ n % 64 = 0)
theorem rright_calls (n : Int) (h0 : 0 ≤ n) (w : World) :
    Calls Tryd.prog 8 #[.int .i64 n] w fun e w' => e = .returned (.bool (sizeOk n)) ∧ w = w' := by
  go_enter Tryd.func8, Tryd.ntmps8
  go_wp2
  all_goals go_ret
  all_goals refine ⟨ret_bool ?_, rfl⟩
  all_goals
    unfold sizeOk
    rw [Bool.eq_iff_iff]
    simp
    omega
set_option maxHeartbeats 800000 in
theorem rhas_calls (a : Option Addr) (len c : Nat) (pc n : Int) (hl : len ≤ 65536) (h0 : 0 ≤ pc) (h1 : pc ≤ 4294967295) (hn : 0 ≤ n ∧ n ≤ 65536) (w : World) :
    Calls Tryd.prog 30 #[.slice a len c, .int .u32 pc, .int .i64 n] w fun e w' => e = .returned (.bool (hasS len pc n)) ∧ w = w' := by
  go_enter Tryd.func30, Tryd.ntmps30
  go_wp2
  all_goals go_ret
  all_goals refine ⟨ret_bool ?_, rfl⟩
  all_goals
    unfold hasS
    rw [Bool.eq_iff_iff]
    simp
    omega
theorem add_off (b o i : Nat) : (⟨b, o, none⟩ : Addr).add i = ⟨b, o + i, none⟩ := by
  unfold Addr.add; split <;> simp_all
set_option maxHeartbeats 1600000 in
theorem rnumber_calls (g off c : Nat) (xs : List Int) (w : World) (hx : Bytes xs) (hn : xs.length ≤ 4)
    (hc : ∀ i : Nat, i < xs.length → w.cell? ⟨g, off + i, none⟩ = some (.int .u8 (xs.getD i 0))) :
    Calls Tryd.prog 51 #[.slice (some ⟨g, off, none⟩) xs.length c] w fun e w' => e = .returned (.int .u32 (numS xs)) ∧ ∃ k, w' = w.drewN k := by
  have HC := Lib.hid hc
  clear hc
  go_enter Tryd.func51, Tryd.ntmps51
  go_wp2
  go_loopw [3, 4] (fun t iv wr => ∃ k m : Nat, k ≤ xs.length ∧ iv = .int .i64 k ∧ t = .int .u64 (numS (xs.take k)) ∧ wr = w.drewN m) (fun _ iv _ => xs.length - (intOf iv).toNat)
  case atStart => exact ⟨0, 0, Nat.zero_le _, rfl, rfl, rfl⟩
  case round =>
    obtain ⟨k, m, hk, rfl, rfl, hwm⟩ := hrel
    have HW := Lib.hid hwm
    clear hwm
    have hr := numS_range (xs.take k) (fun x hxx => hx x (List.mem_of_mem_take hxx))
    rw [List.length_take, Nat.min_eq_left hk] at hr
    have hpk : (256 : Int) ^ k ≤ 4294967296 := by
      have : k ≤ 4 := by omega
      obtain rfl | rfl | rfl | rfl | rfl : k = 0 ∨ k = 1 ∨ k = 2 ∨ k = 3 ∨ k = 4 := by omega
      all_goals decide
    by_cases hlt : k < xs.length
    · have hcell : wr.cell? ⟨g, off + k, none⟩ = some (.int .u8 (xs.getD k 0)) := by rw [HW.out]; simpa using HC.out k hlt
      have hb := hx (xs.getD k 0) (by rw [List.getD_eq_getElem?_getD, List.getElem?_eq_getElem hlt]; simp)
      obtain ⟨hb0, hb1⟩ := hb
      have hts : xs.take (k + 1) = xs.take k ++ [xs.getD k 0] := by
        rw [List.take_succ_eq_append_getElem hlt, List.getD_eq_getElem?_getD, List.getElem?_eq_getElem hlt]; simp
      have hst := numS_snoc (xs.take k) (xs.getD k 0)
      rw [← hts, List.length_take, Nat.min_eq_left hk] at hst
      have hpow := power_calls (8 * k) (by omega) (by omega)
      have e8 : (2 : Int) ^ (8 * (k : Int)).toNat = 256 ^ k := by
        rw [show (8 * (k : Int)).toNat = 8 * k by omega, Int.pow_mul]; rfl
      rw [e8] at hpow
      have hp3 : (256 : Int) ^ k ≤ 16777216 := by
        have : k ≤ 3 := by omega
        obtain rfl | rfl | rfl | rfl : k = 0 ∨ k = 1 ∨ k = 2 ∨ k = 3 := by omega
        all_goals decide
      have hp1 : (1 : Int) ≤ 256 ^ k := by
        have : k ≤ 3 := by omega
        obtain rfl | rfl | rfl | rfl : k = 0 ∨ k = 1 ∨ k = 2 ∨ k = 3 := by omega
        all_goals decide
      generalize xs.getD k 0 = b at *
      generalize (256 : Int) ^ k = P at *
      have hbP0 : 0 ≤ b * P := Int.mul_nonneg hb0 (by omega)
      have hbP1 : b * P ≤ 255 * 16777216 := Int.mul_le_mul hb1 hp3 (by omega) (by omega)
      generalize hN : numS (xs.take k) = A at *
      have HST := Lib.hid hst
      have HP := Lib.hid hpow
      have hk0 : (0 : Int) ≤ (k : Int) := Int.natCast_nonneg _
      have hlt' : (k : Int) < (xs.length : Int) := by omega
      obtain ⟨r0, r1⟩ := hr
      clear hst hts e8 hpow hN
      have y1 : IntKind.i64.wrap (8 * (k : Int)) = 8 * (k : Int) := by simp [IntKind.wrap, IntKind.bits, IntKind.signed]; omega
      have y2 : IntKind.u64.wrap (b * P) = b * P := by simp [IntKind.wrap, IntKind.bits, IntKind.signed]; omega
      have y3 : IntKind.u64.wrap (A + b * P) = A + b * P := by simp [IntKind.wrap, IntKind.bits, IntKind.signed]; omega
      have y4 : IntKind.u64.wrap b = b := by simp [IntKind.wrap, IntKind.bits, IntKind.signed]; omega
      go_wp2_with fail
      go_quiet ((go_at_call 74; exact Calls.quiet_of_same (HP.out _)))
      clear y1 y2 y3 y4
      go_wp2
      go_roundw
      case rel => exact ⟨k + 1, m + nq, by omega, by go_num, by rw [HST.out], by rw [HW.out, World.drewN_drewN]⟩
      case measure => simp [intOf]; omega
    · obtain rfl : k = xs.length := by omega
      obtain ⟨r0, r1⟩ := hr
      rw [List.take_length] at *
      go_wp2
      go_ret
      exact ⟨rfl, m, HW.out⟩
set_option maxHeartbeats 800000 in
theorem rload_calls (b off c : Nat) (bs : List Int) (k n : Nat) (h1 : (2147483648 : Int) + k ≤ 4294967295) (hn : n ≤ 4) (hn1 : 1 ≤ n) (hkn : k + n ≤ bs.length) (hl : bs.length ≤ 65536) (hcap : bs.length ≤ c) (w : World) (hR : ReadsB w ⟨b, off, none⟩ bs) :
    Calls Tryd.prog 32 #[.slice (some ⟨b, off, none⟩) bs.length c, .int .u32 (2147483648 + k), .int .i64 n] w fun e w' => e = .returned (.int .u32 (numS (cutS bs k n))) ∧ ∃ m, w' = w.drewN m := by
  have hlen := cutS_length bs k n hkn
  have hnum := fun c' => rnumber_calls b (off + k) c' (cutS bs k n) w (cutS_bytes bs k n hR.bytes) (by omega) (fun i hi => by
    rw [cutS_getD bs k n i (by omega), Nat.add_assoc, ← add_off]; exact hR.cells _ (by omega))
  rw [hlen] at hnum
  generalize numS (cutS bs k n) = v at *
  have HN := Lib.hid hnum
  have hck : ¬ c = k := by omega
  have ha := add_off b off k
  clear hnum hlen hR
  generalize bs.length = len at *
  go_enter Tryd.func32, Tryd.ntmps32
  go_wp2_with fail
  simp only [Nat.add_sub_cancel_left]
  refine (HN.out _).mono ?_
  rintro e w' ⟨rfl, m, rfl⟩
  go_wp2
  go_ret
  exact ⟨rfl, m, rfl⟩
end Go.Proofs.YtnbbhgpflanhaaaDoor
