/- Walks: the comparison of rows. -/
import Derived.Test.YtnbbhgpflanhaaaDoorOf
namespace Go.Proofs.YtnbbhgpflanhaaaDoor
open Go.RowKit
set_option maxRecDepth 100000
set_option linter.unusedVariables false
set_option maxHeartbeats 3200000 in
theorem same_calls (B B' : Nat) (a a' : Option Addr) (c c' : Nat) (xs : List Itm) (hl : xs.length ≤ 32) (w : World) (hX : OwnI 70 B w (.slice a xs.length c) xs) (hY : OwnI 70 B' w (.slice a' xs.length c') xs) :
    Calls Tryd.prog 10 #[.slice a xs.length c, .slice a' xs.length c'] w fun e w' => e = .returned (.bool true) ∧ ∃ k, w' = w.drewN k := by
  have hne : ((xs.length : Int) != xs.length) = false := by simp
  go_enter Tryd.func10, Tryd.ntmps10
  go_wp2
  go_loopw [5] (fun iv wr => ∃ k m : Nat, k ≤ xs.length ∧ iv = .int .i64 k ∧ wr = w.drewN m) (fun iv _ => xs.length - (intOf iv).toNat)
  case atStart => exact ⟨0, 0, Nat.zero_le _, rfl, rfl⟩
  case round =>
    obtain ⟨k, m, hk, rfl, rfl⟩ := hrel
    by_cases hlt : k < xs.length
    · obtain ⟨g, rfl, hgl, hgB, c0, c1, c2, c3, c4, c5, c6, c7⟩ := hX.eight k hlt
      obtain ⟨g', rfl, hgl', hgB', d0, d1, d2, d3, d4, d5, d6, d7⟩ := hY.eight k hlt
      generalize xs[k] = x at *
      clear hX hY
      have hlt' : (k : Int) < (xs.length : Int) := by omega
      have hk0 : (0 : Int) ≤ (k : Int) := Int.natCast_nonneg _
      go_wp2
      go_quiet (fail)
      go_wp2
      go_roundw
      case rel => exact ⟨k + 1, _, by omega, by go_num, rfl⟩
      case measure => simp [intOf]; omega
    · go_wp2
      go_ret
      exact ⟨rfl, m, rfl⟩
end Go.Proofs.YtnbbhgpflanhaaaDoor
