import Derived.Test.YtnbbhgpflanhaaaDoorWalkC
import Derived.Deep.RegionWith
import Derived.Deep.RegionHeld3
namespace Go.Proofs.YtnbbhgpflanhaaaDoor
open Go.RowKit
set_option maxRecDepth 100000
set_option linter.unusedVariables false

/-- what an instruction has that its form names -/
def onlyS (i : Ins) (f : Int) : Ins :=
  { op := i.op, rd := if hasRd f then i.rd else 0, rs1 := if 3 ≤ f ∧ f ≠ 9 then i.rs1 else 0, rs2 := if 4 ≤ f ∧ f ≤ 6 then i.rs2 else 0,
    imm := if f ≠ 0 ∧ f ≠ 6 ∧ f ≠ 8 then i.imm else 0, csr := if 8 ≤ f then i.csr else 0 }
set_option maxHeartbeats 1600000 in
theorem only_calls (a b c d e' f' f : Int) (hf : 0 ≤ f ∧ f ≤ 9) (w : World) :
    Calls Tryd.prog 67 #[.agg #[.int .i64 a, .int .i64 b, .int .i64 c, .int .i64 d, .int .u32 e', .int .i64 f'], .int .i64 f] w fun e w' =>
      e = .returned (insV (onlyS ⟨a, b, c, d, e', f'⟩ f)) ∧ Below w.heap.size w w' := by
  obtain rfl | rfl | rfl | rfl | rfl | rfl | rfl | rfl | rfl | rfl : f = 0 ∨ f = 1 ∨ f = 2 ∨ f = 3 ∨ f = 4 ∨ f = 5 ∨ f = 6 ∨ f = 7 ∨ f = 8 ∨ f = 9 := by omega
  all_goals
    simp [onlyS, hasRd, insV]
    go_enter Tryd.func67, Tryd.ntmps67
    go_wp2
    refine bodyPost_ret ?_ rfl ⟨rfl, by repeat (first | exact Below.refl _ _ | apply bl_alloc)⟩
    simp [results, Tryd.results67, go_sem]
end Go.Proofs.YtnbbhgpflanhaaaDoor
