/- Whatever bytes and way it is called with, mimesislaw26.ScanPaths returns true and leaves what it was handed as it was.
   Conditions: those of the joined row's form; the table mimesis/inst.forms reads as the program's own text lays it, which the tied card ties to that text. -/
import Derived.Test.YtnbbhgpflanhaaaDoorScanPathsProof
import Derived.Test.YtnbbhgpflanhaaaDoorCards
import Derived.Test.YtnbbhgpflanhaaaDoorTie
import Derived.SevenTiedAt
namespace Go.Proofs.YtnbbhgpflanhaaaDoor
open Go
set_option linter.unusedVariables false
theorem scanPaths_card : Rows.ScanPathsCardSaid :=
  Claim7.holds_tied_plain_at .later [] [.data] true (true, "c3e2bd221f134a3decc183b2df6d5307db580590427ee2b6c80cb98a78edb8a8") false
    scanPaths_holds (fun _ h => by cases h) (by kernel_rfl) (fun _ h => by cases h) scanPaths_row_tie rfl ⟨rfl, rfl⟩ (by kernel_rfl) rfl
    (fun f fn hf hfn => by
      obtain rfl : f = 4 := Option.some.inj ((show Tryd.prog.funcNamed "mimesis/mimesislaw26.ScanPaths" = some 4 by kernel_rfl).symm.trans hf) |>.symm
      obtain rfl : fn = Tryd.f4 := (Option.some.inj (Tryd.func4.symm.trans hfn)).symm
      exact ⟨by kernel_rfl, fun j t ht => by
        rw [Tryd.params4] at ht
        have hm : t ∈ [22, 37] := by simpa using Array.mem_of_getElem? ht
        have hall : ([22, 37].all fun u => !Tryd.prog.wantsStandIn u) = true := by kernel_rfl
        exact (show Tryd.prog.wantsStandIn t = false by simpa using List.all_eq_true.1 hall t hm)⟩)
    (by kernel_rfl)
#print axioms scanPaths_card
end Go.Proofs.YtnbbhgpflanhaaaDoor
