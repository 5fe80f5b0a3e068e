/- Whatever bytes and way it is called with, mimesislaw26.ScanGoes returns true and leaves what it was handed as it was.
   Conditions: those of the joined row's form; the table mimesis/inst.forms reads as the program's own text lays it, which the tied card ties to that text. -/
import Derived.Test.YtnbbhgpflanhaaaDoorScanGoesProof
import Derived.Test.YtnbbhgpflanhaaaDoorCards
import Derived.Test.YtnbbhgpflanhaaaDoorTie
import Derived.SevenTiedAt
namespace Go.Proofs.YtnbbhgpflanhaaaDoor
open Go
set_option linter.unusedVariables false
theorem scanGoes_card : Rows.ScanGoesCardSaid :=
  Claim7.holds_tied_plain_at .later [] [.data] true (true, "c3e2bd221f134a3decc183b2df6d5307db580590427ee2b6c80cb98a78edb8a8") false
    scanGoes_holds (fun _ h => by cases h) (by kernel_rfl) (fun _ h => by cases h) scanGoes_row_tie rfl ⟨rfl, rfl⟩ (by kernel_rfl) rfl
    (fun f fn hf hfn => by
      obtain rfl : f = 7 := Option.some.inj ((show Tryd.prog.funcNamed "mimesis/mimesislaw26.ScanGoes" = some 7 by kernel_rfl).symm.trans hf) |>.symm
      obtain rfl : fn = Tryd.f7 := (Option.some.inj (Tryd.func7.symm.trans hfn)).symm
      exact ⟨by kernel_rfl, fun j t ht => by
        rw [Tryd.params7] at ht
        have hm : t ∈ [22, 37] := by simpa using Array.mem_of_getElem? ht
        have hall : ([22, 37].all fun u => !Tryd.prog.wantsStandIn u) = true := by kernel_rfl
        exact (show Tryd.prog.wantsStandIn t = false by simpa using List.all_eq_true.1 hall t hm)⟩)
    (by kernel_rfl)
#print axioms scanGoes_card
end Go.Proofs.YtnbbhgpflanhaaaDoor
