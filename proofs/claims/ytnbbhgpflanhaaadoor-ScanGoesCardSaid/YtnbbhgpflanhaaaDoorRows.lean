/-
  NARROWER THAN 'FOR EVERY INPUT', by the rows' own cells (each row's printed sentence says how): ScanRows: laid · ScanPaths: laid · ScanCut: laid · LowerMaps: laid · ScanGoes: laid.
  DERIVED. THE GIVEN ROWS OF THIS SEAT. 5 by the template 'for every input the law returns true; each argument reads behind the call as it read before'; 0 by the template 'total and deterministic' (their statements: YtnbbhgpflanhaaaDoorTotals.lean).
  GIVEN WITH THE SEED: the statements are not yours to turn. If you find one false, say at which input.
  Laid BY PROGRAM, IN A SANDBOX (cutbox-rows.mjs): the forced cells as the released guide's own fill.sh prints them over the translation 410f0466d81f04ba… (all of the seat's roots in one cut). By AI agents, Wed Nov 11 2026. No macro, syntax, notation, axiom, sorry.
-/
import Derived.Test.YtnbbhgpflanhaaaDoorChecked
import GoSem.Claim
import GoSem.ClaimJoined
import GoSem.ClaimMapViews
import Derived.JoinedTies
import Derived.KernelRfl
namespace Go.Proofs.YtnbbhgpflanhaaaDoor
/- THE CELL 'sum', in the pinned program and in every row, IS THE sha256 OF THE DUMP (.gsa) THAT YtnbbhgpflanhaaaDoorProg.lean LOADS. Nothing in Lean hashes anything: it is a label: what it is worth is what the hold of that sum in a sandbox is worth. -/
noncomputable def Tryd.pinned : Pinned := { name := "ytnbbhgpflanhaaadoor", sum := "410f0466d81f04bae88e2519ed9be7f2f282d575247b4a153fb594c74b324795", checked := Tryd.checked }
namespace Rows
def none {H : Type} : Left H := { results := [], args := [] }

/- WHAT THE LISTED PACKAGE-LEVEL VARIABLES READ AS WHEN THE CALL BEGINS. Each datum BY PROGRAM (the guide's laid-datum.mjs) off the statement by which the dump's own 'gosem.cut.vars' lays the variable. In a bare row this is a premise. The card (YtnbbhgpflanhaaaDoorCards.lean) ties it to the program's text. -/
def laid_mimesis_inst_forms {H : Type} : DataW H := .agg [.lit (.int .i64 0), .lit (.int .i64 1), .lit (.int .i64 1), .lit (.int .i64 2), .lit (.int .i64 3), .lit (.int .i64 4), .lit (.int .i64 4), .lit (.int .i64 4), .lit (.int .i64 4), .lit (.int .i64 4), .lit (.int .i64 4), .lit (.int .i64 3), .lit (.int .i64 3), .lit (.int .i64 3), .lit (.int .i64 3), .lit (.int .i64 3), .lit (.int .i64 5), .lit (.int .i64 5), .lit (.int .i64 5), .lit (.int .i64 3), .lit (.int .i64 3), .lit (.int .i64 3), .lit (.int .i64 3), .lit (.int .i64 3), .lit (.int .i64 3), .lit (.int .i64 7), .lit (.int .i64 7), .lit (.int .i64 7), .lit (.int .i64 6), .lit (.int .i64 6), .lit (.int .i64 6), .lit (.int .i64 6), .lit (.int .i64 6), .lit (.int .i64 6), .lit (.int .i64 6), .lit (.int .i64 6), .lit (.int .i64 6), .lit (.int .i64 6), .lit (.int .i64 3), .lit (.int .i64 3), .lit (.int .i64 0), .lit (.int .i64 0), .lit (.int .i64 8), .lit (.int .i64 8), .lit (.int .i64 8), .lit (.int .i64 9), .lit (.int .i64 9), .lit (.int .i64 9), .lit (.int .i64 0), .lit (.int .i64 0), .lit (.int .i64 6), .lit (.int .i64 6), .lit (.int .i64 6), .lit (.int .i64 6), .lit (.int .i64 6), .lit (.int .i64 6), .lit (.int .i64 6), .lit (.int .i64 6)]

/-- 'mimesislaw26.ScanRows': WHATEVER THE INPUT: true; the input reads as it did. -/
def scanRowsSpec : ChangeSpec := { name := "scanRows", fn := fun _ => fun
  | [d1, d2, d3] => { results := [.lit (.bool true)], args := [d1, d2, d3] }
  | _ => none }
def scanRowsRow : OpenClaim := { program := "ytnbbhgpflanhaaadoor", sum := "410f0466d81f04bae88e2519ed9be7f2f282d575247b4a153fb594c74b324795", func := "mimesis/mimesislaw26.ScanRows", spec := "scanRows", unfollowed := true, recurses := true, named := ["mimesis/inst.forms"], apart := false, laid := [("mimesis/inst.forms", laid_mimesis_inst_forms)] }
def ScanRowsSaid : Prop := scanRowsRow.holds Tryd.pinned (OpenSpec.ofChange scanRowsSpec)

/-- ITS FALSE NEIGHBOUR: 'it returns false'. Refute it at one input. -/
def scanRowsWrong : ChangeSpec := { name := "scanRows", fn := fun _ => fun
  | [d1, d2, d3] => { results := [.lit (.bool false)], args := [d1, d2, d3] }
  | _ => none }
def ScanRowsWrongFalsely : Prop := scanRowsRow.holds Tryd.pinned (OpenSpec.ofChange scanRowsWrong)

/-- 'mimesislaw26.ScanPaths': WHATEVER THE INPUT: true; the input reads as it did. -/
def scanPathsSpec : ChangeSpec := { name := "scanPaths", fn := fun _ => fun
  | [d1, d2] => { results := [.lit (.bool true)], args := [d1, d2] }
  | _ => none }
def scanPathsRow : OpenClaim := { program := "ytnbbhgpflanhaaadoor", sum := "410f0466d81f04bae88e2519ed9be7f2f282d575247b4a153fb594c74b324795", func := "mimesis/mimesislaw26.ScanPaths", spec := "scanPaths", unfollowed := true, recurses := true, named := ["mimesis/inst.forms"], apart := false, laid := [("mimesis/inst.forms", laid_mimesis_inst_forms)] }
def ScanPathsSaid : Prop := scanPathsRow.holds Tryd.pinned (OpenSpec.ofChange scanPathsSpec)

/-- ITS FALSE NEIGHBOUR: 'it returns false'. Refute it at one input. -/
def scanPathsWrong : ChangeSpec := { name := "scanPaths", fn := fun _ => fun
  | [d1, d2] => { results := [.lit (.bool false)], args := [d1, d2] }
  | _ => none }
def ScanPathsWrongFalsely : Prop := scanPathsRow.holds Tryd.pinned (OpenSpec.ofChange scanPathsWrong)

/-- 'mimesislaw26.ScanCut': WHATEVER THE INPUT: true; the input reads as it did. -/
def scanCutSpec : ChangeSpec := { name := "scanCut", fn := fun _ => fun
  | [d1, d2] => { results := [.lit (.bool true)], args := [d1, d2] }
  | _ => none }
def scanCutRow : OpenClaim := { program := "ytnbbhgpflanhaaadoor", sum := "410f0466d81f04bae88e2519ed9be7f2f282d575247b4a153fb594c74b324795", func := "mimesis/mimesislaw26.ScanCut", spec := "scanCut", unfollowed := true, recurses := true, named := ["mimesis/inst.forms"], apart := false, laid := [("mimesis/inst.forms", laid_mimesis_inst_forms)] }
def ScanCutSaid : Prop := scanCutRow.holds Tryd.pinned (OpenSpec.ofChange scanCutSpec)

/-- ITS FALSE NEIGHBOUR: 'it returns false'. Refute it at one input. -/
def scanCutWrong : ChangeSpec := { name := "scanCut", fn := fun _ => fun
  | [d1, d2] => { results := [.lit (.bool false)], args := [d1, d2] }
  | _ => none }
def ScanCutWrongFalsely : Prop := scanCutRow.holds Tryd.pinned (OpenSpec.ofChange scanCutWrong)

/-- 'mimesislaw27.LowerMaps': WHATEVER THE INPUT: true; the input reads as it did. -/
def lowerMapsSpec : ChangeSpec := { name := "lowerMaps", fn := fun _ => fun
  | [d] => { results := [.lit (.bool true)], args := [d] }
  | _ => none }
def lowerMapsRow : OpenClaim := { program := "ytnbbhgpflanhaaadoor", sum := "410f0466d81f04bae88e2519ed9be7f2f282d575247b4a153fb594c74b324795", func := "mimesis/mimesislaw27.LowerMaps", spec := "lowerMaps", unfollowed := true, recurses := true, named := ["mimesis/inst.forms"], apart := false, laid := [("mimesis/inst.forms", laid_mimesis_inst_forms)] }
def LowerMapsSaid : Prop := lowerMapsRow.holds Tryd.pinned (OpenSpec.ofChange lowerMapsSpec)

/-- ITS FALSE NEIGHBOUR: 'it returns false'. Refute it at one input. -/
def lowerMapsWrong : ChangeSpec := { name := "lowerMaps", fn := fun _ => fun
  | [d] => { results := [.lit (.bool false)], args := [d] }
  | _ => none }
def LowerMapsWrongFalsely : Prop := lowerMapsRow.holds Tryd.pinned (OpenSpec.ofChange lowerMapsWrong)

/-- 'mimesislaw26.ScanGoes': WHATEVER THE INPUT: true; the input reads as it did. -/
def scanGoesSpec : ChangeSpec := { name := "scanGoes", fn := fun _ => fun
  | [d1, d2] => { results := [.lit (.bool true)], args := [d1, d2] }
  | _ => none }
def scanGoesRow : OpenClaim := { program := "ytnbbhgpflanhaaadoor", sum := "410f0466d81f04bae88e2519ed9be7f2f282d575247b4a153fb594c74b324795", func := "mimesis/mimesislaw26.ScanGoes", spec := "scanGoes", unfollowed := true, recurses := true, named := ["mimesis/inst.forms"], apart := false, laid := [("mimesis/inst.forms", laid_mimesis_inst_forms)] }
def ScanGoesSaid : Prop := scanGoesRow.holds Tryd.pinned (OpenSpec.ofChange scanGoesSpec)

/-- ITS FALSE NEIGHBOUR: 'it returns false'. Refute it at one input. -/
def scanGoesWrong : ChangeSpec := { name := "scanGoes", fn := fun _ => fun
  | [d1, d2] => { results := [.lit (.bool false)], args := [d1, d2] }
  | _ => none }
def ScanGoesWrongFalsely : Prop := scanGoesRow.holds Tryd.pinned (OpenSpec.ofChange scanGoesWrong)

/- THE SECOND FORM. 'bulk': how many values and letters a reading holds, each counted each time it is reached (what is shared counts as often as it is met; a slice's spare places count too). A statement '..UptoSaid' is the law's where the arguments, and the package variables that the reading takes, are together of bulk at most 1048576: NARROWER than '..Said'. Prove '..Said' where nothing that the law and all that it calls make is longer than what came in: it says more and counts as full. Else prove '..UptoSaid'. A law counts once. -/
mutual
def uptoBulk {H : Type} : DataW H → Nat
  | .lit (.string bytes) => bytes.length + 1
  | .lit _ => 1
  | .nil => 1
  | .ptr d => uptoBulk d + 1
  | .slice elems spare => uptoBulkAll elems + uptoBulkAll spare + 1
  | .agg parts => uptoBulkAll parts + 1
  | .iface _ d => uptoBulk d + 1
  | .map entries => uptoBulkEntries entries + 1
  | .held _ => 1
def uptoBulkAll {H : Type} : List (DataW H) → Nat
  | [] => 0
  | d :: r => uptoBulk d + uptoBulkAll r
def uptoBulkEntries {H : Type} : List (Lit × DataW H) → Nat
  | [] => 0
  | x :: r => uptoBulkEntry x + uptoBulkEntries r
def uptoBulkEntry {H : Type} : Lit × DataW H → Nat
  | (.string bytes, d) => bytes.length + uptoBulk d + 1
  | (_, d) => uptoBulk d + 1
 end
def uptoSmall : (H : Type) → List (DataW H) → Bool := fun _ ds => decide (uptoBulkAll ds ≤ 1048576)
def OpenSpec.upto (s : _root_.Go.ChangeSpec) : _root_.Go.OpenSpec := { _root_.Go.OpenSpec.ofChange s with cond := some uptoSmall }

/-- 'mimesislaw26.ScanRows', WHERE WHAT IT READS IS OF BULK AT MOST 1048576: true; the input reads as it did. -/
def scanRowsUptoRow : OpenClaim := { program := "ytnbbhgpflanhaaadoor", sum := "410f0466d81f04bae88e2519ed9be7f2f282d575247b4a153fb594c74b324795", func := "mimesis/mimesislaw26.ScanRows", spec := "scanRows", unfollowed := true, recurses := true, named := ["mimesis/inst.forms"], apart := false, laid := [("mimesis/inst.forms", laid_mimesis_inst_forms)], narrowed := true }
def ScanRowsUptoSaid : Prop := scanRowsUptoRow.holds Tryd.pinned (OpenSpec.upto scanRowsSpec)

/-- 'mimesislaw26.ScanPaths', WHERE WHAT IT READS IS OF BULK AT MOST 1048576: true; the input reads as it did. -/
def scanPathsUptoRow : OpenClaim := { program := "ytnbbhgpflanhaaadoor", sum := "410f0466d81f04bae88e2519ed9be7f2f282d575247b4a153fb594c74b324795", func := "mimesis/mimesislaw26.ScanPaths", spec := "scanPaths", unfollowed := true, recurses := true, named := ["mimesis/inst.forms"], apart := false, laid := [("mimesis/inst.forms", laid_mimesis_inst_forms)], narrowed := true }
def ScanPathsUptoSaid : Prop := scanPathsUptoRow.holds Tryd.pinned (OpenSpec.upto scanPathsSpec)

/-- 'mimesislaw26.ScanCut', WHERE WHAT IT READS IS OF BULK AT MOST 1048576: true; the input reads as it did. -/
def scanCutUptoRow : OpenClaim := { program := "ytnbbhgpflanhaaadoor", sum := "410f0466d81f04bae88e2519ed9be7f2f282d575247b4a153fb594c74b324795", func := "mimesis/mimesislaw26.ScanCut", spec := "scanCut", unfollowed := true, recurses := true, named := ["mimesis/inst.forms"], apart := false, laid := [("mimesis/inst.forms", laid_mimesis_inst_forms)], narrowed := true }
def ScanCutUptoSaid : Prop := scanCutUptoRow.holds Tryd.pinned (OpenSpec.upto scanCutSpec)

/-- 'mimesislaw27.LowerMaps', WHERE WHAT IT READS IS OF BULK AT MOST 1048576: true; the input reads as it did. -/
def lowerMapsUptoRow : OpenClaim := { program := "ytnbbhgpflanhaaadoor", sum := "410f0466d81f04bae88e2519ed9be7f2f282d575247b4a153fb594c74b324795", func := "mimesis/mimesislaw27.LowerMaps", spec := "lowerMaps", unfollowed := true, recurses := true, named := ["mimesis/inst.forms"], apart := false, laid := [("mimesis/inst.forms", laid_mimesis_inst_forms)], narrowed := true }
def LowerMapsUptoSaid : Prop := lowerMapsUptoRow.holds Tryd.pinned (OpenSpec.upto lowerMapsSpec)

/-- 'mimesislaw26.ScanGoes', WHERE WHAT IT READS IS OF BULK AT MOST 1048576: true; the input reads as it did. -/
def scanGoesUptoRow : OpenClaim := { program := "ytnbbhgpflanhaaadoor", sum := "410f0466d81f04bae88e2519ed9be7f2f282d575247b4a153fb594c74b324795", func := "mimesis/mimesislaw26.ScanGoes", spec := "scanGoes", unfollowed := true, recurses := true, named := ["mimesis/inst.forms"], apart := false, laid := [("mimesis/inst.forms", laid_mimesis_inst_forms)], narrowed := true }
def ScanGoesUptoSaid : Prop := scanGoesUptoRow.holds Tryd.pinned (OpenSpec.upto scanGoesSpec)

end Rows
end Go.Proofs.YtnbbhgpflanhaaaDoor
