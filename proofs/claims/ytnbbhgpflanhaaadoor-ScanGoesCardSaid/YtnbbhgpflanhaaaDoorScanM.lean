/- Walks: the statement's own memory. -/
import Derived.Test.YtnbbhgpflanhaaaDoorRamB
namespace Go.Proofs.YtnbbhgpflanhaaaDoor
open Go.RowKit
set_option maxRecDepth 100000
set_option linter.unusedVariables false
def MemPost (w : World) (bs : List Int) (e : Ending) (w' : World) : Prop :=
  ∃ g gb, e = .returned (.pointer (some ⟨g, 0, none⟩)) ∧ RamAt w' g gb bs ∧ Below w.heap.size w w'
set_option maxHeartbeats 1600000 in
theorem memory_calls (c : Nat) (ad : Addr) (bs : List Int) (w : World) (h0 : 64 ≤ bs.length) (h1 : bs.length ≤ 65536) (h2 : bs.length % 64 = 0) (hR : ReadsB w ad bs) :
    Calls Tryd.prog 13 #[.slice (some ad) bs.length c] w (MemPost w bs) := by
  have hnew := new_calls bs.length h0 h1 h2 w
  have HN := Lib.hid hnew
  clear hnew
  go_enter Tryd.func13, Tryd.ntmps13
  go_wp2_with (go_at_call 25; refine HN.out.mono ?_; rintro e w1 ⟨g, gb, gw, gg, rfl, hr⟩)
  have hdr : w1.cell? ⟨g, 0, none⟩ = some (.slice (some ⟨gb, 0, none⟩) bs.length bs.length) := by simp [World.cell?, hr.hdr]
  have hfill := fill_calls g gb c bs.length ad bs (madeCells #[.int .u8 0] bs.length) w1 ⟨by omega, Nat.le_refl _, h1⟩ (size_madeCells _ _) hdr hr.byt (hR.below hr.below)
  have HF := Lib.hid hfill
  have hend := hr.filled bs hR.bytes (Nat.le_refl _) h1
  rw [Nat.sub_self, List.replicate_zero, List.append_nil] at hend
  have hbe := bl_setRow hr.below hr.new.2.1 (u8s bs ++ (madeCells #[.int .u8 0] bs.length).toList.drop bs.length).toArray
  generalize (u8s bs ++ (madeCells #[.int .u8 0] bs.length).toList.drop bs.length).toArray = arr at *
  have HE := Lib.hid hend
  have HB := Lib.hid hbe
  clear hfill hend hbe hdr hR hr
  go_wp2_with (go_at_call 26; refine HF.out.mono ?_; rintro e w2 ⟨rfl, rfl⟩)
  go_ret
  exact ⟨g, gb, rfl, HE.out, HB.out⟩
end Go.Proofs.YtnbbhgpflanhaaaDoor
