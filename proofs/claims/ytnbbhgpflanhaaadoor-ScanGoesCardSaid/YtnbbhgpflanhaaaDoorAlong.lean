/- Walks: rows, gone along. -/
import Derived.Test.YtnbbhgpflanhaaaDoorItems
namespace Go.Proofs.YtnbbhgpflanhaaaDoor
open Go.RowKit
set_option maxRecDepth 100000
set_option linter.unusedVariables false

theorem info_item : (Tryd.prog.info? 43).map (fun i => (i.zero, i.size, i.bytes)) = some (some (.agg #[.int .u32 0, .int .i64 0, .int .i64 0, .int .i64 0, .int .i64 0, .int .u32 0, .int .i64 0, .int .u32 0]), 8, 64) := by kernel_rfl
theorem row_on (gx : Nat) (op : Int) (w : World) (hc : w.cell? ⟨gx, 1, none⟩ = some (.int .i64 op)) :
    Calls Tryd.prog 28 #[.pointer (some ⟨gx, 0, none⟩)] w fun e w' => e = .returned (.bool (!endsS op)) ∧ w = w' := by
  have he := fun w' => has_op op w'
  generalize endsS op = t at *
  have HE := Lib.hid he
  clear he
  go_enter Tryd.func28, Tryd.ntmps28
  go_wp2_with (go_at_call 29; refine (HE.out _).mono ?_; rintro e w' ⟨rfl, rfl⟩)
  go_ret
  exact ⟨rfl, rfl⟩
/-- what 'at' tells of a memory -/
theorem at_ram (g gb : Nat) (bs : List Int) (pc : Int) (p0 : 0 ≤ pc) (p1 : pc ≤ 4294967295) (w : World) (hF : FormsAt w) (hR : RamAt w g gb bs) :
    Calls Tryd.prog 46 #[.pointer (some ⟨g, 0, none⟩), .int .u32 pc] w fun e w' => e = .returned (.tuple #[itmV (itemS bs pc), .bool (okS bs pc)]) ∧ Below w.heap.size w w' := by
  have hw : 0 ≤ wordS bs pc ∧ wordS bs pc ≤ 4294967295 := by
    unfold wordS
    split
    · rename_i h
      have hh : hasS bs.length pc 4 = true := by
        unfold askS at h
        split at h
        · omega
        · split at h
          · assumption
          · omega
      simp only [hasS, decide_eq_true_eq] at hh
      have := numS_range (cutS bs (placeS pc) 4) (cutS_bytes _ _ _ hR.bytes)
      rw [cutS_length bs (placeS pc) 4 (by unfold placeS; omega)] at this
      omega
    · omega
  refine (sat_calls (some ⟨g, 0, none⟩) pc (wordS bs pc) (askS bs.length pc 4) p0 p1 hw.1 hw.2 w hF ?_).mono fun e w' h => h
  intro w' hb
  have hR' := hR.below hb
  by_cases h : askS bs.length pc 4 = 0
  · have hh : hasS bs.length pc 4 = true := by
      have h' := h
      unfold askS at h'
      split at h'
      · omega
      · split at h'
        · assumption
        · omega
    simp only [hasS, decide_eq_true_eq] at hh
    obtain ⟨k, rfl⟩ : ∃ k : Nat, pc = 2147483648 + k := ⟨(pc - 2147483648).toNat, by omega⟩
    have hk : placeS (2147483648 + k) = k := by unfold placeS; omega
    have := load_ok g gb bs k 4 p1 (by omega) (by omega) w' hR' h
    unfold wordS
    rw [if_pos h, hk, h]
    exact this
  · have := load_bad g gb bs pc 4 p0 p1 (by omega) w' hR' (beq_eq_false_iff_ne.2 h)
    unfold wordS
    rw [if_neg h]
    exact this
def RowPost (T : TypeId) (w : World) (xs : List Itm) (e : Ending) (w' : World) : Prop :=
  ∃ v, e = .returned v ∧ OwnI T w.heap.size w' v xs ∧ Below w.heap.size w w'
end Go.Proofs.YtnbbhgpflanhaaaDoor
