/- Walks: the closure of Path, with turns. -/
import Derived.Test.YtnbbhgpflanhaaaDoorCut
namespace Go.Proofs.YtnbbhgpflanhaaaDoor
open Go.RowKit
set_option maxRecDepth 100000
set_option linter.unusedVariables false
set_option linter.unusedSimpArgs false
/-- a turn was taken off -/
def OnPost (n b o : Nat) (r : Bool) (mk : Option Addr → World) (e : Ending) (w' : World) : Prop := e = .returned (.bool r) ∧ ∃ av, (n = 0 ∨ av = some ⟨b, o + 1, none⟩) ∧ w' = mk av
theorem on_none (gx tb : Nat) (op : Int) (a : Option Addr) (c : Nat) (hbr : isBranch op = true) (w : World) (hc : w.cell? ⟨gx, 1, none⟩ = some (.int .i64 op)) (ht : w.cell? ⟨tb, 0, none⟩ = some (.slice a 0 c)) :
    Calls Tryd.prog 35 #[.pointer (some ⟨gx, 0, none⟩), .pointer (some ⟨tb, 0, none⟩)] w fun e w' => e = .returned (.bool false) ∧ w = w' := by
  have he := fun w' => branch_calls op w'
  rw [hbr] at he
  have HE := Lib.hid he
  clear he
  go_enter Tryd.func35, Tryd.ntmps35
  go_wp2_with (go_at_call 36; refine (HE.out _).mono ?_; rintro e w' ⟨rfl, rfl⟩)
  go_ret
  exact ⟨rfl, rfl⟩
theorem on_other (gx tb : Nat) (op : Int) (hbr : isBranch op = false) (w : World) (hc : w.cell? ⟨gx, 1, none⟩ = some (.int .i64 op)) :
    Calls Tryd.prog 35 #[.pointer (some ⟨gx, 0, none⟩), .pointer (some ⟨tb, 0, none⟩)] w fun e w' => e = .returned (.bool (decide (op ≠ 4))) ∧ w = w' := by
  have he := fun w' => branch_calls op w'
  rw [hbr] at he
  have HE := Lib.hid he
  clear he
  go_enter Tryd.func35, Tryd.ntmps35
  go_wp2_with (go_at_call 36; refine (HE.out _).mono ?_; rintro e w' ⟨rfl, rfl⟩)
  all_goals go_ret
  all_goals exact ⟨by by_cases h4 : op = 4 <;> simp [h4], rfl⟩
set_option maxHeartbeats 800000 in
theorem on_not (gx tb b o n c : Nat) (op : Int) (hbr : isBranch op = true) (hn : n + 1 ≤ c) (hm : c ≤ maxLen) (w : World) (hc : w.cell? ⟨gx, 1, none⟩ = some (.int .i64 op)) (ht : w.heap[tb]? = some (.cells #[.slice (some ⟨b, o, none⟩) (n + 1) c] 35 (0, 0)))
    (h0 : w.cell? ⟨b, o, none⟩ = some (.bool false)) (hne : gx ≠ tb) (hne' : b ≠ tb) :
    Calls Tryd.prog 35 #[.pointer (some ⟨gx, 0, none⟩), .pointer (some ⟨tb, 0, none⟩)] w (OnPost n b o true fun av => w.setCell ⟨tb, 0, none⟩ (.slice av n (c - 1))) := by
  have he := fun w' => branch_calls op w'
  rw [hbr] at he
  have HE := Lib.hid he
  have ht0 := cell_of_one ht
  have hf0 := free_of_one ht
  have hm' : (maxLen : Int) = 9223372036854775807 := rfl
  clear he
  go_enter Tryd.func35, Tryd.ntmps35
  go_wp2_with (go_at_call 36; refine (HE.out _).mono ?_; rintro e w' ⟨rfl, rfl⟩)
  all_goals go_ret
  all_goals refine ⟨rfl, ?_⟩
  all_goals by_cases hc1 : c = 1
  all_goals first | (exfalso; omega) | (subst hc1; exact ⟨_, .inl (by omega), rfl⟩) | exact ⟨_, .inr rfl, rfl⟩
set_option maxHeartbeats 800000 in
theorem on_bad (gx tb b o n c : Nat) (op imm : Int) (hbr : isBranch op = true) (hn : n + 1 ≤ c) (hm : c ≤ maxLen) (i0 : 0 ≤ imm) (i1 : imm ≤ 4294967295) (i4 : ¬ imm % 4 = 0) (w : World) (hc : w.cell? ⟨gx, 1, none⟩ = some (.int .i64 op)) (hi : w.cell? ⟨gx, 5, none⟩ = some (.int .u32 imm)) (ht : w.heap[tb]? = some (.cells #[.slice (some ⟨b, o, none⟩) (n + 1) c] 35 (0, 0)))
    (h0 : w.cell? ⟨b, o, none⟩ = some (.bool true)) (hne : gx ≠ tb) (hne' : b ≠ tb) :
    Calls Tryd.prog 35 #[.pointer (some ⟨gx, 0, none⟩), .pointer (some ⟨tb, 0, none⟩)] w (OnPost n b o false fun av => w.setCell ⟨tb, 0, none⟩ (.slice av n (c - 1))) := by
  have he := fun w' => branch_calls op w'
  rw [hbr] at he
  have HE := Lib.hid he
  have ht0 := cell_of_one ht
  have hf0 := free_of_one ht
  have hm' : (maxLen : Int) = 9223372036854775807 := rfl
  clear he
  have i4' : (imm % 4 == 0) = false := beq_eq_false_iff_ne.2 i4
  go_enter Tryd.func35, Tryd.ntmps35
  go_wp2_with (go_at_call 36; refine (HE.out _).mono ?_; rintro e w' ⟨rfl, rfl⟩)
  all_goals go_ret
  all_goals refine ⟨rfl, ?_⟩
  all_goals by_cases hc1 : c = 1
  all_goals first | (exfalso; omega) | (subst hc1; exact ⟨_, .inl (by omega), rfl⟩) | exact ⟨_, .inr rfl, rfl⟩
set_option maxHeartbeats 800000 in
theorem on_take (gx tb b o n c : Nat) (op imm p : Int) (hbr : isBranch op = true) (hn : n + 1 ≤ c) (hm : c ≤ maxLen) (i0 : 0 ≤ imm) (i1 : imm ≤ 4294967295) (p0 : 0 ≤ p) (p1 : p ≤ 4294967295) (i4 : imm % 4 = 0) (w : World) (hc : w.cell? ⟨gx, 1, none⟩ = some (.int .i64 op)) (hi : w.cell? ⟨gx, 5, none⟩ = some (.int .u32 imm)) (hp : w.cell? ⟨gx, 0, none⟩ = some (.int .u32 p)) (v7 : Value) (h7 : w.cell? ⟨gx, 7, none⟩ = some v7) (hf : w.frozen? ⟨gx, 7, none⟩ = false) (ht : w.heap[tb]? = some (.cells #[.slice (some ⟨b, o, none⟩) (n + 1) c] 35 (0, 0)))
    (h0 : w.cell? ⟨b, o, none⟩ = some (.bool true)) (hne : gx ≠ tb) (hne' : b ≠ tb) :
    Calls Tryd.prog 35 #[.pointer (some ⟨gx, 0, none⟩), .pointer (some ⟨tb, 0, none⟩)] w (OnPost n b o true fun av => ((w.setCell ⟨tb, 0, none⟩ (.slice av n (c - 1))).setCell ⟨gx, 7, none⟩ (.int .u32 ((p + imm) % 4294967296))).drew) := by
  have he := fun w' => branch_calls op w'
  rw [hbr] at he
  have HE := Lib.hid he
  have ht0 := cell_of_one ht
  have hf0 := free_of_one ht
  have hm' : (maxLen : Int) = 9223372036854775807 := rfl
  clear he
  have i4' : (imm % 4 == 0) = true := beq_iff_eq.2 i4
  go_enter Tryd.func35, Tryd.ntmps35
  go_wp2_with (go_at_call 36; refine (HE.out _).mono ?_; rintro e w' ⟨rfl, rfl⟩)
  all_goals go_region
  all_goals go_wp2_with fail
  all_goals go_ret
  all_goals refine ⟨rfl, ?_⟩
  all_goals by_cases hc1 : c = 1
  all_goals first | (exfalso; omega) | (subst hc1; exact ⟨_, .inl (by omega), rfl⟩) | exact ⟨_, .inr rfl, rfl⟩
end Go.Proofs.YtnbbhgpflanhaaaDoor
