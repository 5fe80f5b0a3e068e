/- Walks: Row, with a memory and without one. -/
import Derived.Test.YtnbbhgpflanhaaaDoorRowW
namespace Go.Proofs.YtnbbhgpflanhaaaDoor
open Go.RowKit
set_option maxRecDepth 100000
set_option linter.unusedVariables false
theorem most_or (most : Int) : (32 < most ∧ mostS most = 32) ∨ (¬ 32 < most ∧ mostS most = most.toNat) := by unfold mostS; omega
theorem most_le (most : Int) : mostS most ≤ 32 := by unfold mostS; omega
theorem path_len (bs : List Int) (rows : Bool) (n : Nat) : ∀ pc ts, (pathS bs rows n pc ts).length ≤ n := by
  induction n with
  | zero => intro pc ts; simp [pathS]
  | succ n ih =>
    intro pc ts
    simp only [pathS]
    split
    · split
      · simp only [List.length_cons]; have := ih (onS rows (itemS bs pc) ts).2.1.next (onS rows (itemS bs pc) ts).2.2; omega
      · simp
    · simp
theorem at_nil (pc : Int) (p0 : 0 ≤ pc) (p1 : pc ≤ 4294967295) (w : World) (hF : FormsAt w) :
    Calls Tryd.prog 46 #[.pointer none, .int .u32 pc] w fun e w' => e = .returned (.tuple #[itmV ⟨pc, decS 0, nextS pc (decS 0)⟩, .bool false]) ∧ Below w.heap.size w w' :=
  (sat_calls none pc 0 2 p0 p1 (by omega) (by omega) w hF (fun w' _ => load_nil pc 4 w')).mono fun e w' h => h
def NilPost (w : World) (e : Ending) (w' : World) : Prop := e = .returned (.slice none 0 0) ∧ Below w.heap.size w w'
set_option maxHeartbeats 3200000 in
theorem along_nil (pc most : Int) (f : FuncId) (cap : Array Value) (p0 : 0 ≤ pc) (p1 : pc ≤ 4294967295) (w : World) (hF : FormsAt w) :
    Calls Tryd.prog 27 #[.pointer none, .int .u32 pc, .int .i64 most, .func (.func f) #[] cap] w (NilPost w) := by
  have hat := at_nil pc p0 p1 w hF
  generalize (⟨pc, decS 0, nextS pc (decS 0)⟩ : Itm) = x at *
  have HAT := Lib.hid hat
  clear hat hF
  by_cases hm : 32 < most
  · go_enter Tryd.func27, Tryd.ntmps27
    go_wp2
    refine wp_loop_once ?_
    go_wp2_with (go_at_call 46; refine HAT.out.mono ?_; rintro e w1 ⟨rfl, hb1⟩; simp only [itmV])
    go_ret
    exact ⟨rfl, bl_alloc hb1 _⟩
  · by_cases h0 : 0 < most
    · go_enter Tryd.func27, Tryd.ntmps27
      go_wp2
      refine wp_loop_once ?_
      go_wp2_with (go_at_call 46; refine HAT.out.mono ?_; rintro e w1 ⟨rfl, hb1⟩; simp only [itmV])
      go_ret
      exact ⟨rfl, bl_alloc hb1 _⟩
    · go_enter Tryd.func27, Tryd.ntmps27
      go_wp2
      refine wp_loop_once ?_
      go_wp2_with fail
      go_ret
      exact ⟨rfl, Below.refl _ _⟩
set_option maxHeartbeats 800000 in
theorem row_nil (pc most : Int) (p0 : 0 ≤ pc) (p1 : pc ≤ 4294967295) (w : World) (hF : FormsAt w) :
    Calls Tryd.prog 12 #[.pointer none, .int .u32 pc, .int .i64 most] w (NilPost w) := by
  have h := along_nil pc most 28 #[] p0 p1 w hF
  have H := Lib.hid h
  clear h hF
  go_enter Tryd.func12, Tryd.ntmps12
  go_wp2_with (go_at_call 27; refine H.out.mono ?_; rintro e w1 ⟨rfl, hb1⟩)
  go_ret
  exact ⟨rfl, hb1⟩
set_option maxHeartbeats 800000 in
theorem row_calls (g gb : Nat) (bs : List Int) (pc most : Int) (p0 : 0 ≤ pc) (p1 : pc ≤ 4294967295) (w : World) (hF : FormsAt w) (hR : RamAt w g gb bs) :
    Calls Tryd.prog 12 #[.pointer (some ⟨g, 0, none⟩), .int .u32 pc, .int .i64 most] w (RowPost 43 w (pathS bs true (mostS most) pc [])) := by
  have h := along_row g gb bs pc most (mostS most) p0 p1 (most_or most) w hF hR
  generalize pathS bs true (mostS most) pc [] = R at *
  have H := Lib.hid h
  clear h hF hR
  go_enter Tryd.func12, Tryd.ntmps12
  go_wp2_with (go_at_call 27; refine H.out.mono ?_; rintro e w1 ⟨v, rfl, ho1, hb1⟩)
  go_ret
  exact ⟨v, rfl, ho1, hb1⟩
end Go.Proofs.YtnbbhgpflanhaaaDoor
