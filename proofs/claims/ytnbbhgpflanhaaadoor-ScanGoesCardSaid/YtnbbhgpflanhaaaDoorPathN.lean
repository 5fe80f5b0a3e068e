/- Walks: scan.Path with turns, with a memory and without one. -/
import Derived.Test.YtnbbhgpflanhaaaDoorPathLong
import Derived.Test.YtnbbhgpflanhaaaDoorRowN
namespace Go.Proofs.YtnbbhgpflanhaaaDoor
open Go.RowKit
set_option maxRecDepth 100000
set_option linter.unusedVariables false
set_option linter.unusedSimpArgs false
set_option maxHeartbeats 800000 in
theorem path_nil (pc most : Int) (a : Option Addr) (n c : Nat) (p0 : 0 ≤ pc) (p1 : pc ≤ 4294967295) (w : World) (hF : FormsAt w) :
    Calls Tryd.prog 15 #[.pointer none, .int .u32 pc, .slice a n c, .int .i64 most] w (NilPost w) := by
  have hb0 := bl_alloc (Below.refl w.heap.size w) (.cells #[.slice a n c] 35)
  have h := along_nil pc most 35 #[.pointer (some ⟨w.heap.size, 0, none⟩)] p0 p1 _ (hF.below hb0)
  have hmf : ∀ (fn : Fn) (first cap : Array Value) (w : World), (Instr.makeFunc fn first cap).run Tryd.prog w = .ok (.func fn first cap) w := fun _ _ _ _ => rfl
  have H := Lib.hid h
  have HB0 := Lib.hid hb0
  clear h hF hb0
  go_enter Tryd.func15, Tryd.ntmps15
  go_wp2_with (go_at_call 27; refine H.out.mono ?_; rintro e w1 ⟨rfl, hb1⟩)
  go_ret
  exact ⟨rfl, HB0.out.trans (hb1.mono HB0.out.size)⟩
set_option maxHeartbeats 800000 in
theorem path_calls (g gb : Nat) (bs : List Int) (pc most : Int) (ts : List Bool) (a : Option Addr) (c : Nat) (p0 : 0 ≤ pc) (p1 : pc ≤ 4294967295) (w : World) (hF : FormsAt w) (hR : RamAt w g gb bs) (hT : TurnsAt w (.slice a ts.length c) ts) :
    Calls Tryd.prog 15 #[.pointer (some ⟨g, 0, none⟩), .int .u32 pc, .slice a ts.length c, .int .i64 most] w (RowPost 43 w (pathS bs false (mostS most) pc ts)) := by
  have hb0 := bl_alloc (Below.refl w.heap.size w) (.cells #[.slice a ts.length c] 35)
  have h := along_path g gb w.heap.size bs pc most (mostS most) ts (.slice a ts.length c) p0 p1 (most_or most) w _ hF hR hb0 (heap_alloc_new w _) (Nat.le_refl _) hT
  generalize pathS bs false (mostS most) pc ts = R at *
  have hmf : ∀ (fn : Fn) (first cap : Array Value) (w : World), (Instr.makeFunc fn first cap).run Tryd.prog w = .ok (.func fn first cap) w := fun _ _ _ _ => rfl
  have H := Lib.hid h
  have HB0 := Lib.hid hb0
  clear h hF hR hb0 hT
  generalize ts.length = tn at *
  go_enter Tryd.func15, Tryd.ntmps15
  go_wp2_with (go_at_call 27; refine H.out.mono ?_; rintro e w1 ⟨v, rfl, ho1, hb1⟩)
  go_ret
  refine ⟨v, rfl, ?_, hb1⟩
  refine ⟨ho1.1, ?_⟩
  rcases ho1.2 with hx | ⟨g', cap, cur, h0, hb, hr⟩
  · exact .inl hx
  · exact .inr ⟨g', cap, cur, h0, by have := HB0.out.size; omega, hr⟩
end Go.Proofs.YtnbbhgpflanhaaaDoor
