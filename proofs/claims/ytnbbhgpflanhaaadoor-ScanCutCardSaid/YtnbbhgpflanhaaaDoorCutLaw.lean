/- A row is the head of the path without turns; and the walk of that path's function. -/
import Derived.Test.YtnbbhgpflanhaaaDoorCut
import Derived.Test.YtnbbhgpflanhaaaDoorRefP
import Derived.Test.YtnbbhgpflanhaaaDoorOf
import Derived.Test.YtnbbhgpflanhaaaDoorRowN
namespace Go.Proofs.YtnbbhgpflanhaaaDoor
open Go.RowKit
set_option maxRecDepth 100000
set_option linter.unusedVariables false
set_option linter.unusedSimpArgs false
theorem cut_law (bs : List Int) : ∀ (n : Nat) (p : Int), (pathS bs true n p []).length ≤ (pathS bs false n p []).length ∧ (pathS bs false n p []).take (pathS bs true n p []).length = pathS bs true n p [] ∧
    ((pathS bs true n p []).length = (pathS bs false n p []).length ∨ ∃ R' x, pathS bs true n p [] = R' ++ [x] ∧ x.i.op = 3) := by
  intro n
  induction n with
  | zero => intro p; simp [pathS]
  | succ n ih =>
    intro p
    cases hok : okS bs p
    · rw [path_stop _ _ _ _ _ hok, path_stop _ _ _ _ _ hok]; simp
    · rw [path_row bs n p hok, path_cut bs n p hok]
      have hcan : canS (itemS bs p).i = true := by
        unfold okS at hok
        simp only [Bool.and_eq_true] at hok
        exact hok.2
      obtain ⟨h1, h2, h3⟩ := ih (itemS bs p).next
      generalize itemS bs p = x at *
      cases he : endsS x.i.op
      · have hc : endsC x.i.op = false := by
          unfold endsC
          cases hb : isBranch x.i.op
          · by_cases c4 : x.i.op = 4
            · rw [c4] at he; exact absurd he (by decide)
            · simp [c4]
          · have := branch_ends x.i.op hb
            rw [he] at this; cases this
        rw [hc]
        simp only [Bool.false_eq_true, if_false, List.length_cons, List.take_succ_cons]
        refine ⟨by omega, by rw [h2], ?_⟩
        rcases h3 with h3 | ⟨R', y, h3, h4⟩
        · exact .inl (by omega)
        · exact .inr ⟨x :: R', y, by rw [h3]; rfl, h4⟩
      · by_cases c3 : x.i.op = 3
        · exact ⟨by simp, by simp, .inr ⟨[], x, by simp, c3⟩⟩
        · have hc : endsC x.i.op = true := by
            unfold endsC
            by_cases c4 : x.i.op = 4
            · simp [c4]
            · cases hb : isBranch x.i.op
              · have := can_ends x.i hcan c3 c4 hb
                rw [he] at this; cases this
              · rfl
          rw [hc]
          simp
theorem OwnI.take {T : TypeId} {B : Nat} {w : World} {a : Option Addr} {n c : Nat} {xs : List Itm} (h : OwnI T B w (.slice a n c) xs) (k : Nat) (hk : k ≤ xs.length) : OwnI T B w (.slice a k c) (xs.take k) := by
  have hf : (flatI xs).take (k * 8) = flatI (xs.take k) := by
    have e : flatI xs = flatI (xs.take k) ++ flatI (xs.drop k) := by simp only [flatI]; rw [← List.flatMap_append, List.take_append_drop]
    rw [e, List.take_append_of_le_length (by rw [flatI_length]; simp; omega), List.take_of_length_le (by rw [flatI_length]; simp; omega)]
  have hl : (xs.take k).length = k := by simp; omega
  unfold OwnI at *
  rw [hl]
  refine ⟨by rw [flatI_length, hl], ?_⟩
  rcases h.2 with ⟨h0, h1⟩ | ⟨g, cap, cur, h0, hb, hh, hr0, hr1, hr2, hr3⟩
  · cases h0
    left
    exact ⟨by congr 1; omega, by omega⟩
  · cases h0
    right
    refine ⟨g, c, cur, rfl, hb, hh, by omega, hr1, hr2, ?_⟩
    rw [← hf, ← hr3, List.take_take]
    congr 1
    omega
set_option maxHeartbeats 800000 in
theorem cut_calls (g gb : Nat) (bs : List Int) (pc most : Int) (p0 : 0 ≤ pc) (p1 : pc ≤ 4294967295) (w : World) (hF : FormsAt w) (hR : RamAt w g gb bs) :
    Calls Tryd.prog 15 #[.pointer (some ⟨g, 0, none⟩), .int .u32 pc, .slice none 0 0, .int .i64 most] w (RowPost 43 w (pathS bs false (mostS most) pc [])) := by
  have hb0 := bl_alloc (Below.refl w.heap.size w) (.cells #[.slice none 0 0] 35)
  have h := along_cut g gb w.heap.size bs pc most (mostS most) p0 p1 (most_or most) _ (hF.below hb0) (hR.below hb0) (by simp)
  generalize pathS bs false (mostS most) pc [] = R at *
  have hmf : ∀ (fn : Fn) (first cap : Array Value) (w : World), (Instr.makeFunc fn first cap).run Tryd.prog w = .ok (.func fn first cap) w := fun _ _ _ _ => rfl
  have H := Lib.hid h
  have HB0 := Lib.hid hb0
  clear h hF hR hb0
  go_enter Tryd.func15, Tryd.ntmps15
  go_wp2_with (go_at_call 27; refine H.out.mono ?_; rintro e w1 ⟨v, rfl, ho1, hb1⟩)
  go_ret
  refine ⟨v, rfl, ?_, HB0.out.trans (hb1.mono HB0.out.size)⟩
  refine ⟨ho1.1, ?_⟩
  rcases ho1.2 with hx | ⟨g', cap, cur, h0, hb, hr⟩
  · exact .inl hx
  · exact .inr ⟨g', cap, cur, h0, by have := HB0.out.size; omega, hr⟩
end Go.Proofs.YtnbbhgpflanhaaaDoor
