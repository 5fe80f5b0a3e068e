/- Walks: Row. -/
import Derived.Test.YtnbbhgpflanhaaaDoorAlong
namespace Go.Proofs.YtnbbhgpflanhaaaDoor
open Go.RowKit
set_option maxRecDepth 100000
set_option linter.unusedVariables false

def lenOf : Value → Nat | .slice _ n _ => n | _ => 0
/-- what holds at a round's head -/
structure RowRel (bs : List Int) (rows : Bool) (N : Nat) (R : List Itm) (w : World) (pcv outv : Value) (wr : World) (xs : List Itm) (p : Int) (ts : List Bool) : Prop where
  pc : pcv = .int .u32 p
  p0 : 0 ≤ p
  p1 : p ≤ 4294967295
  own : OwnI 43 w.heap.size wr outv xs
  below : Below w.heap.size w wr
  le : xs.length ≤ N
  rest : xs ++ pathS bs rows (N - xs.length) p ts = R
def RowRel' (bs : List Int) (N : Nat) (R : List Itm) (w : World) (pcv outv : Value) (wr : World) : Prop := ∃ xs p, RowRel bs true N R w pcv outv wr xs p []
theorem path_stop (bs : List Int) (rows : Bool) (n : Nat) (p : Int) (ts : List Bool) (h : okS bs p = false) : pathS bs rows n p ts = [] := by
  cases n with
  | zero => rfl
  | succ n => simp [pathS, h]
theorem path_row (bs : List Int) (n : Nat) (p : Int) (h : okS bs p = true) : pathS bs true (n + 1) p [] = itemS bs p :: (if endsS (itemS bs p).i.op then [] else pathS bs true n (itemS bs p).next []) := by
  have ho : onS true (itemS bs p) [] = (!endsS (itemS bs p).i.op, itemS bs p, []) := by
    unfold onS
    by_cases hb : isBranch (itemS bs p).i.op = true
    · have he : endsS (itemS bs p).i.op = true := by
        simp only [isBranch, decide_eq_true_eq] at hb
        unfold endsS; exact decide_eq_true (by omega)
      simp [hb, he]
    · simp [hb]
  have e : pathS bs true (n + 1) p [] = (if okS bs p then
      if (onS true (itemS bs p) []).1 then (onS true (itemS bs p) []).2.1 :: pathS bs true n (onS true (itemS bs p) []).2.1.next (onS true (itemS bs p) []).2.2
      else [(onS true (itemS bs p) []).2.1]
    else []) := rfl
  rw [e, if_pos h, ho]
  cases endsS (itemS bs p).i.op <;> simp
theorem item_next (bs : List Int) (p : Int) (h0 : 0 ≤ p) (h1 : p ≤ 4294967295) : 0 ≤ (itemS bs p).next ∧ (itemS bs p).next ≤ 4294967295 := by
  unfold itemS nextS
  simp only
  split
  · omega
  · split <;> omega
set_option maxHeartbeats 6400000 in
theorem along_row (g gb : Nat) (bs : List Int) (pc most : Int) (N : Nat) (p0 : 0 ≤ pc) (p1 : pc ≤ 4294967295) (hN : (32 < most ∧ N = 32) ∨ (¬ 32 < most ∧ N = most.toNat)) (w : World) (hF : FormsAt w) (hR : RamAt w g gb bs) :
    Calls Tryd.prog 27 #[.pointer (some ⟨g, 0, none⟩), .int .u32 pc, .int .i64 most, .func (.func 28) #[] #[]] w
      (RowPost 43 w (pathS bs true N pc [])) := by
  obtain ⟨R, hRR⟩ : ∃ R, pathS bs true N pc [] = R := ⟨_, rfl⟩
  have hN32 : N ≤ 32 := by omega
  obtain ⟨i0, hi0, hzz⟩ := Option.map_eq_some_iff.1 info_item
  simp only [Prod.mk.injEq] at hzz
  obtain ⟨hz0, hz1, hz2⟩ := hzz
  have HI := Lib.hid hi0
  have HZ := Lib.hid hz0
  have HZ1 := Lib.hid hz1
  have HZ2 := Lib.hid hz2
  clear hi0 hz0 hz1 hz2
  rw [hRR]
  rcases hN with ⟨hm, hNe⟩ | ⟨hm, hNe⟩
  all_goals
    have HNe := Lib.hid hNe
    clear hNe
    go_enter Tryd.func27, Tryd.ntmps27
    go_wp2
    go_loopw [1, 9] (fun pcv outv wr => RowRel' bs N R w pcv outv wr) (fun _ outv _ => N - lenOf outv)
    case atStart => exact ⟨[], pc, rfl, p0, p1, OwnI.nil _ _ _, Below.refl _ _, Nat.zero_le _, by simpa using hRR⟩
    case round =>
      obtain ⟨xs, p, hrel⟩ := hrel
      obtain ⟨rfl, q0, q1, hown, hb, hle, hrest⟩ := hrel
      obtain ⟨av, cv, rfl⟩ := hown.slice
      have hat := at_ram g gb bs p q0 q1 wr (hF.below hb) (hR.below hb)
      have hnx := item_next bs p q0 q1
      have hpr := path_row bs
      have hps := path_stop bs true
      by_cases hlt : xs.length < N
      · obtain ⟨n, hn⟩ : ∃ n, N - xs.length = n + 1 := ⟨N - xs.length - 1, by omega⟩
        rw [hn] at hrest
        have hq : (xs.length : Int) < 32 := by omega
        have hq2 : (xs.length : Int) < most := by have := HNe.out; omega
        cases hok : okS bs p
        · rw [hps _ _ _ hok, List.append_nil] at hrest
          subst hrest
          rw [hok] at hat
          have HO := Lib.hid hown
          have HAT := Lib.hid hat
          generalize itemS bs p = x at *
          clear hown hat hok hpr hps hn hRR hF hR
          go_wp2_with (go_at_call 46; refine HAT.out.mono ?_; rintro e w1 ⟨rfl, hb1⟩; simp only [itmV])
          go_ret
          exact ⟨_, rfl, HO.out.below (bl_alloc hb1 _), hb.trans ((bl_alloc hb1 _).mono hb.size)⟩
        · rw [hpr _ _ hok] at hrest
          rw [hok] at hat
          have HO := Lib.hid hown
          have HAT := Lib.hid hat
          have HRE := Lib.hid hrest
          generalize itemS bs p = x at *
          have hon := fun gx w' h => row_on gx x.i.op w' h
          have hob := hown.lt
          obtain ⟨n0, n1⟩ := hnx
          clear hown hat hok hpr hps hRR hF hR hrest
          generalize endsS x.i.op = t at *
          have HON := Lib.hid hon
          have HOB := Lib.hid hob
          clear hon hob
          cases t
          all_goals
            go_wp2_with (go_at_call 46; refine HAT.out.mono ?_; rintro e w1 ⟨rfl, hb1⟩; simp only [itmV])
            refine (HON.out _ _ (by simp)).mono ?_
            rintro e w' ⟨rfl, rfl⟩
            have hsz1 := hb1.size
            have hszb := hb.size
            go_wp2_with (at_builtin; refine append_item (w0 := w) (W := w1.alloc (.cells #[.int .u32 x.pc, .int .i64 x.i.op, .int .i64 x.i.rd, .int .i64 x.i.rs1, .int .i64 x.i.rs2, .int .u32 x.i.imm, .int .i64 x.i.csr, .int .u32 x.next] 43)) 43 29 w.heap.size i0 _ rfl _ _ rfl Tryd.underlying29 HI.out HZ.out HZ1.out HZ2.out rfl _ xs x rfl _ rfl (by simp) (HO.out.below (bl_alloc hb1 _)) (hb.trans ((bl_alloc hb1 _).mono hb.size)) (by simp; omega) (by omega) ?_; intro v1 w2 hown2 hb2 hz2 hkeep; obtain ⟨a1, c1, hv1⟩ := hown2.slice; rw [show (xs ++ [x]).length = xs.length + 1 by simp] at hv1; subst hv1; have hk7 := hkeep w1.heap.size 7 (by simp) (fun h => by have := HOB.out _ h.symm; omega); simp at hk7; have HO2 := Lib.hid hown2; clear hown2 hkeep)
            first
            | (go_ret
               exact ⟨_, rfl, by rw [← HRE.out]; exact HO2.out, hb2⟩)
            | (go_roundw
               case rel => exact ⟨xs ++ [x], x.next, rfl, n0, n1, HO2.out, hb2, by simp; omega, by rw [← HRE.out, show N - (xs ++ [x]).length = n by simp; omega]; simp⟩
               case measure => (show N - (xs.length + 1) < N - xs.length; omega))
      · first
        | (have hq : ¬ (xs.length : Int) < 32 := by have := HNe.out; omega)
        | (have hq : ¬ (xs.length : Int) < most := by have := HNe.out; omega)
        have hxN : N - xs.length = 0 := by omega
        rw [hxN] at hrest
        simp only [pathS, List.append_nil] at hrest
        subst hrest
        have HO := Lib.hid hown
        clear hown hat hpr hps hRR hF hR hxN
        go_wp2_with fail
        go_ret
        exact ⟨_, rfl, HO.out, hb⟩
end Go.Proofs.YtnbbhgpflanhaaaDoor
