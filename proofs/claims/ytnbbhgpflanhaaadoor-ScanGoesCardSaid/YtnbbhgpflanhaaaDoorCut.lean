/- Walks: Path without turns. -/
import Derived.Test.YtnbbhgpflanhaaaDoorRowW
namespace Go.Proofs.YtnbbhgpflanhaaaDoor
open Go.RowKit
set_option maxRecDepth 100000
set_option linter.unusedVariables false

def endsC (op : Int) : Bool := isBranch op || op == 4
def CutRel' (bs : List Int) (N : Nat) (R : List Itm) (w : World) (pcv outv : Value) (wr : World) : Prop := ∃ xs p, RowRel bs false N R w pcv outv wr xs p []
theorem path_cut (bs : List Int) (n : Nat) (p : Int) (h : okS bs p = true) : pathS bs false (n + 1) p [] = itemS bs p :: (if endsC (itemS bs p).i.op then [] else pathS bs false n (itemS bs p).next []) := by
  have ho : onS false (itemS bs p) [] = (!endsC (itemS bs p).i.op, itemS bs p, []) := by
    unfold onS endsC
    by_cases hb : isBranch (itemS bs p).i.op = true
    · simp [hb]
    · by_cases h4 : (itemS bs p).i.op = 4
      · simp [h4, show isBranch 4 = false from rfl]
      · simp [hb, h4]
  have e : pathS bs false (n + 1) p [] = (if okS bs p then
      if (onS false (itemS bs p) []).1 then (onS false (itemS bs p) []).2.1 :: pathS bs false n (onS false (itemS bs p) []).2.1.next (onS false (itemS bs p) []).2.2
      else [(onS false (itemS bs p) []).2.1]
    else []) := rfl
  rw [e, if_pos h, ho]
  cases endsC (itemS bs p).i.op <;> simp
theorem cut_cell {w w' : World} {tb : Nat} {v : Value} (h : w.cell? ⟨tb, 0, none⟩ = some v) (hb : Below w.heap.size w w') (x : Obj) : (w'.alloc x).cell? ⟨tb, 0, none⟩ = some v :=
  ((bl_alloc hb x).cell (World.block_lt_of_cell? w _ h)).trans h
theorem cut_on (gx tb : Nat) (op : Int) (w : World) (hc : w.cell? ⟨gx, 1, none⟩ = some (.int .i64 op)) (ht : w.cell? ⟨tb, 0, none⟩ = some (.slice none 0 0)) :
    Calls Tryd.prog 35 #[.pointer (some ⟨gx, 0, none⟩), .pointer (some ⟨tb, 0, none⟩)] w fun e w' => e = .returned (.bool (!endsC op)) ∧ w = w' := by
  have he := fun w' => branch_calls op w'
  unfold endsC
  cases hb : isBranch op
  · rw [hb] at he
    have HE := Lib.hid he
    clear he
    go_enter Tryd.func35, Tryd.ntmps35
    go_wp2_with (go_at_call 36; refine (HE.out _).mono ?_; rintro e w' ⟨rfl, rfl⟩)
    all_goals go_ret
    all_goals exact ⟨by simp [bne], rfl⟩
  · rw [hb] at he
    have HE := Lib.hid he
    clear he
    go_enter Tryd.func35, Tryd.ntmps35
    go_wp2_with (go_at_call 36; refine (HE.out _).mono ?_; rintro e w' ⟨rfl, rfl⟩)
    go_ret
    exact ⟨by simp, rfl⟩
set_option maxHeartbeats 6400000 in
theorem along_cut (g gb tb : Nat) (bs : List Int) (pc most : Int) (N : Nat) (p0 : 0 ≤ pc) (p1 : pc ≤ 4294967295) (hN : (32 < most ∧ N = 32) ∨ (¬ 32 < most ∧ N = most.toNat)) (w : World) (hF : FormsAt w) (hR : RamAt w g gb bs) (hT : w.cell? ⟨tb, 0, none⟩ = some (.slice none 0 0)) :
    Calls Tryd.prog 27 #[.pointer (some ⟨g, 0, none⟩), .int .u32 pc, .int .i64 most, .func (.func 35) #[] #[.pointer (some ⟨tb, 0, none⟩)]] w
      (RowPost 43 w (pathS bs false N pc [])) := by
  obtain ⟨R, hRR⟩ : ∃ R, pathS bs false N pc [] = R := ⟨_, rfl⟩
  have hN32 : N ≤ 32 := by omega
  have HT := Lib.hid hT
  clear hT
  obtain ⟨i0, hi0, hzz⟩ := Option.map_eq_some_iff.1 info_item
  simp only [Prod.mk.injEq] at hzz
  obtain ⟨hz0, hz1, hz2⟩ := hzz
  have HI := Lib.hid hi0
  have HZ := Lib.hid hz0
  have HZ1 := Lib.hid hz1
  have HZ2 := Lib.hid hz2
  clear hi0 hz0 hz1 hz2
  rw [hRR]
  rcases hN with ⟨hm, hNe⟩ | ⟨hm, hNe⟩
  all_goals
    have HNe := Lib.hid hNe
    clear hNe
    go_enter Tryd.func27, Tryd.ntmps27
    go_wp2
    go_loopw [1, 9] (fun pcv outv wr => CutRel' bs N R w pcv outv wr) (fun _ outv _ => N - lenOf outv)
    case atStart => exact ⟨[], pc, rfl, p0, p1, OwnI.nil _ _ _, Below.refl _ _, Nat.zero_le _, by simpa using hRR⟩
    case round =>
      obtain ⟨xs, p, hrel⟩ := hrel
      obtain ⟨rfl, q0, q1, hown, hb, hle, hrest⟩ := hrel
      obtain ⟨av, cv, rfl⟩ := hown.slice
      have hat := at_ram g gb bs p q0 q1 wr (hF.below hb) (hR.below hb)
      have hnx := item_next bs p q0 q1
      have hpr := path_cut bs
      have hps := path_stop bs false
      by_cases hlt : xs.length < N
      · obtain ⟨n, hn⟩ : ∃ n, N - xs.length = n + 1 := ⟨N - xs.length - 1, by omega⟩
        rw [hn] at hrest
        have hq : (xs.length : Int) < 32 := by omega
        have hq2 : (xs.length : Int) < most := by have := HNe.out; omega
        cases hok : okS bs p
        · rw [hps _ _ _ hok, List.append_nil] at hrest
          subst hrest
          rw [hok] at hat
          have HO := Lib.hid hown
          have HAT := Lib.hid hat
          generalize itemS bs p = x at *
          clear hown hat hok hpr hps hn hRR hF hR
          go_wp2_with (go_at_call 46; refine HAT.out.mono ?_; rintro e w1 ⟨rfl, hb1⟩; simp only [itmV])
          go_ret
          exact ⟨_, rfl, HO.out.below (bl_alloc hb1 _), hb.trans ((bl_alloc hb1 _).mono hb.size)⟩
        · rw [hpr _ _ hok] at hrest
          rw [hok] at hat
          have HO := Lib.hid hown
          have HAT := Lib.hid hat
          have HRE := Lib.hid hrest
          generalize itemS bs p = x at *
          have hon := fun gx w' h h' => cut_on gx tb x.i.op w' h h'
          have hob := hown.lt
          obtain ⟨n0, n1⟩ := hnx
          clear hown hat hok hpr hps hRR hF hR hrest
          generalize endsC x.i.op = t at *
          have HON := Lib.hid hon
          have HOB := Lib.hid hob
          clear hon hob
          cases t
          all_goals
            go_wp2_with (go_at_call 46; refine HAT.out.mono ?_; rintro e w1 ⟨rfl, hb1⟩; simp only [itmV])
            refine (HON.out _ _ (by simp) (cut_cell HT.out (hb.trans (hb1.mono hb.size)) _)).mono ?_
            rintro e w' ⟨rfl, rfl⟩
            have hsz1 := hb1.size
            have hszb := hb.size
            go_wp2_with (at_builtin; refine append_item (w0 := w) (W := w1.alloc (.cells #[.int .u32 x.pc, .int .i64 x.i.op, .int .i64 x.i.rd, .int .i64 x.i.rs1, .int .i64 x.i.rs2, .int .u32 x.i.imm, .int .i64 x.i.csr, .int .u32 x.next] 43)) 43 29 w.heap.size i0 _ rfl _ _ rfl Tryd.underlying29 HI.out HZ.out HZ1.out HZ2.out rfl _ xs x rfl _ rfl (by simp) (HO.out.below (bl_alloc hb1 _)) (hb.trans ((bl_alloc hb1 _).mono hb.size)) (by simp; omega) (by omega) ?_; intro v1 w2 hown2 hb2 hz2 hkeep; obtain ⟨a1, c1, hv1⟩ := hown2.slice; rw [show (xs ++ [x]).length = xs.length + 1 by simp] at hv1; subst hv1; have hk7 := hkeep w1.heap.size 7 (by simp) (fun h => by have := HOB.out _ h.symm; omega); simp at hk7; have HO2 := Lib.hid hown2; clear hown2 hkeep)
            first
            | (go_ret
               exact ⟨_, rfl, by rw [← HRE.out]; exact HO2.out, hb2⟩)
            | (go_roundw
               case rel => exact ⟨xs ++ [x], x.next, rfl, n0, n1, HO2.out, hb2, by simp; omega, by rw [← HRE.out, show N - (xs ++ [x]).length = n by simp; omega]; simp⟩
               case measure => (show N - (xs.length + 1) < N - xs.length; omega))
      · first
        | (have hq : ¬ (xs.length : Int) < 32 := by have := HNe.out; omega)
        | (have hq : ¬ (xs.length : Int) < most := by have := HNe.out; omega)
        have hxN : N - xs.length = 0 := by omega
        rw [hxN] at hrest
        simp only [pathS, List.append_nil] at hrest
        subst hrest
        have HO := Lib.hid hown
        clear hown hat hpr hps hRR hF hR hxN
        go_wp2_with fail
        go_ret
        exact ⟨_, rfl, HO.out, hb⟩
end Go.Proofs.YtnbbhgpflanhaaaDoor
