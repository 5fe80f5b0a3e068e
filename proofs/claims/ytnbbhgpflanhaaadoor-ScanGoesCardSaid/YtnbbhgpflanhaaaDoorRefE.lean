/- Walks: the reference's decoding. -/
import Derived.Test.YtnbbhgpflanhaaaDoorRefC
import Derived.Test.YtnbbhgpflanhaaaDoorPat
import Derived.Test.YtnbbhgpflanhaaaDoorWalkB
namespace Go.Proofs.YtnbbhgpflanhaaaDoor
open Go.RowKit
set_option maxRecDepth 100000
set_option linter.unusedVariables false

theorem pat_cells (w : World) (k : Nat) (hk : k < 57) : (w.alloc (.cells patV 96 (0, 0))).cell? ⟨w.heap.size, k * 2, none⟩ = some (.int .u32 (patS.getD k (0, 0)).1) ∧
    (w.alloc (.cells patV 96 (0, 0))).cell? ⟨w.heap.size, k * 2 + 1, none⟩ = some (.int .u32 (patS.getD k (0, 0)).2) := by
  have h : ∀ k, k < 57 → patV[k * 2]? = some (.int .u32 (patS.getD k (0, 0)).1) ∧ patV[k * 2 + 1]? = some (.int .u32 (patS.getD k (0, 0)).2) := by
    intro k hk
    have hall : ∀ k : Fin 57, patV[k.val * 2]? = some (.int .u32 (patS.getD k.val (0, 0)).1) ∧ patV[k.val * 2 + 1]? = some (.int .u32 (patS.getD k.val (0, 0)).2) := by
      intro k
      rcases k with ⟨k, hk⟩
      obtain rfl | rfl | rfl | rfl | rfl | rfl | rfl | rfl | rfl | rfl | rfl | rfl | rfl | rfl | rfl | rfl | rfl | rfl | rfl | rfl | rfl | rfl | rfl | rfl | rfl | rfl | rfl | rfl | rfl | rfl | rfl | rfl | rfl | rfl | rfl | rfl | rfl | rfl | rfl | rfl | rfl | rfl | rfl | rfl | rfl | rfl | rfl | rfl | rfl | rfl | rfl | rfl | rfl | rfl | rfl | rfl | rfl := (by omega : k = 0 ∨ k = 1 ∨ k = 2 ∨ k = 3 ∨ k = 4 ∨ k = 5 ∨ k = 6 ∨ k = 7 ∨ k = 8 ∨ k = 9 ∨ k = 10 ∨ k = 11 ∨ k = 12 ∨ k = 13 ∨ k = 14 ∨ k = 15 ∨ k = 16 ∨ k = 17 ∨ k = 18 ∨ k = 19 ∨ k = 20 ∨ k = 21 ∨ k = 22 ∨ k = 23 ∨ k = 24 ∨ k = 25 ∨ k = 26 ∨ k = 27 ∨ k = 28 ∨ k = 29 ∨ k = 30 ∨ k = 31 ∨ k = 32 ∨ k = 33 ∨ k = 34 ∨ k = 35 ∨ k = 36 ∨ k = 37 ∨ k = 38 ∨ k = 39 ∨ k = 40 ∨ k = 41 ∨ k = 42 ∨ k = 43 ∨ k = 44 ∨ k = 45 ∨ k = 46 ∨ k = 47 ∨ k = 48 ∨ k = 49 ∨ k = 50 ∨ k = 51 ∨ k = 52 ∨ k = 53 ∨ k = 54 ∨ k = 55 ∨ k = 56)
      all_goals exact ⟨rfl, rfl⟩
    exact hall ⟨k, hk⟩
  have hh : (w.alloc (.cells patV 96 (0, 0))).heap[w.heap.size]? = some (.cells patV 96 (0, 0)) := heap_alloc_new w _
  simp only [World.cell?, hh]
  exact h k hk
def DecPost (w : World) (x : Int) (e : Ending) (w' : World) : Prop := e = .returned (insV (decS x)) ∧ Below w.heap.size w w'
def DecRel (x : Int) (W0 : World) (iv : Value) (wr : World) : Prop := ∃ k m : Nat, k ≤ 57 ∧ iv = .int .i64 k ∧ wr = W0.drewN m ∧ ∀ j : Nat, j < k → ¬ matchP x j
theorem laid_form (x op f : Int) (hf : formS op = f) : insV (laidS x op) = .agg #[.int .i64 op, .int .i64 (if hasRd f then x / 128 % 32 else 0), .int .i64 (if 3 ≤ f ∧ f ≤ 8 then x / 32768 % 32 else 0),
    .int .i64 (if 4 ≤ f ∧ f ≤ 6 then x / 1048576 % 32 else 0), .int .u32 (immS x f), .int .i64 (if 8 ≤ f then x / 1048576 else 0)] := by
  subst hf; rfl
set_option maxHeartbeats 12800000 in
theorem rdec_calls (x : Int) (h0 : 0 ≤ x) (h1 : x ≤ 4294967295) (w : World) :
    Calls Tryd.prog 31 #[.int .u32 x] w (DecPost w x) := by
  go_enter Tryd.func31, Tryd.ntmps31
  go_wp2_with (go_at_call 48; refine (patterns_calls _).mono ?_; rintro e w' ⟨rfl, hw1⟩; subst hw1)
  have hp : ∀ k, k < 57 → ((w.alloc (.cells #[.int .i64 0, .int .i64 0, .int .i64 0, .int .i64 0, .int .u32 0, .int .i64 0] 41)).alloc (.cells patV 96)).cell? ⟨w.heap.size + 1, k * 2, none⟩ = some (.int .u32 (patS.getD k (0, 0)).1) ∧
      ((w.alloc (.cells #[.int .i64 0, .int .i64 0, .int .i64 0, .int .i64 0, .int .u32 0, .int .i64 0] 41)).alloc (.cells patV 96)).cell? ⟨w.heap.size + 1, k * 2 + 1, none⟩ = some (.int .u32 (patS.getD k (0, 0)).2) := by
    intro k hk
    have := pat_cells (w.alloc (.cells #[.int .i64 0, .int .i64 0, .int .i64 0, .int .i64 0, .int .u32 0, .int .i64 0] 41)) k hk
    have e : (w.alloc (.cells #[.int .i64 0, .int .i64 0, .int .i64 0, .int .i64 0, .int .u32 0, .int .i64 0] 41)).heap.size = w.heap.size + 1 := by simp
    rw [e] at this
    exact this
  have hbz : Below (w.alloc (.cells #[.int .i64 0, .int .i64 0, .int .i64 0, .int .i64 0, .int .u32 0, .int .i64 0] 41)).heap.size (w.alloc (.cells #[.int .i64 0, .int .i64 0, .int .i64 0, .int .i64 0, .int .u32 0, .int .i64 0] 41)) ((w.alloc (.cells #[.int .i64 0, .int .i64 0, .int .i64 0, .int .i64 0, .int .u32 0, .int .i64 0] 41)).alloc (.cells patV 96)) := bl_alloc (Below.refl _ _) _
  generalize ((w.alloc (.cells #[.int .i64 0, .int .i64 0, .int .i64 0, .int .i64 0, .int .u32 0, .int .i64 0] 41)).alloc (.cells patV 96)) = W0 at *
  obtain ⟨hcz, hfz⟩ := bcell hbz
  have z0 := hcz w.heap.size 0 (by simp)
  have z1 := hcz w.heap.size 1 (by simp)
  have z2 := hcz w.heap.size 2 (by simp)
  have z3 := hcz w.heap.size 3 (by simp)
  have z4 := hcz w.heap.size 4 (by simp)
  have z5 := hcz w.heap.size 5 (by simp)
  have f0 : ∀ o, W0.frozen? ⟨w.heap.size, o, none⟩ = false := fun o => by rw [hfz w.heap.size o (by simp)]; simp
  have hsz : w.heap.size < W0.heap.size := by have := hbz.size; simp at this; omega
  simp at z0 z1 z2 z3 z4 z5
  have hB : Below w.heap.size w W0 := bl_then (bl_alloc (Below.refl _ _) _) hbz
  have HP := Lib.hid hp
  clear hp hcz hfz hbz
  go_loopw [4] (fun iv wr => DecRel x W0 iv wr) (fun iv _ => 57 - (intOf iv).toNat)
  case atStart => exact ⟨0, 0, by omega, rfl, rfl, fun j hj => by omega⟩
  case round =>
    obtain ⟨k, m, hk, rfl, hwm, hno⟩ := hrel
    have y0 : wr.cell? ⟨w.heap.size, 0, none⟩ = some (.int .i64 0) := by rw [hwm]; simpa using z0
    have y1 : wr.cell? ⟨w.heap.size, 1, none⟩ = some (.int .i64 0) := by rw [hwm]; simpa using z1
    have y2 : wr.cell? ⟨w.heap.size, 2, none⟩ = some (.int .i64 0) := by rw [hwm]; simpa using z2
    have y3 : wr.cell? ⟨w.heap.size, 3, none⟩ = some (.int .i64 0) := by rw [hwm]; simpa using z3
    have y4 : wr.cell? ⟨w.heap.size, 4, none⟩ = some (.int .u32 0) := by rw [hwm]; simpa using z4
    have y5 : wr.cell? ⟨w.heap.size, 5, none⟩ = some (.int .i64 0) := by rw [hwm]; simpa using z5
    have g0 : ∀ o, wr.frozen? ⟨w.heap.size, o, none⟩ = false := fun o => by rw [hwm]; simpa using f0 o
    have gsz : w.heap.size < wr.heap.size := by rw [hwm]; simpa using hsz
    have gB : Below w.heap.size w wr := by rw [hwm]; exact bl_drewN hB m
    clear z0 z1 z2 z3 z4 z5 f0 hsz hB
    by_cases hlt : k < 57
    · have hpm : wr.cell? ⟨w.heap.size + 1, k * 2, none⟩ = some (.int .u32 (patS.getD k (0, 0)).1) := by rw [hwm]; simpa using (HP.out k hlt).1
      have hpt : wr.cell? ⟨w.heap.size + 1, k * 2 + 1, none⟩ = some (.int .u32 (patS.getD k (0, 0)).2) := by rw [hwm]; simpa using (HP.out k hlt).2
      have HW := Lib.hid hwm
      have hmp : matchP x k ↔ bits .and .u32 x (patS.getD k (0, 0)).1 = (patS.getD k (0, 0)).2 := Iff.rfl
      have hk0 : (0 : Int) ≤ (k : Int) := Int.natCast_nonneg _
      have hlt' : (k : Int) < 57 := by omega
      generalize (patS.getD k (0, 0)).1 = M at *
      generalize (patS.getD k (0, 0)).2 = T at *
      by_cases hm : matchP x k
      · have hkk := match_kind x h0 h1 k hlt hm
        have hbt : (bits .and .u32 x M != T) = false := by rw [bne_eq_false_iff_eq]; exact hmp.1 hm
        have hres : insV (decS x) = insV (laidS x (k + 1)) := by unfold decS; rw [if_neg (by rw [hkk]; omega), hkk]
        unfold DecPost
        rw [hres]
        have hfo := fun w' => rform_calls ((k : Int) + 1) w'
        clear hwm hno HP hm hkk hres hmp
        rcases formS_range ((k : Int) + 1) with h | h | h | h | h | h | h | h | h | h
        all_goals
          rw [h] at hfo
          have hl := laid_form x ((k : Int) + 1) _ h
          simp [hasRd] at hl
          have HFo := Lib.hid hfo
          have HL := Lib.hid hl
          clear hfo h hl
          rw [HL.out]
          go_wp2_with fail
          go_quiet (fail)
          clear hpm hpt
          go_wp2_with (first | (go_at_call 40; refine (HFo.out _).mono ?_; rintro e w' ⟨rfl, rfl⟩) | (go_at_call 49; refine (rimm_calls _ _ h0 h1 _).mono ?_; rintro e w3 ⟨rfl, n3, hw3⟩; have q0 : w3.cell? ⟨w.heap.size, 0, none⟩ = some (.int .i64 0) := (by rw [hw3]; simpa using y0); have q1 : w3.cell? ⟨w.heap.size, 1, none⟩ = some (.int .i64 0) := (by rw [hw3]; simpa using y1); have q2 : w3.cell? ⟨w.heap.size, 2, none⟩ = some (.int .i64 0) := (by rw [hw3]; simpa using y2); have q3 : w3.cell? ⟨w.heap.size, 3, none⟩ = some (.int .i64 0) := (by rw [hw3]; simpa using y3); have q4 : w3.cell? ⟨w.heap.size, 4, none⟩ = some (.int .u32 0) := (by rw [hw3]; simpa using y4); have q5 : w3.cell? ⟨w.heap.size, 5, none⟩ = some (.int .i64 0) := (by rw [hw3]; simpa using y5); have qf : ∀ o, w3.frozen? ⟨w.heap.size, o, none⟩ = false := (fun o => by rw [hw3]; simpa using g0 o); have qs : w.heap.size < w3.heap.size := (by rw [hw3]; simpa using gsz); have qB : Below w.heap.size w w3 := (by rw [hw3]; exact bl_drewN (bl_drewN gB _) _); have QB := Lib.hid qB; clear hw3 y0 y1 y2 y3 y4 y5 g0 gsz gB qB) | (go_at_call 50; refine (rb_calls _ _ _ h0 h1 (by omega) (by omega) (by omega) _).mono ?_; rintro e w' ⟨rfl, n4, rfl⟩))
          refine bodyPost_ret ?_ rfl ⟨rfl, ?_⟩
          rotate_left
          · with_reducible repeat (first | refine bl_drewN ?_ _ | refine bl_drew ?_ | refine bl_alloc ?_ _ | refine bl_set ?_ (Nat.le_refl _) _ | refine bl_set ?_ (Nat.le_of_lt qs) _)
            exact QB.out
          · clear QB HFo HL HW
            simp [results, Tryd.results31, go_sem, q0, q1, q2, q3, q4, q5, qs]
            try omega
      · have hbt : (bits .and .u32 x M != T) = true := by rw [bne_iff_ne]; exact fun h => hm (hmp.2 h)
        have hno' : ∀ j : Nat, j < k + 1 → ¬ matchP x j := fun j hj => by
          by_cases e : j = k
          · subst e; exact hm
          · exact hno j (by omega)
        have HNO := Lib.hid hno'
        clear hwm hno HP hm hmp hno' y0 y1 y2 y3 y4 y5 g0 gsz gB
        go_wp2_with fail
        go_quiet (fail)
        go_wp2
        go_roundw
        case rel => exact ⟨k + 1, m + nq, by omega, by go_num, by rw [HW.out, World.drewN_drewN], HNO.out⟩
        case measure => simp [intOf]; omega
    · have hk57 : k = 57 := by omega
      have hz := no_match x h0 h1 (fun j hj => hno j (by omega))
      have hres : insV (decS x) = .agg #[.int .i64 0, .int .i64 0, .int .i64 0, .int .i64 0, .int .u32 0, .int .i64 0] := by unfold decS; rw [if_pos hz]; rfl
      have HRES := Lib.hid hres
      have hge : ¬ (k : Int) < 57 := by omega
      have GB := Lib.hid gB
      clear hwm hno HP hres hz hk57 gB
      go_wp2
      refine bodyPost_ret ?_ rfl ⟨rfl, ?_⟩
      rotate_left
      · iterate 6 refine bl_set ?_ (Nat.le_refl _) _
        exact GB.out
      · clear GB
        simp [results, Tryd.results31, go_sem, y0, y1, y2, y3, y4, y5]
        exact HRES.out.symm
end Go.Proofs.YtnbbhgpflanhaaaDoor
