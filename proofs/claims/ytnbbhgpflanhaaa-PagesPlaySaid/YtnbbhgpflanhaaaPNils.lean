/- Walks: does the program answer at all? And the index that is none. -/
import Derived.Test.YtnbbhgpflanhaaaIndex
namespace Go.Proofs.Ytnbbhgpflanhaaa
open Go.RowKit
set_option linter.unusedVariables false
set_option linter.unusedSimpArgs false
set_option maxRecDepth 100000
theorem own_row {w : World} {base : Nat} {v : Value} {zs : List Int} (h : w.ownsRow base 3 1 v zs.length (zs.map (Value.int .i64))) (hz : zs ≠ []) :
    ∃ g c, v = .slice (some ⟨g, 0, none⟩) zs.length c ∧ base ≤ g ∧ g < w.heap.size ∧ zs.length ≤ c ∧ ∀ i, i < zs.length → w.cell? ⟨g, i, none⟩ = some (.int .i64 (zs.getD i 0)) := by
  rcases h.2 with ⟨rfl, h0⟩ | ⟨g, cap, cur, rfl, hb, hh, hl, _, _, ht⟩
  · exact absurd (List.length_eq_zero_iff.1 h0) hz
  · refine ⟨g, cap, rfl, hb, (Array.getElem?_eq_some_iff.1 hh).1, hl, fun i hi => ?_⟩
    have := World.ownsRow.cells h (g := g) rfl i (.int .i64 (zs.getD i 0)) (by simp [hi, List.getD_eq_getElem?_getD])
    have e : (⟨g, 0, none⟩ : Addr).add i = ⟨g, i, none⟩ := by by_cases h0 : i = 0 <;> simp [Addr.add, h0]
    rw [e] at this
    exact this
theorem int_ok (x : Int) (h0 : -100 ≤ x) (h1 : x ≤ 100) : IntOk x := IntOk.mk (by omega) (by omega)
set_option maxHeartbeats 1600000 in
theorem awake_calls (w : World) : Calls Try.prog 6 #[] w fun e w' => e = .returned (.bool true) ∧ Below w.heap.size w w' := by
  have hnew := new_calls w.heap.size w (Nat.le_refl _)
  have HN := Lib.hid hnew
  clear hnew
  go_enter Try.func6, Try.ntmps6
  go_wp2_with (go_at_call 7; refine HN.out.mono ?_; rintro e w1 ⟨g, F, rfl, hi, hb1, hf1⟩)
  have hb2 : Below w1.heap.size w1 (w1.alloc (.cells #[.int .i64 5, .int .i64 4] 3)) := (Below.refl _ w1).alloc (Nat.le_refl _) _
  have hrow : RowAt (w1.alloc (.cells #[.int .i64 5, .int .i64 4] 3)) F (.slice (some ⟨w1.heap.size, 0, none⟩) [5, 4].length 2) [5, 4] :=
    ⟨⟨_, _, rfl⟩, .inr ⟨w1.heap.size, 0, 2, rfl, fun h => by have := hi.lt _ h; omega, by simp, fun i hi => by
      have hi2 : i < 2 := hi
      obtain rfl | rfl : i = 0 ∨ i = 1 := by omega
      · simp
      · simp⟩⟩
  have hadd := add_calls (hi.below hb2) (by have := hb1.size; simp; omega) (by omega) 1 (int_ok 1 (by omega) (by omega)) [5, 4] (fun x hx => int_ok x (by simp at hx; omega) (by simp at hx; omega)) (by simp) (some ⟨w1.heap.size, 0, none⟩) 2 hrow
  have hbase := hi.base
  have hB12 : Below w.heap.size w (w1.alloc (.cells #[.int .i64 5, .int .i64 4] 3)) := hb1.trans (hb2.mono hb1.size)
  rw [show ([5, 4] : List Int).length = 2 from rfl] at hadd
  have HA := Lib.hid hadd
  have HB := Lib.hid hB12
  have HBS := Lib.hid hbase
  clear hadd hrow hi hb1 hf1 hb2 hB12 hbase
  go_wp2_with (go_at_call 8; refine HA.out.mono ?_; rintro e w2 ⟨rfl, F2, hi2, hk2, hf2⟩)
  have hB2 : Below w.heap.size w w2 := HB.out.trans (hk2.below HB.out.size HBS.out)
  have hof := of_calls hi2 (by omega) 5 (int_ok 5 (by omega) (by omega))
  have HB2 := Lib.hid hB2
  have HI2 := Lib.hid hi2
  have HO := Lib.hid hof
  clear hB2 hi2 hk2 hf2 hof
  go_wp2_with (go_at_call 12; refine HO.out.mono ?_; rintro e w3 ⟨v, zs, rfl, h1, h2, h3, h4, h5⟩)
  have hz : zs = [1] := rise_eq h2 (by simp [Rise]) (fun x => by rw [h3 x]; simp)
  subst hz
  obtain ⟨g3, c3, rfl, hg3, hl3, hc3, hcell3⟩ := own_row h1 (by simp)
  have d3 := hcell3 0 (by simp)
  simp at d3
  have hpg := pages_calls (HI2.out.below h4) (by omega) 1 (int_ok 1 (by omega) (by omega))
  have HB3 := Lib.hid (HB2.out.trans (h4.mono HB2.out.size))
  have HI3 := Lib.hid (HI2.out.below h4)
  have HP := Lib.hid hpg
  clear h1 h2 h3 h4 h5 hcell3 hpg
  go_wp2_with fail
  refine HP.out.mono ?_
  rintro e w4 ⟨v, zs, rfl, h1, h2, h3, h4, h5⟩
  have hz : zs = [4, 5] := rise_eq h2 (by simp [Rise]) (fun x => by rw [h3 x]; simp; omega)
  subst hz
  obtain ⟨g4, c4, rfl, hg4, hl4, hc4, hcell4⟩ := own_row h1 (by simp)
  have d4 := hcell4 0 (by simp)
  simp at d4
  have e3 : w4.cell? ⟨g3, 0, none⟩ = some (.int .i64 1) := (h4.cell (p := ⟨g3, 0, none⟩) hl3).trans d3
  have hln := len_calls (HI3.out.below h4)
  have HB4 := Lib.hid (HB3.out.trans (h4.mono HB3.out.size))
  have HL := Lib.hid hln
  clear h1 h2 h3 h4 h5 hcell4 hln d3
  go_wp2_with (go_at_call 16; refine HL.out.mono ?_; rintro e w' ⟨rfl, m, rfl, hm⟩; have hm1 := hm [1] (by simp [Rise]) (fun x => ⟨fun hx => ⟨4, by simp at hx; subst hx; simp⟩, fun ⟨p, hx⟩ => by simp at hx; simp [hx.1]⟩); obtain rfl : m = 1 := hm1; clear hm)
  go_ret
  exact ⟨rfl, HB4.out⟩
theorem nils_some (id : Int) (a : Option Addr) (n c : Nat) (hn : n ≤ 20) (w : World) : Calls Try.prog 5 #[.int .i64 id, .slice a n c] w fun e w' => e = .returned (.bool true) ∧ Below w.heap.size w w' := by
  have hn' : ¬ (20 : Int) < n := by omega
  go_enter Try.func5, Try.ntmps5
  go_wp2_with (first
    | (go_at_call 8; refine (add_nil _ _ _ _ _).mono ?_; rintro e w' ⟨rfl, rfl⟩)
    | (go_at_call 10; refine (drop_nil _ _).mono ?_; rintro e w' ⟨rfl, rfl⟩)
    | (go_at_call 12; refine (of_nil _ _).mono ?_; rintro e w' ⟨rfl, rfl⟩)
    | (go_at_call 22; refine (pages_nil _ _).mono ?_; rintro e w' ⟨rfl, rfl⟩)
    | (go_at_call 14; refine (all_nil _).mono ?_; rintro e w' ⟨rfl, rfl⟩)
    | (go_at_call 16; refine (len_nil _).mono ?_; rintro e w' ⟨rfl, rfl⟩)
    | (go_at_call 20; refine (hit_nil _ _ _ _).mono ?_; rintro e w1 ⟨a1, c1, rfl, hb1⟩; have HB1 := Lib.hid hb1; clear hb1)
    | (go_at_call 6; refine (awake_calls _).mono ?_; rintro e w2 ⟨rfl, hb2⟩; have HB2 := Lib.hid hb2; clear hb2))
  go_ret
  exact ⟨rfl, HB1.out.trans (HB2.out.mono HB1.out.size)⟩
theorem nils_long (id : Int) (a : Option Addr) (n c : Nat) (hn : ¬ n ≤ 20) (hm : (n : Int) ≤ 9223372036854775807) (w : World) : Calls Try.prog 5 #[.int .i64 id, .slice a n c] w fun e w' => e = .returned (.bool true) ∧ Below w.heap.size w w' := by
  have hn' : (20 : Int) < n := by omega
  go_enter Try.func5, Try.ntmps5
  go_wp2_with (go_at_call 6; refine (awake_calls _).mono ?_; rintro e w2 ⟨rfl, hb2⟩; have HB2 := Lib.hid hb2; clear hb2)
  go_ret
  exact ⟨rfl, HB2.out⟩
end Go.Proofs.Ytnbbhgpflanhaaa
