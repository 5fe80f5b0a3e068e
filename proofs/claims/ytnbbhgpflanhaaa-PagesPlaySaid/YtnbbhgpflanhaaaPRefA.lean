/- Walks: the reference's pairs. -/
import Derived.Test.YtnbbhgpflanhaaaOwn
import Derived.Test.YtnbbhgpflanhaaaPNils
import Derived.Deep.QuietTactic
import Derived.BigQuiet
namespace Go.Proofs.Ytnbbhgpflanhaaa
open Go.RowKit
set_option linter.unusedVariables false
set_option linter.unusedSimpArgs false
set_option maxRecDepth 100000
/-- numbers, and pairs, in cells -/
def LZ : Lay Int := ⟨3, 1, 8, fun x => [.int .i64 x], fun _ => rfl, fun x u hu => by simp at hu; subst hu; rfl, by omega⟩
def LP : Lay (Int × Int) := ⟨52, 2, 16, fun p => [.int .i64 p.1, .int .i64 p.2], fun _ => rfl, fun x u hu => by simp at hu; rcases hu with rfl | rfl <;> rfl, by omega⟩
theorem info_int : (Try.prog.info? 3).map (fun i => (i.zero, i.size, i.bytes)) = some (some (.int .i64 0), 1, 8) := by kernel_rfl
theorem info_pair : (Try.prog.info? 52).map (fun i => (i.zero, i.size, i.bytes)) = some (some (.agg #[.int .i64 0, .int .i64 0]), 2, 16) := by kernel_rfl
theorem flat_z (zs : List Int) : zs.flatMap LZ.f = zs.map (Value.int .i64) := by
  induction zs with
  | nil => rfl
  | cons x t ih => simp only [List.flatMap_cons, List.map_cons, ih]; rfl
theorem OwnG.of_row {B : Nat} {w : World} {v : Value} {zs : List Int} (h : w.ownsRow B 3 1 v zs.length (zs.map (Value.int .i64))) : OwnG LZ B w v zs := by
  unfold OwnG; rw [flat_z]; exact h
theorem OwnG.z_cell {B : Nat} {w : World} {a : Option Addr} {n c : Nat} {zs : List Int} (h : OwnG LZ B w (.slice a n c) zs) (k : Nat) (hk : k < zs.length) : ∃ g, a = some ⟨g, 0, none⟩ ∧ B ≤ g ∧ g < w.heap.size ∧ w.cell? ⟨g, k, none⟩ = some (.int .i64 (zs.getD k 0)) := by
  obtain ⟨g, hg, hb, hl, hc⟩ := h.cell k hk
  refine ⟨g, hg, hb, hl, ?_⟩
  have := hc 0 (by show 0 < 1; omega)
  simp only [LZ, Nat.mul_one, Nat.add_zero] at this
  rw [this]
  simp [List.getD_eq_getElem?_getD, hk]
theorem OwnG.p_cell {B : Nat} {w : World} {a : Option Addr} {n c : Nat} {ps : List (Int × Int)} (h : OwnG LP B w (.slice a n c) ps) (k : Nat) (hk : k < ps.length) : ∃ g, a = some ⟨g, 0, none⟩ ∧ B ≤ g ∧ g < w.heap.size ∧ w.cell? ⟨g, k * 2, none⟩ = some (.int .i64 (ps[k]).1) ∧ w.cell? ⟨g, k * 2 + 1, none⟩ = some (.int .i64 (ps[k]).2) := by
  obtain ⟨g, hg, hb, hl, hc⟩ := h.cell k hk
  have h0 := hc 0 (by show 0 < 2; omega)
  have h1 := hc 1 (by show 1 < 2; omega)
  simp only [LP, Nat.add_zero] at h0 h1
  exact ⟨g, hg, hb, hl, by simpa using h0, by simpa using h1⟩
theorem bl_alloc {B : Nat} {a w : World} (h : Below B a w) (hB : B ≤ w.heap.size) (o : Obj) : Below B a (w.alloc o) := h.alloc hB o
theorem bl_drewN {B : Nat} {a w : World} (h : Below B a w) (k : Nat) : Below B a (w.drewN k) := ⟨h.os, h.tape, h.output, h.size, h.block⟩
/-- the same numbers -/
theorem same_ints (a a' : Option Addr) (c c' B B' : Nat) (zs : List Int) (hl : (zs.length : Int) ≤ 9223372036854775807) (w : World) (h : OwnG LZ B w (.slice a zs.length c) zs) (h' : OwnG LZ B' w (.slice a' zs.length c') zs) :
    Calls Try.prog 11 #[.slice a zs.length c, .slice a' zs.length c'] w fun e w' => e = .returned (.bool true) ∧ ∃ k, w' = w.drewN k := by
  have hne : ((zs.length : Int) != zs.length) = false := by simp
  go_enter Try.func11, Try.ntmps11
  go_wp2
  go_loopw [5] (fun iv wr => ∃ k m : Nat, k ≤ zs.length ∧ iv = .int .i64 k ∧ wr = w.drewN m) (fun iv _ => zs.length - (intOf iv).toNat)
  case atStart => exact ⟨0, 0, Nat.zero_le _, rfl, rfl⟩
  case round =>
    obtain ⟨k, m, hk, rfl, rfl⟩ := hrel
    by_cases hlt : k < zs.length
    · obtain ⟨g, rfl, hgl, hgB, c0⟩ := h.z_cell k hlt
      obtain ⟨g', rfl, hgl', hgB', d0⟩ := h'.z_cell k hlt
      generalize zs.getD k 0 = x at *
      clear h h'
      have hlt' : (k : Int) < (zs.length : Int) := by omega
      have hk0 : (0 : Int) ≤ (k : Int) := Int.natCast_nonneg _
      go_wp2
      go_quiet (fail)
      go_wp2
      go_roundw
      case rel => exact ⟨k + 1, _, by omega, by go_num, rfl⟩
      case measure => simp [intOf]; omega
    · go_wp2
      go_ret
      exact ⟨rfl, m, rfl⟩
/-- is a pair there? -/
def HasPost (w : World) (r : Bool) (e : Ending) (w' : World) : Prop := e = .returned (.bool r) ∧ Below w.heap.size w w'
theorem has_calls (a : Option Addr) (c B : Nat) (ps : List (Int × Int)) (x y : Int) (hl : ps.length ≤ 100000) (w : World) (h : OwnG LP B w (.slice a ps.length c) ps) :
    Calls Try.prog 24 #[.slice a ps.length c, .agg #[.int .i64 x, .int .i64 y]] w (HasPost w (decide ((x, y) ∈ ps))) := by
  obtain ⟨r, hr⟩ : ∃ r, decide ((x, y) ∈ ps) = r := ⟨_, rfl⟩
  have HRR := Lib.hid hr
  have HB := Lib.hid (bl_alloc (Below.refl w.heap.size w) (Nat.le_refl _) (.cells #[.int .i64 x, .int .i64 y] 52))
  have HX := Lib.hid (h.below (bl_alloc (Below.refl w.heap.size w) (Nat.le_refl _) (.cells #[.int .i64 x, .int .i64 y] 52)))
  have hb0 : (w.alloc (.cells #[.int .i64 x, .int .i64 y] 52)).cell? ⟨w.heap.size, 0, none⟩ = some (.int .i64 x) := by simp
  have hb1 : (w.alloc (.cells #[.int .i64 x, .int .i64 y] 52)).cell? ⟨w.heap.size, 1, none⟩ = some (.int .i64 y) := by simp
  rw [hr]
  clear h hr
  go_enter Try.func24, Try.ntmps24
  go_wp2
  generalize w.alloc (.cells #[.int .i64 x, .int .i64 y] 52) = W at *
  go_loopw [5] (fun iv wr => ∃ k m : Nat, k ≤ ps.length ∧ iv = .int .i64 k ∧ wr = W.drewN m ∧ (x, y) ∉ ps.take k) (fun iv _ => ps.length - (intOf iv).toNat)
  case atStart => exact ⟨0, 0, Nat.zero_le _, rfl, rfl, by simp⟩
  case round =>
    obtain ⟨k, m, hk, rfl, rfl, hno⟩ := hrel
    by_cases hlt : k < ps.length
    · obtain ⟨g, rfl, hgl, hgB, c0, c1⟩ := HX.out.p_cell k hlt
      have htk : ps.take (k + 1) = ps.take k ++ [ps[k]] := List.take_succ_eq_append_getElem hlt
      have hin : ps[k] ∈ ps := List.getElem_mem hlt
      generalize ps[k] = q at *
      obtain ⟨q1, q2⟩ := q
      have HNO := Lib.hid hno
      have HTK := Lib.hid htk
      have HIN := Lib.hid hin
      have hlt' : (k : Int) < (ps.length : Int) := by omega
      have hk0 : (0 : Int) ≤ (k : Int) := Int.natCast_nonneg _
      clear hno htk hin
      simp only at c0 c1
      by_cases e1 : q1 = x ∧ q2 = y
      · obtain ⟨rfl, rfl⟩ := e1
        go_wp2
        go_quiet (fail)
        go_wp2
        go_ret
        have hrt : r = true := by rw [← HRR.out]; exact decide_eq_true HIN.out
        exact ⟨by rw [hrt]; rfl, bl_drewN (bl_drewN HB.out _) _⟩
      · have hne : (x, y) ∉ ps.take (k + 1) := by
          rw [HTK.out]
          intro hm
          rcases List.mem_append.1 hm with h' | h'
          · exact HNO.out h'
          · simp at h'; exact e1 ⟨h'.1.symm, h'.2.symm⟩
        have HNE := Lib.hid hne
        clear hne
        by_cases e2 : q1 = x
        · have e3 : (q2 == y) = false := by rw [beq_eq_false_iff_ne]; exact fun h => e1 ⟨e2, h⟩
          subst e2
          clear e1
          go_wp2
          go_quiet (fail)
          go_wp2
          go_roundw
          case rel => exact ⟨k + 1, _, by omega, by go_num, rfl, HNE.out⟩
          case measure => simp [intOf]; omega
        · have e3 : (q1 == x) = false := by rw [beq_eq_false_iff_ne]; exact e2
          clear e1 e2
          go_wp2
          go_quiet (fail)
          go_wp2
          go_roundw
          case rel => exact ⟨k + 1, _, by omega, by go_num, rfl, HNE.out⟩
          case measure => simp [intOf]; omega
    · obtain rfl : k = ps.length := by omega
      rw [List.take_length] at hno
      have hrf : r = false := by rw [← HRR.out]; exact decide_eq_false hno
      have HRF := Lib.hid hrf
      clear hno hrf
      go_wp2
      go_ret
      exact ⟨by rw [HRF.out]; rfl, bl_drewN HB.out _⟩
end Go.Proofs.Ytnbbhgpflanhaaa
