/- Walks: the statement's own copies of rows, and their comparison. -/
import Derived.Test.YtnbbhgpflanhaaaDoorItems
import Derived.Test.YtnbbhgpflanhaaaDoorAlong
import Derived.Deep.QuietTactic
import Derived.BigQuiet
namespace Go.Proofs.YtnbbhgpflanhaaaDoor
open Go.RowKit
set_option maxRecDepth 100000
set_option linter.unusedVariables false

theorem info_ritem : (Tryd.prog.info? 70).map (fun i => (i.zero, i.size, i.bytes)) = some (some (.agg #[.int .u32 0, .int .i64 0, .int .i64 0, .int .i64 0, .int .i64 0, .int .u32 0, .int .i64 0, .int .u32 0]), 8, 64) := by kernel_rfl
theorem OwnI.made (T : TypeId) (B : Nat) (w : World) (hB : B ≤ w.heap.size) : OwnI T B (w.alloc (.cells #[] T)) (.slice (some ⟨w.heap.size, 0, none⟩) 0 0) [] :=
  ⟨by simp [flatI], .inr ⟨w.heap.size, 0, #[], rfl, hB, heap_alloc_new w _, Nat.le_refl _, by simp [maxLen], by simp, by simp [flatI]⟩⟩
/-- an item's cells, read one by one -/
theorem OwnI.eight {T : TypeId} {B : Nat} {w : World} {a : Option Addr} {n c : Nat} {xs : List Itm} (h : OwnI T B w (.slice a n c) xs) (k : Nat) (hk : k < xs.length) :
    ∃ g, a = some ⟨g, 0, none⟩ ∧ g < w.heap.size ∧ B ≤ g ∧ w.cell? ⟨g, k * 8, none⟩ = some (.int .u32 xs[k].pc) ∧ w.cell? ⟨g, k * 8 + 1, none⟩ = some (.int .i64 xs[k].i.op) ∧ w.cell? ⟨g, k * 8 + 2, none⟩ = some (.int .i64 xs[k].i.rd) ∧
      w.cell? ⟨g, k * 8 + 3, none⟩ = some (.int .i64 xs[k].i.rs1) ∧ w.cell? ⟨g, k * 8 + 4, none⟩ = some (.int .i64 xs[k].i.rs2) ∧ w.cell? ⟨g, k * 8 + 5, none⟩ = some (.int .u32 xs[k].i.imm) ∧
      w.cell? ⟨g, k * 8 + 6, none⟩ = some (.int .i64 xs[k].i.csr) ∧ w.cell? ⟨g, k * 8 + 7, none⟩ = some (.int .u32 xs[k].next) := by
  obtain ⟨g, hg, hb, hl, hc⟩ := h.cell k hk
  exact ⟨g, hg, hl, hb, by simpa [cellsI] using hc 0 (by omega), by simpa [cellsI] using hc 1 (by omega), by simpa [cellsI] using hc 2 (by omega), by simpa [cellsI] using hc 3 (by omega), by simpa [cellsI] using hc 4 (by omega),
    by simpa [cellsI] using hc 5 (by omega), by simpa [cellsI] using hc 6 (by omega), by simpa [cellsI] using hc 7 (by omega)⟩
theorem take_one (xs : List Itm) (k : Nat) (h : k < xs.length) : xs.take (k + 1) = xs.take k ++ [xs[k]] := List.take_succ_eq_append_getElem h
def lenOf' : Value → Nat | .int _ n => n.toNat | _ => 0
def OfRel (xs : List Itm) (w : World) (outv iv : Value) (wr : World) : Prop :=
  ∃ k : Nat, k ≤ xs.length ∧ iv = .int .i64 k ∧ OwnI 70 w.heap.size wr outv (xs.take k) ∧ Below w.heap.size w wr
set_option maxHeartbeats 3200000 in
theorem of_calls (B : Nat) (a : Option Addr) (c : Nat) (xs : List Itm) (hl : xs.length ≤ 32) (w : World) (hX : OwnI 43 B w (.slice a xs.length c) xs) :
    Calls Tryd.prog 11 #[.slice a xs.length c] w (RowPost 70 w xs) := by
  obtain ⟨i0, hi0, hzz⟩ := Option.map_eq_some_iff.1 info_ritem
  simp only [Prod.mk.injEq] at hzz
  obtain ⟨hz0, hz1, hz2⟩ := hzz
  have HI := Lib.hid hi0
  have HZ := Lib.hid hz0
  have HZ1 := Lib.hid hz1
  have HZ2 := Lib.hid hz2
  clear hi0 hz0 hz1 hz2
  go_enter Tryd.func11, Tryd.ntmps11
  go_wp2
  go_loopw [3, 4] (fun outv iv wr => OfRel xs w outv iv wr) (fun _ iv _ => xs.length - (intOf iv).toNat)
  case atStart => exact ⟨0, Nat.zero_le _, rfl, OwnI.made _ _ _ (Nat.le_refl _), bl_alloc (Below.refl _ _) _⟩
  case round =>
    obtain ⟨k, hk, rfl, hown, hb⟩ := hrel
    obtain ⟨av, cv, hv⟩ := hown.slice
    rw [show (xs.take k).length = k by simp; omega] at hv
    subst hv
    by_cases hlt : k < xs.length
    · obtain ⟨g, rfl, hgl, hgB, c0, c1, c2, c3, c4, c5, c6, c7⟩ := (hX.below hb).eight k hlt
      have hts := take_one xs k hlt
      generalize xs[k] = x at *
      have HO := Lib.hid hown
      have HTS := Lib.hid hts
      have HX := Lib.hid hX
      clear hown hts hX
      have hszb := hb.size
      go_wp2_with (at_builtin; refine append_item (w0 := w) (W := wr) 70 27 w.heap.size i0 _ rfl _ _ rfl Tryd.underlying27 HI.out HZ.out HZ1.out HZ2.out rfl (.slice av k cv) (xs.take k) x rfl _ rfl (by rfl) HO.out hb hszb (by simp; omega) ?_; intro v1 w2 hown2 hb2 hz2 hkeep; obtain ⟨a1, c1', hv1⟩ := hown2.slice; rw [show (xs.take k ++ [x]).length = k + 1 by simp; omega] at hv1; subst hv1; have HO2 := Lib.hid hown2; clear hown2 hkeep)
      go_roundw
      case rel => exact ⟨k + 1, by omega, by go_num, by rw [HTS.out]; exact HO2.out, hb2⟩
      case measure => simp [intOf]; omega
    · obtain rfl : k = xs.length := by omega
      rw [List.take_length] at hown
      have HO := Lib.hid hown
      clear hown hX
      go_wp2
      go_ret
      exact ⟨_, rfl, HO.out, hb⟩
end Go.Proofs.YtnbbhgpflanhaaaDoor
