/- Walks: the closure of Path, whatever the turns are. -/
import Derived.Test.YtnbbhgpflanhaaaDoorPathOn
import Derived.OneCell
namespace Go.Proofs.YtnbbhgpflanhaaaDoor
open Go.RowKit
set_option maxRecDepth 100000
set_option linter.unusedVariables false
set_option linter.unusedSimpArgs false
/-- turns that lie in memory that came in -/
def TurnsAt (w0 : World) (v : Value) (ts : List Bool) : Prop :=
  ∃ a c, v = .slice a ts.length c ∧ ts.length ≤ c ∧ c ≤ maxLen ∧ (ts = [] ∨ ∃ b o, a = some ⟨b, o, none⟩ ∧ ∀ i, i < ts.length → w0.cell? ⟨b, o + i, none⟩ = some (.bool (ts.getD i false)))
theorem TurnsAt.tail {w0 : World} {b o c : Nat} {t : Bool} {r : List Bool} (hn : r.length + 1 ≤ c) (hm : c ≤ maxLen) (hc : ∀ i, i < (t :: r).length → w0.cell? ⟨b, o + i, none⟩ = some (.bool ((t :: r).getD i false)))
    (av : Option Addr) (ha : r.length = 0 ∨ av = some ⟨b, o + 1, none⟩) : TurnsAt w0 (.slice av r.length (c - 1)) r := by
  refine ⟨av, c - 1, rfl, by omega, by omega, ?_⟩
  rcases ha with h | h
  · exact .inl (List.length_eq_zero_iff.1 h)
  · refine .inr ⟨b, o + 1, h, fun i hi => ?_⟩
    have := hc (i + 1) (by simp; omega)
    rw [show o + 1 + i = o + (i + 1) by omega, this]
    simp
def TurnPost (w0 w : World) (gx tb : Nat) (x : Itm) (ts : List Bool) (e : Ending) (w' : World) : Prop :=
  e = .returned (.bool (onS false x ts).1) ∧ ∃ v', TurnsAt w0 v' (onS false x ts).2.2 ∧ w'.heap[tb]? = some (.cells #[v'] 35 (0, 0)) ∧ w'.heap[gx]? = some (.cells (cellsI (onS false x ts).2.1).toArray 43 (0, 0)) ∧
    Below w0.heap.size w0 w' ∧ w'.heap.size = w.heap.size ∧ ∀ k, k ≠ tb → k ≠ gx → w'.heap[k]? = w.heap[k]?
theorem set_seven {w : World} {g : Nat} {x : Itm} {T : TypeId} (h : w.heap[g]? = some (.cells (cellsI x).toArray T (0, 0))) (y : Int) : (w.setCell ⟨g, 7, none⟩ (.int .u32 y)).heap[g]? = some (.cells (cellsI ⟨x.pc, x.i, y⟩).toArray T (0, 0)) := by
  have hlt := lt_of_block h
  have h' : w.heap[g] = .cells (cellsI x).toArray T (0, 0) := by simpa [Array.getElem?_eq_getElem hlt] using h
  show (w.heap.modify g _)[g]? = _
  rw [Array.getElem?_eq_getElem (by simpa using hlt), Array.getElem_modify_self, h']
  rfl
theorem size_set (w : World) (a : Addr) (u : Value) : (w.setCell a u).heap.size = w.heap.size := by simp
theorem path_on (w0 w : World) (gx tb : Nat) (x : Itm) (ts : List Bool) (v : Value) (p0 : 0 ≤ x.pc) (p1 : x.pc ≤ 4294967295) (i0 : 0 ≤ x.i.imm) (i1 : x.i.imm ≤ 4294967295)
    (hg : w.heap[gx]? = some (.cells (cellsI x).toArray 43 (0, 0))) (ht : w.heap[tb]? = some (.cells #[v] 35 (0, 0))) (hT : TurnsAt w0 v ts) (hb : Below w0.heap.size w0 w)
    (hgB : w0.heap.size ≤ gx) (htB : w0.heap.size ≤ tb) (hne : gx ≠ tb) :
    Calls Tryd.prog 35 #[.pointer (some ⟨gx, 0, none⟩), .pointer (some ⟨tb, 0, none⟩)] w (TurnPost w0 w gx tb x ts) := by
  have c0 : w.cell? ⟨gx, 0, none⟩ = some (.int .u32 x.pc) := by simp [World.cell?, hg, cellsI]
  have c1 : w.cell? ⟨gx, 1, none⟩ = some (.int .i64 x.i.op) := by simp [World.cell?, hg, cellsI]
  have c5 : w.cell? ⟨gx, 5, none⟩ = some (.int .u32 x.i.imm) := by simp [World.cell?, hg, cellsI]
  have c7 : w.cell? ⟨gx, 7, none⟩ = some (.int .u32 x.next) := by simp [World.cell?, hg, cellsI]
  have f7 : w.frozen? ⟨gx, 7, none⟩ = false := by simp [World.frozen?, hg]
  obtain ⟨a, c, rfl, hn, hm, hts⟩ := hT
  cases hbr : isBranch x.i.op
  · have e1 : onS false x ts = (decide (x.i.op ≠ 4), x, ts) := by simp [onS, hbr]
    refine (on_other gx tb x.i.op hbr w c1).mono ?_
    rintro e w' ⟨rfl, rfl⟩
    refine ⟨by rw [e1], _, ?_, ht, by rw [e1]; exact hg, hb, rfl, fun _ _ _ => rfl⟩
    rw [e1]; exact ⟨a, c, rfl, hn, hm, hts⟩
  · cases ts with
    | nil =>
      have e1 : onS false x [] = (false, x, []) := by simp [onS, hbr]
      refine (on_none gx tb x.i.op a c hbr w c1 (cell_of_one ht)).mono ?_
      rintro e w' ⟨rfl, rfl⟩
      refine ⟨by rw [e1], _, ?_, ht, by rw [e1]; exact hg, hb, rfl, fun _ _ _ => rfl⟩
      rw [e1]; exact ⟨a, c, rfl, hn, hm, hts⟩
    | cons t r =>
      obtain ⟨b, o, rfl, hcs⟩ := hts.resolve_left (by simp)
      have h0 : w0.cell? ⟨b, o, none⟩ = some (.bool t) := by simpa using hcs 0 (by simp)
      have hlt0 := World.block_lt_of_cell? w0 _ h0
      have h0' : w.cell? ⟨b, o, none⟩ = some (.bool t) := (hb.cell (p := ⟨b, o, none⟩) hlt0).trans h0
      have hbt : b ≠ tb := by simp at hlt0; omega
      cases t
      · have e1 : onS false x (false :: r) = (true, x, r) := by simp [onS, hbr]
        refine (on_not gx tb b o r.length c x.i.op hbr hn hm w c1 ht h0' hne hbt).mono ?_
        rintro e w' ⟨rfl, av, hav, rfl⟩
        refine ⟨by rw [e1], _, ?_, one_setCell ht, by rw [e1, Below.heap_setCell _ _ _ _ hne]; exact hg, hb.setCell htB _, by simp, fun k hk _ => Below.heap_setCell _ _ _ _ hk⟩
        rw [e1]; exact TurnsAt.tail hn hm hcs av hav
      · by_cases h4 : x.i.imm % 4 = 0
        · have e1 : onS false x (true :: r) = (true, ⟨x.pc, x.i, (x.pc + x.i.imm) % 4294967296⟩, r) := by simp [onS, hbr, h4]
          refine (on_take gx tb b o r.length c x.i.op x.i.imm x.pc hbr hn hm i0 i1 p0 p1 h4 w c1 c5 c0 _ c7 f7 ht h0' hne hbt).mono ?_
          rintro e w' ⟨rfl, av, hav, rfl⟩
          refine ⟨by rw [e1], .slice av r.length (c - 1), ?_, ?_, ?_, ?_, by simp, fun k hk hk' => ?_⟩
          · rw [e1]; exact TurnsAt.tail hn hm hcs av hav
          · show ((w.setCell _ _).setCell _ _).heap[tb]? = _
            rw [Below.heap_setCell _ _ _ _ (show tb ≠ gx from fun h => hne h.symm)]
            exact one_setCell ht
          · rw [e1]
            exact set_seven (by rw [Below.heap_setCell _ _ _ _ hne]; exact hg) _
          · exact ((hb.setCell (p := ⟨tb, 0, none⟩) htB _).setCell (p := ⟨gx, 7, none⟩) hgB _).drew
          · show ((w.setCell _ _).setCell _ _).heap[k]? = _
            rw [Below.heap_setCell _ _ _ _ hk', Below.heap_setCell _ _ _ _ hk]
        · have e1 : onS false x (true :: r) = (false, x, r) := by simp [onS, hbr, h4]
          refine (on_bad gx tb b o r.length c x.i.op x.i.imm hbr hn hm i0 i1 h4 w c1 c5 ht h0' hne hbt).mono ?_
          rintro e w' ⟨rfl, av, hav, rfl⟩
          refine ⟨by rw [e1], _, ?_, one_setCell ht, by rw [e1, Below.heap_setCell _ _ _ _ hne]; exact hg, hb.setCell htB _, by simp, fun k hk _ => Below.heap_setCell _ _ _ _ hk⟩
          rw [e1]; exact TurnsAt.tail hn hm hcs av hav
end Go.Proofs.YtnbbhgpflanhaaaDoor
