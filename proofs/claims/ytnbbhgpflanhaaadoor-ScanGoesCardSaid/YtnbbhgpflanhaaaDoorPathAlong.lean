/- Walks: along, with Path's closure and any turns. -/
import Derived.Test.YtnbbhgpflanhaaaDoorPathAt
import Derived.Test.YtnbbhgpflanhaaaDoorRefP
namespace Go.Proofs.YtnbbhgpflanhaaaDoor
open Go.RowKit
set_option maxRecDepth 100000
set_option linter.unusedVariables false
set_option linter.unusedSimpArgs false
theorem OwnI.move {T : TypeId} {B : Nat} {w w' : World} {v : Value} {xs : List Itm} (h : OwnI T B w v xs) (hk : ∀ k, v.ownBlock = some k → w'.heap[k]? = w.heap[k]?) : OwnI T B w' v xs := by
  refine ⟨h.1, ?_⟩
  rcases h.2 with hn | ⟨g, cap, cur, hv, hb, hh, r⟩
  · exact .inl hn
  · subst hv
    exact .inr ⟨g, cap, cur, rfl, hb, by rw [hk g (by simp [Value.ownBlock])]; exact hh, r⟩
theorem word_range (bs : List Int) (hB : Bytes bs) (pc : Int) : 0 ≤ wordS bs pc ∧ wordS bs pc ≤ 4294967295 := by
  unfold wordS
  split
  · rename_i h
    have hh : hasS bs.length pc 4 = true := by
      unfold askS at h
      split at h
      · omega
      · split at h
        · assumption
        · omega
    simp only [hasS, decide_eq_true_eq] at hh
    have := numS_range (cutS bs (placeS pc) 4) (cutS_bytes _ _ _ hB)
    rw [cutS_length bs (placeS pc) 4 (by unfold placeS; omega)] at this
    omega
  · omega
theorem on_next (x : Itm) (ts : List Bool) (h : 0 ≤ x.next ∧ x.next ≤ 4294967295) : 0 ≤ (onS false x ts).2.1.next ∧ (onS false x ts).2.1.next ≤ 4294967295 := by
  unfold onS
  split
  · simp only [Bool.false_eq_true, if_false]
    split
    · exact h
    · split
      · split
        · simp only; omega
        · exact h
      · exact h
  · exact h
theorem path_step (bs : List Int) (n : Nat) (p : Int) (ts : List Bool) (h : okS bs p = true) :
    pathS bs false (n + 1) p ts = (onS false (itemS bs p) ts).2.1 :: (if (onS false (itemS bs p) ts).1 then pathS bs false n (onS false (itemS bs p) ts).2.1.next (onS false (itemS bs p) ts).2.2 else []) := by
  have e : pathS bs false (n + 1) p ts = (if okS bs p then
      if (onS false (itemS bs p) ts).1 then (onS false (itemS bs p) ts).2.1 :: pathS bs false n (onS false (itemS bs p) ts).2.1.next (onS false (itemS bs p) ts).2.2
      else [(onS false (itemS bs p) ts).2.1]
    else []) := rfl
  rw [e, if_pos h]
  cases (onS false (itemS bs p) ts).1 <;> simp
/-- a round's head -/
structure PathRel (bs : List Int) (N : Nat) (R : List Itm) (w0 w : World) (tb : Nat) (pcv outv : Value) (wr : World) (xs : List Itm) (p : Int) (ts : List Bool) (v : Value) : Prop where
  pc : pcv = .int .u32 p
  p0 : 0 ≤ p
  p1 : p ≤ 4294967295
  own : OwnI 43 w.heap.size wr outv xs
  below : Below w0.heap.size w0 wr
  size : w.heap.size ≤ wr.heap.size
  le : xs.length ≤ N
  rest : xs ++ pathS bs false (N - xs.length) p ts = R
  turns : wr.heap[tb]? = some (.cells #[v] 35 (0, 0))
  at_ : TurnsAt w0 v ts
def PathRel' (bs : List Int) (N : Nat) (R : List Itm) (w0 w : World) (tb : Nat) (pcv outv : Value) (wr : World) : Prop := ∃ xs p ts v, PathRel bs N R w0 w tb pcv outv wr xs p ts v
def AlongPost (w0 w : World) (xs : List Itm) (e : Ending) (w' : World) : Prop :=
  ∃ v, e = .returned v ∧ OwnI 43 w.heap.size w' v xs ∧ Below w0.heap.size w0 w'
theorem eight_of {w : World} {g : Nat} {x : Itm} {T : TypeId} (h : w.heap[g]? = some (.cells (cellsI x).toArray T (0, 0))) :
    w.cell? ⟨g, 0, none⟩ = some (.int .u32 x.pc) ∧ w.cell? ⟨g, 1, none⟩ = some (.int .i64 x.i.op) ∧ w.cell? ⟨g, 2, none⟩ = some (.int .i64 x.i.rd) ∧ w.cell? ⟨g, 3, none⟩ = some (.int .i64 x.i.rs1) ∧
    w.cell? ⟨g, 4, none⟩ = some (.int .i64 x.i.rs2) ∧ w.cell? ⟨g, 5, none⟩ = some (.int .u32 x.i.imm) ∧ w.cell? ⟨g, 6, none⟩ = some (.int .i64 x.i.csr) ∧ w.cell? ⟨g, 7, none⟩ = some (.int .u32 x.next) := by
  simp [World.cell?, h, cellsI]
end Go.Proofs.YtnbbhgpflanhaaaDoor
