/- Rows of items: what they are, and how they lie in memory. -/
import Derived.Test.YtnbbhgpflanhaaaDoorScanC
import Derived.Deep.AppendLies
namespace Go.Proofs.YtnbbhgpflanhaaaDoor
open Go.RowKit
set_option linter.unusedVariables false

/-! ### the plain rows -/
def placeS (pc : Int) : Nat := (pc - 2147483648).toNat
def wordS (bs : List Int) (pc : Int) : Int := if askS bs.length pc 4 = 0 then numS (cutS bs (placeS pc) 4) else 0
def itemS (bs : List Int) (pc : Int) : Itm := ⟨pc, decS (wordS bs pc), nextS pc (decS (wordS bs pc))⟩
def okS (bs : List Int) (pc : Int) : Bool := askS bs.length pc 4 == 0 && canS (decS (wordS bs pc))
/-- where it goes on -/
def onS (rows : Bool) (x : Itm) (ts : List Bool) : Bool × Itm × List Bool :=
  if isBranch x.i.op then
    if rows then (false, x, ts) else match ts with
      | [] => (false, x, [])
      | t :: r => if t then (if x.i.imm % 4 = 0 then (true, ⟨x.pc, x.i, (x.pc + x.i.imm) % 4294967296⟩, r) else (false, x, r)) else (true, x, r)
  else (if rows then !endsS x.i.op else decide (x.i.op ≠ 4), x, ts)
def pathS (bs : List Int) (rows : Bool) : Nat → Int → List Bool → List Itm
  | 0, _, _ => []
  | n + 1, pc, ts =>
    if okS bs pc then
      if (onS rows (itemS bs pc) ts).1 then (onS rows (itemS bs pc) ts).2.1 :: pathS bs rows n (onS rows (itemS bs pc) ts).2.1.next (onS rows (itemS bs pc) ts).2.2
      else [(onS rows (itemS bs pc) ts).2.1]
    else []
def mostS (most : Int) : Nat := (min most 32).toNat

/-! ### items in memory -/
def cellsI (x : Itm) : List Value := [.int .u32 x.pc, .int .i64 x.i.op, .int .i64 x.i.rd, .int .i64 x.i.rs1, .int .i64 x.i.rs2, .int .u32 x.i.imm, .int .i64 x.i.csr, .int .u32 x.next]
def flatI (xs : List Itm) : List Value := xs.flatMap cellsI
theorem flatI_length (xs : List Itm) : (flatI xs).length = xs.length * 8 := by
  induction xs with
  | nil => rfl
  | cons x t ih => simp only [flatI, List.flatMap_cons, List.length_append] at *; rw [ih]; simp [cellsI]; omega
theorem flatI_snoc (xs : List Itm) (x : Itm) : flatI (xs ++ [x]) = flatI xs ++ cellsI x := by simp [flatI]
theorem flatI_get (xs : List Itm) (k j : Nat) (hk : k < xs.length) (hj : j < 8) : (flatI xs)[k * 8 + j]? = (cellsI xs[k])[j]? := by
  induction xs generalizing k with
  | nil => simp at hk
  | cons x t ih =>
    have hl : (cellsI x).length = 8 := rfl
    simp only [flatI, List.flatMap_cons]
    cases k with
    | zero => rw [List.getElem?_append_left (by rw [hl]; omega)]; simp
    | succ k =>
      rw [List.getElem?_append_right (by rw [hl]; omega), hl, show (k + 1) * 8 + j - 8 = k * 8 + j by omega]
      have := ih k (by simpa using hk)
      simpa [flatI] using this
/-- a slice that the call owns, of items -/
def OwnI (T : TypeId) (B : Nat) (w : World) (v : Value) (xs : List Itm) : Prop := w.ownsRow B T 8 v xs.length (flatI xs)
theorem OwnI.nil (T : TypeId) (B : Nat) (w : World) : OwnI T B w (.slice none 0 0) [] := ⟨by simp [flatI], .inl ⟨rfl, rfl⟩⟩
theorem OwnI.below {T : TypeId} {B : Nat} {w w' : World} {v : Value} {xs : List Itm} (h : OwnI T B w v xs) (hb : Below w.heap.size w w') : OwnI T B w' v xs :=
  World.ownsRow.kept h (row := none) ⟨hb.os, hb.tape, hb.output, hb.size, fun i hi _ => hb.block i hi⟩ (by cases v.ownBlock <;> simp)
theorem OwnI.slice {T : TypeId} {B : Nat} {w : World} {v : Value} {xs : List Itm} (h : OwnI T B w v xs) : ∃ a c, v = .slice a xs.length c := by
  rcases h.2 with ⟨rfl, h0⟩ | ⟨g, cap, cur, rfl, _⟩
  · exact ⟨none, 0, by rw [h0]⟩
  · exact ⟨_, cap, rfl⟩
theorem OwnI.base {T : TypeId} {B : Nat} {w : World} {v : Value} {xs : List Itm} (h : OwnI T B w v xs) (k : Nat) (hk : v.ownBlock = some k) : B ≤ k := by
  rcases h.2 with ⟨rfl, _⟩ | ⟨g, cap, cur, rfl, hb, _⟩
  · simp [Value.ownBlock] at hk
  · have : g = k := by simpa [Value.ownBlock] using hk
    omega
theorem OwnI.lt {T : TypeId} {B : Nat} {w : World} {v : Value} {xs : List Itm} (h : OwnI T B w v xs) (k : Nat) (hk : v.ownBlock = some k) : k < w.heap.size := by
  rcases h.2 with ⟨rfl, _⟩ | ⟨g, cap, cur, rfl, _, hh, _⟩
  · simp [Value.ownBlock] at hk
  · have : g = k := by simpa [Value.ownBlock] using hk
    subst this
    exact (Array.getElem?_eq_some_iff.1 hh).1
/-- the cells of an item that is owned -/
theorem OwnI.cell {T : TypeId} {B : Nat} {w : World} {a : Option Addr} {n c : Nat} {xs : List Itm} (h : OwnI T B w (.slice a n c) xs) (k : Nat) (hk : k < xs.length) :
    ∃ g, a = some ⟨g, 0, none⟩ ∧ B ≤ g ∧ g < w.heap.size ∧ ∀ j, j < 8 → w.cell? ⟨g, k * 8 + j, none⟩ = (cellsI xs[k])[j]? := by
  rcases h.2 with ⟨h0, h1⟩ | ⟨g, cap, cur, h0, hb, hh, hr⟩
  · omega
  · cases h0
    refine ⟨g, rfl, hb, (Array.getElem?_eq_some_iff.1 hh).1, fun j hj => ?_⟩
    have hj8 : j < (cellsI xs[k]).length := hj
    have hget := flatI_get xs k j hk hj
    rw [List.getElem?_eq_getElem hj8] at hget ⊢
    have := World.ownsRow.cells h (g := g) rfl (k * 8 + j) _ hget
    rwa [add_at] at this
section
variable {P : Program} {ops : Array Oper} {rest : List Oper} {o : Oper} {a : Act} {Q : Exit → Act → World → Prop}
/-- one item more -/
theorem append_item {w0 W : World} (T S : TypeId) (B : Nat) (i : TypeInfo) (z : Value) (hgd : o.guard = none) (s x : Operand)
    (ho : o.op = .call { callee := .builtin .append, args := #[s, x], argTypes := #[S, S] })
    (ht : P.underlying S = some (.slice T)) (hi : P.info? T = some i) (hz : i.zero = some z) (hsize : i.size = 8) (hby : i.bytes = 64) (hzs : z.cells.size = 8)
    (v : Value) (xs : List Itm) (y : Itm) (hs : a.eval s = v) (z0 : Nat) (hx : a.eval x = .slice (some ⟨z0, 0, none⟩) 1 1) (hz0 : z0 = W.heap.size)
    (HO : OwnI T B W v xs) (HB : Below B w0 W) (hB : B ≤ W.heap.size) (hl : xs.length < 1000)
    (h : ∀ v1 w1, OwnI T B w1 v1 (xs ++ [y]) → Below B w0 w1 → W.heap.size < w1.heap.size → (∀ k j, k < W.heap.size → some k ≠ v.ownBlock → w1.cell? ⟨k, j, none⟩ = W.cell? ⟨k, j, none⟩) → wpList P ops Q rest (a.put o.dst v1) w1) :
    wpList P ops Q (o :: rest) a (W.alloc (.cells #[.int .u32 y.pc, .int .i64 y.i.op, .int .i64 y.i.rd, .int .i64 y.i.rs1, .int .i64 y.i.rs2, .int .u32 y.i.imm, .int .i64 y.i.csr, .int .u32 y.next] T)) := by
  subst hz0
  have HO' : (W.alloc (.cells #[.int .u32 y.pc, .int .i64 y.i.op, .int .i64 y.i.rd, .int .i64 y.i.rs1, .int .i64 y.i.rs2, .int .u32 y.i.imm, .int .i64 y.i.csr, .int .u32 y.next] T)).ownsRow B T 8 v xs.length (flatI xs) := OwnI.below HO (bl_alloc (Below.refl _ _) _)
  refine wpList_append_own (W.alloc _) hgd s x S ho B T i z 8 64 ht hi hz hsize hby hzs (by decide) v xs.length (flatI xs) hs HO' ⟨W.heap.size, 0, none⟩ 1 1 (cellsI y) hx rfl
    (World.news_of_block (cs := #[.int .u32 y.pc, .int .i64 y.i.op, .int .i64 y.i.rd, .int .i64 y.i.rs1, .int .i64 y.i.rs2, .int .u32 y.i.imm, .int .i64 y.i.csr, .int .u32 y.next]) (t := T) (fr := (0, 0)) (heap_alloc_new W _))
    (by intro u hu; simp only [cellsI, List.mem_cons, List.not_mem_nil, or_false] at hu; rcases hu with rfl | rfl | rfl | rfl | rfl | rfl | rfl | rfl <;> rfl) (by simp only [maxLen]; omega) (by omega) (by simp; omega) ?_
  intro v1 w1 hown hg _
  refine h v1 w1 ?_ ((HB.alloc hB _).grown hg (by simp; omega) (OwnI.base HO)) ?_ ?_
  · have e : (xs ++ [y]).length = xs.length + 1 := by simp
    unfold OwnI
    rw [e, flatI_snoc]
    exact hown
  · have := hg.size; simp at this; omega
  · intro k j hk hne
    have h1 := World.cell?_of_block (a := ⟨k, j, none⟩) (hg.block k (by simp; omega) hne)
    exact h1.trans ((bl_alloc (Below.refl W.heap.size W) _).cell (p := ⟨k, j, none⟩) hk)
end
end Go.Proofs.YtnbbhgpflanhaaaDoor
