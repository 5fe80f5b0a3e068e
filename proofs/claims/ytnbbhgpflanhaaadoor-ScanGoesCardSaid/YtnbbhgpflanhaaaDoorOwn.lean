/- Rows of things of one size that a call owns. -/
import Derived.Test.YtnbbhgpflanhaaaDoorProg
import Derived.WalkKit
import Derived.Maps.AppendAt
import Derived.Deep.AppendLies
import Derived.Below
namespace Go.Proofs.YtnbbhgpflanhaaaDoor
open Go.RowKit
set_option linter.unusedVariables false
/-- how a kind of things lies in cells -/
structure Lay (α : Type) where
  ty : TypeId
  sz : Nat
  by_ : Nat
  f : α → List Value
  len : ∀ x, (f x).length = sz
  one : ∀ x, ∀ u ∈ f x, u.oneCell' = true
  pos : 0 < sz
section
variable {α : Type} {L : Lay α}
def OwnG (L : Lay α) (B : Nat) (w : World) (v : Value) (xs : List α) : Prop := w.ownsRow B L.ty L.sz v xs.length (xs.flatMap L.f)
theorem flat_length (xs : List α) : (xs.flatMap L.f).length = xs.length * L.sz := by
  induction xs with
  | nil => simp
  | cons x t ih => simp only [List.flatMap_cons, List.length_append, L.len, ih, List.length_cons, Nat.add_mul]; omega
theorem flat_get (xs : List α) (k j : Nat) (hk : k < xs.length) (hj : j < L.sz) : (xs.flatMap L.f)[k * L.sz + j]? = (L.f xs[k])[j]? := by
  induction xs generalizing k with
  | nil => simp at hk
  | cons x t ih =>
    simp only [List.flatMap_cons]
    cases k with
    | zero => rw [List.getElem?_append_left (by rw [L.len]; omega)]; simp
    | succ k =>
      rw [List.getElem?_append_right (by rw [L.len, Nat.add_mul]; omega), L.len, show (k + 1) * L.sz + j - L.sz = k * L.sz + j by rw [Nat.add_mul]; omega]
      simpa using ih k (by simpa using hk)
theorem OwnG.nil (B : Nat) (w : World) : OwnG L B w (.slice none 0 0) [] := ⟨by simp, .inl ⟨rfl, rfl⟩⟩
theorem OwnG.made (B : Nat) (w : World) (hB : B ≤ w.heap.size) : OwnG L B (w.alloc (.cells #[] L.ty)) (.slice (some ⟨w.heap.size, 0, none⟩) 0 0) [] :=
  ⟨by simp, .inr ⟨w.heap.size, 0, #[], rfl, hB, heap_alloc_new w _, Nat.le_refl _, by simp [maxLen], by simp, by simp⟩⟩
theorem OwnG.empty (B g : Nat) (w : World) (hg : w.heap[g]? = some (.cells #[] L.ty (0, 0))) (hB : B ≤ g) : OwnG L B w (.slice (some ⟨g, 0, none⟩) 0 0) [] :=
  ⟨by simp, .inr ⟨g, 0, #[], rfl, hB, hg, Nat.le_refl _, by simp [maxLen], by simp, by simp⟩⟩
theorem OwnG.move {B : Nat} {w w' : World} {v : Value} {xs : List α} (h : OwnG L B w v xs) (hk : ∀ k, v.ownBlock = some k → w'.heap[k]? = w.heap[k]?) : OwnG L B w' v xs := by
  refine ⟨h.1, ?_⟩
  rcases h.2 with hn | ⟨g, cap, cur, hv, hb, hh, r⟩
  · exact .inl hn
  · subst hv
    exact .inr ⟨g, cap, cur, rfl, hb, by rw [hk g (by simp [Value.ownBlock])]; exact hh, r⟩
theorem OwnG.lt {B : Nat} {w : World} {v : Value} {xs : List α} (h : OwnG L B w v xs) (k : Nat) (hk : v.ownBlock = some k) : k < w.heap.size := by
  rcases h.2 with ⟨rfl, _⟩ | ⟨g, cap, cur, rfl, _, hh, _⟩
  · simp [Value.ownBlock] at hk
  · have : g = k := by simpa [Value.ownBlock] using hk
    subst this
    exact (Array.getElem?_eq_some_iff.1 hh).1
theorem OwnG.below {B : Nat} {w w' : World} {v : Value} {xs : List α} (h : OwnG L B w v xs) (hb : Below w.heap.size w w') : OwnG L B w' v xs := h.move fun k hk => hb.block k (h.lt k hk)
theorem OwnG.mono {B B' : Nat} {w : World} {v : Value} {xs : List α} (h : OwnG L B w v xs) (hB : B' ≤ B) : OwnG L B' w v xs := by
  refine ⟨h.1, ?_⟩
  rcases h.2 with hn | ⟨g, cap, cur, hv, hb, r⟩
  · exact .inl hn
  · exact .inr ⟨g, cap, cur, hv, Nat.le_trans hB hb, r⟩
theorem OwnG.slice {B : Nat} {w : World} {v : Value} {xs : List α} (h : OwnG L B w v xs) : ∃ a c, v = .slice a xs.length c := by
  rcases h.2 with ⟨rfl, h0⟩ | ⟨g, cap, cur, rfl, _⟩
  · exact ⟨none, 0, by rw [h0]⟩
  · exact ⟨_, cap, rfl⟩
theorem OwnG.isAt {B : Nat} {w : World} {v : Value} {xs : List α} (h : OwnG L B w v xs) (hv : v ≠ .slice none 0 0) : ∃ g c, v = .slice (some ⟨g, 0, none⟩) xs.length c := by
  rcases h.2 with ⟨h0, _⟩ | ⟨g, cap, cur, rfl, _⟩
  · exact absurd h0 hv
  · exact ⟨g, cap, rfl⟩
theorem OwnG.base {B : Nat} {w : World} {v : Value} {xs : List α} (h : OwnG L B w v xs) (k : Nat) (hk : v.ownBlock = some k) : B ≤ k := by
  rcases h.2 with ⟨rfl, _⟩ | ⟨g, cap, cur, rfl, hb, _⟩
  · simp [Value.ownBlock] at hk
  · have : g = k := by simpa [Value.ownBlock] using hk
    omega
theorem at_add (g j : Nat) : (⟨g, 0, none⟩ : Addr).add j = ⟨g, j, none⟩ := by by_cases h0 : j = 0 <;> simp [Addr.add, h0]
theorem OwnG.len_le {B : Nat} {w : World} {a : Option Addr} {n c : Nat} {xs : List α} (h : OwnG L B w (.slice a n c) xs) : n = xs.length ∧ xs.length ≤ c ∧ c ≤ maxLen := by
  rcases h.2 with ⟨h0, h1⟩ | ⟨g, cap, cur, h0, hb, hh, r1, r2, r3⟩
  · cases h0; exact ⟨by omega, by omega, by simp [maxLen]⟩
  · cases h0; exact ⟨rfl, r1, r2⟩
theorem OwnG.cell {B : Nat} {w : World} {a : Option Addr} {n c : Nat} {xs : List α} (h : OwnG L B w (.slice a n c) xs) (k : Nat) (hk : k < xs.length) :
    ∃ g, a = some ⟨g, 0, none⟩ ∧ B ≤ g ∧ g < w.heap.size ∧ ∀ j, j < L.sz → w.cell? ⟨g, k * L.sz + j, none⟩ = (L.f xs[k])[j]? := by
  rcases h.2 with ⟨h0, h1⟩ | ⟨g, cap, cur, h0, hb, hh, hr⟩
  · omega
  · cases h0
    refine ⟨g, rfl, hb, (Array.getElem?_eq_some_iff.1 hh).1, fun j hj => ?_⟩
    have hj8 : j < (L.f xs[k]).length := by rw [L.len]; exact hj
    have hget := flat_get (L := L) xs k j hk hj
    rw [List.getElem?_eq_getElem hj8] at hget ⊢
    have := World.ownsRow.cells h (g := g) rfl (k * L.sz + j) _ hget
    rwa [at_add] at this
variable {P : Program} {ops : Array Oper} {rest : List Oper} {o : Oper} {a : Act} {K : Act → World → Prop} {Q : Exit → Act → World → Prop}
/-- what behind an append is known -/
def Appended (L : Lay α) (B : Nat) (W : World) (v : Value) (xs : List α) (v1 : Value) (w1 : World) : Prop :=
  OwnG L B w1 v1 xs ∧ W.grownBy w1 v.ownBlock ∧ (v1.ownBlock = v.ownBlock ∨ v1.ownBlock = some W.heap.size) ∧ (v1 = .slice none 0 0 → v = .slice none 0 0)
theorem Appended.below {B : Nat} {w0 W : World} {v : Value} {xs ys : List α} {v1 : Value} {w1 : World} (h : Appended L B W v xs v1 w1) (HB : Below B w0 W) (hB : B ≤ W.heap.size) (ho : OwnG L B W v ys) : Below B w0 w1 :=
  HB.grown h.2.1 hB (OwnG.base ho)
/-- append, whatever is appended, at its run -/
theorem run_appended (W : World) (S ty : TypeId) (B : Nat) (i : TypeInfo) (z : Value) (ht : P.underlying S = some (.slice L.ty)) (hi : P.info? L.ty = some i) (hz : i.zero = some z) (hsize : i.size = L.sz) (hby : i.bytes = L.by_) (hzs : z.cells.size = L.sz)
    (v : Value) (xs ys : List α) (HO : OwnG L B W v xs) (ad : Addr) (c : Nat) (hnews : ∀ j u, (ys.flatMap L.f)[j]? = some u → W.cell? (ad.add j) = some u)
    (h63 : xs.length + ys.length ≤ maxLen) (hbytes : (xs.length + ys.length) * L.by_ ≤ 140737488355328) (hB : B ≤ W.heap.size) :
    ∃ v1 w1, (Builtin.append_ #[S, S] ty #[v, .slice (some ad) ys.length c]).run P W = .ok v1 w1 ∧ Appended L B W v (xs ++ ys) v1 w1 := by
  obtain ⟨v', w', hr, h2, h3, h4, h5⟩ := run_append_own_at (P := P) W B S ty L.ty i z L.sz L.by_ ht hi hz hsize hby hzs L.pos v xs.length (xs.flatMap L.f) HO ad ys.length c (ys.flatMap L.f) (flat_length ys) hnews (by
    intro u hu
    obtain ⟨x, _, hx⟩ := List.mem_flatMap.1 hu
    exact L.one x u hx) h63 hbytes hB
  exact ⟨v', w', hr, by unfold OwnG; rw [List.length_append, List.flatMap_append]; exact h2, h3, h5, fun e => (h4.1 e).1⟩
theorem wp_appended (W : World) (s x : Operand) (S : TypeId) (ho : o.op = .call { callee := .builtin .append, args := #[s, x], argTypes := #[S, S] }) (B : Nat) (i : TypeInfo) (z : Value) (ht : P.underlying S = some (.slice L.ty)) (hi : P.info? L.ty = some i) (hz : i.zero = some z) (hsize : i.size = L.sz) (hby : i.bytes = L.by_) (hzs : z.cells.size = L.sz)
    (v : Value) (xs ys : List α) (hs : a.eval s = v) (HO : OwnG L B W v xs) (ad : Addr) (m c : Nat) (hm : ys.length = m) (hx : a.eval x = .slice (some ad) m c) (hnews : ∀ j u, (ys.flatMap L.f)[j]? = some u → W.cell? (ad.add j) = some u)
    (h63 : xs.length + ys.length ≤ maxLen) (hbytes : (xs.length + ys.length) * L.by_ ≤ 140737488355328) (hB : B ≤ W.heap.size)
    (h : ∀ v1 w1, Appended L B W v (xs ++ ys) v1 w1 → K (a.put o.dst v1) w1) : o.wp P a W K Q := by
  subst hm
  obtain ⟨v1, w1, hr, hp⟩ := run_appended (P := P) W S o.type B i z ht hi hz hsize hby hzs v xs ys HO ad c hnews h63 hbytes hB
  unfold Oper.wp execOp
  simp only [ho, resolve, invoke, builtin, Sem.run_bind, Sem.run_pure, Result.andThen_ok, List.map_toArray, List.map_cons, List.map_nil, hs, hx, hr]
  exact h v1 w1 hp
/-- .. in a plain region -/
theorem list_appended (W : World) (hgd : o.guard = none) (s x : Operand) (S : TypeId) (ho : o.op = .call { callee := .builtin .append, args := #[s, x], argTypes := #[S, S] }) (B : Nat) (i : TypeInfo) (z : Value) (ht : P.underlying S = some (.slice L.ty)) (hi : P.info? L.ty = some i) (hz : i.zero = some z) (hsize : i.size = L.sz) (hby : i.bytes = L.by_) (hzs : z.cells.size = L.sz)
    (v : Value) (xs ys : List α) (hs : a.eval s = v) (HO : OwnG L B W v xs) (ad : Addr) (m c : Nat) (hm : ys.length = m) (hx : a.eval x = .slice (some ad) m c) (hnews : ∀ j u, (ys.flatMap L.f)[j]? = some u → W.cell? (ad.add j) = some u)
    (h63 : xs.length + ys.length ≤ maxLen) (hbytes : (xs.length + ys.length) * L.by_ ≤ 140737488355328) (hB : B ≤ W.heap.size)
    (h : ∀ v1 w1, Appended L B W v (xs ++ ys) v1 w1 → wpList P ops Q rest (a.put o.dst v1) w1) : wpList P ops Q (o :: rest) a W :=
  wpList_plain hgd fun _ hK => wp_appended W s x S ho B i z ht hi hz hsize hby hzs v xs ys hs HO ad m c hm hx hnews h63 hbytes hB fun v1 w1 h1 => hK _ _ (h v1 w1 h1)
/-- .. at a step of a region that draws -/
theorem step_appended {E : Prop} (W : World) (hgd : o.guard = none) (s x : Operand) (S : TypeId) (ho : o.op = .call { callee := .builtin .append, args := #[s, x], argTypes := #[S, S] }) (B : Nat) (i : TypeInfo) (z : Value) (ht : P.underlying S = some (.slice L.ty)) (hi : P.info? L.ty = some i) (hz : i.zero = some z) (hsize : i.size = L.sz) (hby : i.bytes = L.by_) (hzs : z.cells.size = L.sz)
    (v : Value) (xs ys : List α) (hs : a.eval s = v) (HO : OwnG L B W v xs) (ad : Addr) (m c : Nat) (hm : ys.length = m) (hx : a.eval x = .slice (some ad) m c) (hnews : ∀ j u, (ys.flatMap L.f)[j]? = some u → W.cell? (ad.add j) = some u)
    (h63 : xs.length + ys.length ≤ maxLen) (hbytes : (xs.length + ys.length) * L.by_ ≤ 140737488355328) (hB : B ≤ W.heap.size)
    (h : ∀ v1 w1, Appended L B W v (xs ++ ys) v1 w1 → K (a.put o.dst v1) w1) :
    if Region.wanted o (yielded ops a.tmps) = true then Oper.wp P o a W K Q else E := by
  have hw : Region.wanted o (yielded ops a.tmps) = true := by simp [Region.wanted, hgd]
  rw [if_pos hw]
  exact wp_appended W s x S ho B i z ht hi hz hsize hby hzs v xs ys hs HO ad m c hm hx hnews h63 hbytes hB h
/-- one thing more: it lies in a block of its own -/
theorem list_one {w0 W : World} (hgd : o.guard = none) (s x : Operand) (S : TypeId) (ho : o.op = .call { callee := .builtin .append, args := #[s, x], argTypes := #[S, S] }) (B : Nat) (i : TypeInfo) (z : Value) (ht : P.underlying S = some (.slice L.ty)) (hi : P.info? L.ty = some i) (hz : i.zero = some z) (hsize : i.size = L.sz) (hby : i.bytes = L.by_) (hzs : z.cells.size = L.sz)
    (v : Value) (xs : List α) (y : α) (arr : Array Value) (harr : arr.toList = L.f y) (hs : a.eval s = v) (z0 : Nat) (hx : a.eval x = .slice (some ⟨z0, 0, none⟩) 1 1) (hz0 : z0 = W.heap.size) (HO : OwnG L B W v xs) (HB : Below B w0 W) (hB : B ≤ W.heap.size)
    (hl : xs.length + 1 ≤ 4000000000) (hb : L.by_ ≤ 10000)
    (h : ∀ v1 w1, OwnG L B w1 v1 (xs ++ [y]) → Below B w0 w1 → W.heap.size < w1.heap.size → (∀ k, k < W.heap.size → some k ≠ v.ownBlock → w1.heap[k]? = W.heap[k]?) → (v1.ownBlock = v.ownBlock ∨ v1.ownBlock = some (W.heap.size + 1)) → wpList P ops Q rest (a.put o.dst v1) w1) :
    wpList P ops Q (o :: rest) a (W.alloc (.cells arr L.ty)) := by
  subst hz0
  have hbl : Below W.heap.size W (W.alloc (.cells arr L.ty)) := (Below.refl _ W).alloc (Nat.le_refl _) _
  have hbb : (xs.length + [y].length) * L.by_ ≤ 140737488355328 := by
    have h1 : (xs.length + [y].length) ≤ 4000000000 := by simpa using hl
    calc (xs.length + [y].length) * L.by_ ≤ 4000000000 * 10000 := Nat.mul_le_mul h1 hb
      _ ≤ 140737488355328 := by omega
  refine list_appended (L := L) (W.alloc _) hgd s x S ho B i z ht hi hz hsize hby hzs v xs [y] hs (HO.below hbl) ⟨W.heap.size, 0, none⟩ 1 1 rfl hx ?_ (by simp only [maxLen, List.length_cons, List.length_nil]; omega) hbb (by simp; omega) ?_
  · intro j u hj
    rw [show ([y].flatMap L.f) = arr.toList by simp [harr]] at hj
    exact World.news_of_block (heap_alloc_new W _) j u hj
  · rintro v1 w1 ⟨h1, h2, h3, _⟩
    refine h v1 w1 h1 (((HB.alloc hB _)).grown h2 (by simp; omega) (OwnG.base HO)) (by have := h2.size; simp at this; omega) (fun k hk hne => ?_) (by simpa using h3)
    exact (h2.block k (by simp; omega) hne).trans (hbl.block k hk)
end
end Go.Proofs.YtnbbhgpflanhaaaDoor
