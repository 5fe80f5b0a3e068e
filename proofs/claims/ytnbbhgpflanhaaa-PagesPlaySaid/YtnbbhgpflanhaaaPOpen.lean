/- How a list of steps that came in reads. -/
import Derived.Test.YtnbbhgpflanhaaaPInv
import Derived.ProofKit
import Derived.OpenShut
import Derived.Lib.SmallJoins
import Derived.Deep.Grids
namespace Go.Proofs.Ytnbbhgpflanhaaa
open Go.RowKit Go.ChangeShapes Go.WideShapes
set_option linter.unusedVariables false
set_option linter.unusedSimpArgs false
set_option maxRecDepth 100000
instance : Inhabited St := ⟨⟨0, 0, .bool false, [], .bool false, []⟩⟩
section
variable {H : Type} {enc : TypeId × Value → H} {w : World}
/-- a list of numbers that came in, as it reads -/
theorem ints_open {fuel : Nat} {v : Value} {x : DataW H × List MemPlace} (h : DataW.trod enc Try.prog w 0 (fun _ => true) true fuel 23 [v] = some x) : ∃ zs : List Int, InRow w v zs ∧ (∀ x ∈ zs, IntOk x) ∧ (zs.length : Int) ≤ 9223372036854775807 := by
  have hml : maxLen = 9223372036854775807 := rfl
  rcases open_ints Try.underlying23 Try.underlying3 (by kernel_rfl) h with ⟨hcs, _⟩ | ⟨a, l, c, zs, hcs, _, hl, hm, hz, _, hcell, hwz⟩
  · simp at hcs
    subst hcs
    exact ⟨[], ⟨⟨none, 0, rfl⟩, .inl rfl⟩, by simp, by simp⟩
  · simp at hcs
    subst hcs
    have hlen : (zs.take l).length = l := by simp at hz; simp; omega
    refine ⟨zs.take l, ⟨⟨some a, c, by rw [hlen]⟩, ?_⟩, fun x hx => hwz x (List.mem_of_mem_take hx), by omega⟩
    by_cases h0 : l = 0
    · exact .inl (by subst h0; simp)
    · obtain ⟨g, o, spot⟩ := a
      have hz' : zs.length = c := by simpa using hz
      have hs : spot = none := by
        have := World.cell?_spot (hcell 0 (by omega))
        simpa [Addr.add] using this
      subst hs
      have hgl : g < w.heap.size := by
        have h1 := World.block_lt_of_cell? w _ (hcell 0 (by omega))
        simpa [Addr.add] using h1
      refine .inr ⟨g, o, c, by rw [hlen], fun hf => hf, hgl, fun i hi => ?_⟩
      rw [hlen] at hi
      have := hcell i (by omega)
      have e : (⟨g, o, none⟩ : Addr).add i = ⟨g, o + i, none⟩ := by by_cases h0 : i = 0 <;> simp [Addr.add, h0]
      rw [e] at this
      rw [this]
      simp [List.getD_eq_getElem?_getD, hi]
/-- a list of bools that came in, as it reads -/
theorem bools_open {fuel : Nat} {v : Value} {x : DataW H × List MemPlace} (h : DataW.trod enc Try.prog w 0 (fun _ => true) true fuel 28 [v] = some x) : ∃ bs : List Bool, BoolsIn w v bs ∧ (bs.length : Int) ≤ 9223372036854775807 := by
  have hml : maxLen = 9223372036854775807 := rfl
  rcases Go.Deep.open_bools Try.underlying28 Try.underlying4 (by kernel_rfl) h with ⟨hcs, _⟩ | ⟨a, l, c, B, hcs, _, hl, hm, _, hcell⟩
  · simp at hcs
    subst hcs
    exact ⟨[], ⟨⟨none, 0, rfl⟩, .inl rfl⟩, by simp⟩
  · simp at hcs
    subst hcs
    have hlen : ((List.range l).map B).length = l := by simp
    refine ⟨(List.range l).map B, ⟨⟨some a, c, by rw [hlen]⟩, ?_⟩, by rw [hlen]; omega⟩
    by_cases h0 : l = 0
    · exact .inl (by subst h0; simp)
    · obtain ⟨g, o, spot⟩ := a
      have hs : spot = none := by
        have := World.cell?_spot (hcell 0 (by omega))
        simpa [Addr.add] using this
      subst hs
      have hgl : g < w.heap.size := by
        have h1 := World.block_lt_of_cell? w _ (hcell 0 (by omega))
        simpa [Addr.add] using h1
      refine .inr ⟨g, o, c, by rw [hlen], hgl, fun i hi => ?_⟩
      rw [hlen] at hi
      have := hcell i (by omega)
      have e : (⟨g, o, none⟩ : Addr).add i = ⟨g, o + i, none⟩ := by by_cases h0 : i = 0 <;> simp [Addr.add, h0]
      rw [e] at this
      rw [this]
      simp [List.getD_eq_getElem?_getD, hi]
theorem list4 {α : Type} {cs : List α} (h : cs.length = 4) : ∃ a b c d, cs = [a, b, c, d] := by
  match cs, h with
  | [a, b, c, d], _ => exact ⟨a, b, c, d, rfl⟩
/-- one step, as it reads -/
theorem step_open {fuel : Nat} {cs : List Value} {x : DataW H × List MemPlace} (h : DataW.trod enc Try.prog w 0 (fun _ => true) true fuel 30 cs = some x) : ∃ s : St, cs = [.int .i64 s.kind, .int .i64 s.id, s.pv, s.wv] ∧ StIn w s := by
  obtain ⟨y0, y1, y2, y3, n, _, hl, h0, h1, h2, h3⟩ := Go.Joins.trod_struct4 Try.underlying30 h
  have hc : Try.prog.cellsOf 30 = 4 := by kernel_rfl
  have c3 : Try.prog.cellsOf 3 = 1 := by kernel_rfl
  have cz : Try.prog.cellsOf 23 = 1 := by kernel_rfl
  have cb : Try.prog.cellsOf 28 = 1 := by kernel_rfl
  rw [hc] at hl
  obtain ⟨v0, v1, v2, v3, rfl⟩ := list4 hl
  simp only [c3, cz, cb, List.drop_zero, List.take_succ_cons, List.take_zero, List.drop_succ_cons] at h0 h1 h2 h3
  obtain ⟨k, e0, _, _⟩ := DataW.trod_int Try.underlying3 h0
  obtain ⟨id, e1, _, w1⟩ := DataW.trod_int Try.underlying3 h1
  simp at e0 e1
  subst e0 e1
  obtain ⟨zs, hz, hzo, hzl⟩ := ints_open h2
  obtain ⟨bs, hb, hbl⟩ := bools_open h3
  exact ⟨⟨k, id, v2, zs, v3, bs⟩, rfl, ⟨hz, hb, w1, hzo, hzl, hbl⟩⟩
theorem steps_open {fuel : Nat} {a : Option Addr} {n c : Nat} {x : DataW H × List MemPlace} (h : DataW.trod enc Try.prog w 0 (fun _ => true) true fuel 22 [.slice a n c] = some x) : ∃ ls : List St, n = ls.length ∧ StepsIn w (.slice a ls.length c) ls ∧ (ls.length : Int) ≤ 9223372036854775807 := by
  have hml : maxLen = 9223372036854775807 := rfl
  have hc : Try.prog.cellsOf 30 = 4 := by kernel_rfl
  rcases Go.Deep.open_slice Try.underlying22 h with ⟨hcs, _⟩ | ⟨ad, len, cap, m, n', D, Pl, hcs, _, hl, hm, hmm, _, hx⟩
  · simp at hcs
    obtain ⟨rfl, rfl, rfl⟩ := hcs
    exact ⟨[], rfl, ⟨⟨none, 0, rfl⟩, .inl rfl⟩, by simp⟩
  · simp at hcs
    obtain ⟨rfl, rfl, rfl⟩ := hcs
    simp only [if_true] at hmm
    subst hmm
    rw [hc] at hx
    obtain ⟨V, hV⟩ := Go.Deep.choose_lt (α := St) (n := n) (p := fun i s => w.cell? ((ad.add (i * 4)).add 0) = some (.int .i64 s.kind) ∧ w.cell? ((ad.add (i * 4)).add 1) = some (.int .i64 s.id) ∧ w.cell? ((ad.add (i * 4)).add 2) = some s.pv ∧ w.cell? ((ad.add (i * 4)).add 3) = some s.wv ∧ StIn w s) (fun i hi => by
      obtain ⟨cs', h1, h2⟩ := hx i (by omega)
      obtain ⟨_, _, hcl⟩ := World.cells?_some h1
      obtain ⟨s, rfl, hs⟩ := step_open h2
      exact ⟨s, by simpa using hcl 0 (by omega), by simpa using hcl 1 (by omega), by simpa using hcl 2 (by omega), by simpa using hcl 3 (by omega), hs⟩)
    have hlen : ((List.range n).map V).length = n := by simp
    refine ⟨(List.range n).map V, by rw [hlen], ⟨⟨some ad, _, rfl⟩, ?_⟩, by rw [hlen]; omega⟩
    by_cases h0 : n = 0
    · exact .inl (by subst h0; simp)
    · obtain ⟨g, o, spot⟩ := ad
      obtain ⟨q0, _⟩ := hV 0 (by omega)
      have hs : spot = none := by
        have := World.cell?_spot q0
        simpa [Addr.add] using this
      subst hs
      have hgl : g < w.heap.size := by
        have h1 := World.block_lt_of_cell? w _ q0
        simpa [Addr.add] using h1
      refine .inr ⟨g, o, _, rfl, hgl, fun i hi => ?_⟩
      rw [hlen] at hi
      obtain ⟨q0, q1, q2, q3, q4⟩ := hV i hi
      have e : ∀ j, ((⟨g, o, none⟩ : Addr).add (i * 4)).add j = ⟨g, o + i * 4 + j, none⟩ := fun j => by
        by_cases h0 : i * 4 = 0 <;> by_cases h1 : j = 0 <;> simp [Addr.add, h0, h1]
      rw [e] at q0 q1 q2 q3
      simp only [List.getElem_map, List.getElem_range]
      exact ⟨q0, q1, q2, q3, q4⟩
end
end Go.Proofs.Ytnbbhgpflanhaaa
