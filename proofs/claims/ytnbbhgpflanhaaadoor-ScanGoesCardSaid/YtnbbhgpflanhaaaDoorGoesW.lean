/- Walks: the page of an address; may an item go on; the pages of a row's items. -/
import Derived.Test.YtnbbhgpflanhaaaDoorGoesLaw
import Derived.Test.YtnbbhgpflanhaaaDoorAlong
import Derived.Test.YtnbbhgpflanhaaaDoorOf
import Derived.Test.YtnbbhgpflanhaaaDoorOwn
import Derived.Test.YtnbbhgpflanhaaaDoorLay
import Derived.Sort.OwnSortedInts
import Derived.Lib.RowBridge
namespace Go.Proofs.YtnbbhgpflanhaaaDoor
open Go.RowKit Go.Sort
set_option maxRecDepth 100000
set_option linter.unusedVariables false
set_option linter.unusedSimpArgs false
theorem page_calls (g gb : Nat) (bs : List Int) (pc : Int) (h0 : 2147483648 ≤ pc) (h1 : pc ≤ 4294967295) (hh : hasS bs.length pc 1 = true) (w : World) (hR : RamAt w g gb bs) :
    Calls Tryd.prog 24 #[.pointer (some ⟨g, 0, none⟩), .int .u32 pc] w fun e w' => e = .returned (.int .i64 (pageS pc)) ∧ w = w' := by
  have hs := has_calls g gb bs pc 1 (by omega) h1 (by omega) w hR
  rw [hh] at hs
  have HS := Lib.hid hs
  have hsub : (pc - 2147483648) % 4294967296 = pc - 2147483648 := by omega
  have hdiv : Int.tdiv (pc - 2147483648) 64 = pageS pc := by
    unfold pageS
    rw [Int.tdiv_eq_ediv_of_nonneg (by omega)]
  have HD := Lib.hid hdiv
  clear hs hR hh hdiv
  go_enter Tryd.func24, Tryd.ntmps24
  go_wp2_with (go_at_call 44; refine HS.out.mono ?_; rintro e w' ⟨rfl, rfl⟩)
  go_ret
  exact ⟨ret_i64 rfl, rfl⟩
set_option maxHeartbeats 1600000 in
theorem may_calls (a b c d x y f nx next : Int) (h0 : 0 ≤ a) (h1 : a ≤ 4294967295) (i0 : 0 ≤ x) (i1 : x ≤ 4294967295) (n0 : 0 ≤ next) (n1 : next ≤ 4294967295) (w : World) (op rd rs1 rs2 imm csr : Int)
    (he : (op, rd, rs1, rs2, imm, csr) = (b, c, d, y, x, f)) :
    Calls Tryd.prog 23 #[.agg #[.int .u32 a, .int .i64 op, .int .i64 rd, .int .i64 rs1, .int .i64 rs2, .int .u32 imm, .int .i64 csr, .int .u32 nx], .int .u32 next] w fun e w' => e = .returned (.bool (mayS ⟨a, ⟨op, rd, rs1, rs2, imm, csr⟩, nx⟩ next)) ∧ Below w.heap.size w w' := by
  simp only [Prod.mk.injEq] at he
  obtain ⟨rfl, rfl, rfl, rfl, rfl, rfl⟩ := he
  have hb0 := bl_alloc (Below.refl w.heap.size w) (.cells #[.int .u32 a, .int .i64 op, .int .i64 rd, .int .i64 rs1, .int .i64 rs2, .int .u32 imm, .int .i64 csr, .int .u32 nx] 43)
  have HB0 := Lib.hid hb0
  have hbr := fun w' => branch_calls op w'
  obtain ⟨r, hr⟩ : ∃ r, mayS ⟨a, ⟨op, rd, rs1, rs2, imm, csr⟩, nx⟩ next = r := ⟨_, rfl⟩
  rw [hr]
  unfold mayS at hr
  simp only [] at hr
  clear hb0
  by_cases c1 : next % 4 = 0
  · rw [if_neg (by omega)] at hr
    by_cases c4 : op = 4
    · rw [if_pos c4] at hr
      subst c4
      subst hr
      clear hbr
      go_enter Tryd.func23, Tryd.ntmps23
      go_wp2
      go_ret
      exact ⟨rfl, HB0.out⟩
    · rw [if_neg c4] at hr
      have q4 : (op == 4) = false := beq_eq_false_iff_ne.2 c4
      by_cases c3 : op = 3
      · rw [if_pos c3] at hr
        subst c3
        have HR := Lib.hid hr
        clear hbr hr c4
        go_enter Tryd.func23, Tryd.ntmps23
        go_wp2
        go_ret
        refine ⟨ret_bool ?_, HB0.out⟩
        rw [← HR.out, Bool.eq_iff_iff]; simp
      · rw [if_neg c3] at hr
        have q3 : (op == 3) = false := beq_eq_false_iff_ne.2 c3
        cases hib : isBranch op
        · rw [hib] at hbr hr
          have HB := Lib.hid hbr
          have HR := Lib.hid hr
          clear hbr hr c4 c3 hib
          go_enter Tryd.func23, Tryd.ntmps23
          go_wp2_with (go_at_call 36; refine (HB.out _).mono ?_; rintro e w' ⟨rfl, rfl⟩)
          go_ret
          refine ⟨ret_bool ?_, HB0.out⟩
          rw [← HR.out, Bool.eq_iff_iff]; simp
        · rw [hib] at hbr hr
          have HB := Lib.hid hbr
          have HR := Lib.hid hr
          clear hbr hr c4 c3 hib
          go_enter Tryd.func23, Tryd.ntmps23
          go_wp2_with (go_at_call 36; refine (HB.out _).mono ?_; rintro e w' ⟨rfl, rfl⟩)
          all_goals go_ret
          all_goals refine ⟨ret_bool ?_, HB0.out⟩
          all_goals rw [← HR.out, Bool.eq_iff_iff]
          all_goals simp_all
  · rw [if_pos c1] at hr
    subst hr
    clear hbr
    go_enter Tryd.func23, Tryd.ntmps23
    go_wp2
    go_ret
    exact ⟨rfl, HB0.out⟩
/-- numbers in cells -/
def LZ : Lay Int := ⟨3, 1, 8, fun x => [.int .i64 x], fun _ => rfl, fun x u hu => by simp at hu; subst hu; rfl, by omega⟩
theorem info_int : (Tryd.prog.info? 3).map (fun i => (i.zero, i.size, i.bytes)) = some (some (.int .i64 0), 1, 8) := by kernel_rfl
theorem flat_z (zs : List Int) : zs.flatMap LZ.f = zs.map (Value.int .i64) := by
  induction zs with
  | nil => rfl
  | cons x t ih => simp only [List.flatMap_cons, List.map_cons, ih]; rfl
theorem OwnG.z_cell {B : Nat} {w : World} {a : Option Addr} {n c : Nat} {zs : List Int} (h : OwnG LZ B w (.slice a n c) zs) (k : Nat) (hk : k < zs.length) : ∃ g, a = some ⟨g, 0, none⟩ ∧ B ≤ g ∧ g < w.heap.size ∧ w.cell? ⟨g, k, none⟩ = some (.int .i64 (zs.getD k 0)) := by
  obtain ⟨g, hg, hb, hl, hc⟩ := h.cell k hk
  refine ⟨g, hg, hb, hl, ?_⟩
  have := hc 0 (by show 0 < 1; omega)
  simp only [LZ, Nat.mul_one, Nat.add_zero] at this
  rw [this]
  simp [List.getD_eq_getElem?_getD, hk]
/-- an own row, sorted -/
theorem sort_calls (B : Nat) (v : Value) (zs : List Int) (hl : zs.length ≤ 100000) (w0 w : World) (h : OwnG LZ B w v zs) (hb : Below B w0 w) (hB : B ≤ w.heap.size) :
    Calls Tryd.prog 41 #[v] w fun e w' => e = .returned (.tuple #[]) ∧ OwnG LZ B w' v (zs.mergeSort fun x y => decide (x ≤ y)) ∧ Below B w0 w' := by
  have hlen : (zs.mergeSort fun x y => decide (x ≤ y)).length = zs.length := by simp
  rcases h.2 with ⟨rfl, h0⟩ | ⟨g, cap, cur, rfl, hbase, hh, h1, h2, h3, h4⟩
  · obtain rfl : zs = [] := List.length_eq_zero_iff.1 h0
    refine (AnyM.slices_Sort_int_none Tryd.sortA none 0 w).mono ?_
    rintro e w' ⟨rfl, rfl⟩
    exact ⟨rfl, by simpa using h, hb⟩
  · rw [flat_z] at h4
    have h4' : cur.toList.take zs.length = zs.map (Value.int .i64) := by
      have := h4
      simp only [LZ, Nat.mul_one] at this
      exact this
    refine (AnyM.slices_Sort_int Tryd.sortA g 0 cap zs w (holds_of_blockI hh h4') (Array.getElem?_eq_some_iff.1 hh).1 (by omega)).mono ?_
    rintro e w' ⟨rfl, n, os, rfl⟩
    refine ⟨rfl, ?_, hb.grown (grownBy_sortedI _) hB (by rintro k hk; cases hk; exact hbase)⟩
    unfold OwnG
    rw [flat_z, hlen]
    exact ownsRow_sortedI hlen hbase hh h1 h2 h3
theorem grow_none (w : World) : grow w #[] = w := by simp [grow]
/-- an own row that is sorted, each once -/
theorem compact_calls (B : Nat) (v : Value) (zs : List Int) (hl : zs.length ≤ 100000) (w0 w : World) (h : OwnG LZ B w v zs) (hb : Below B w0 w) (hB : B ≤ w.heap.size) :
    Calls Tryd.prog 42 #[v] w fun e w' => ∃ v', e = .returned v' ∧ OwnG LZ B w' v' (Lib.compact zs) ∧ Below B w0 w' := by
  rcases h.2 with ⟨rfl, h0⟩ | ⟨g, cap, cur, rfl, hbase, hh, h1, h2, h3, h4⟩
  · obtain rfl : zs = [] := List.length_eq_zero_iff.1 h0
    refine (AnyG.slices_Compact_int_empty Tryd.compactA none 0 w).mono ?_
    rintro e w' ⟨rfl, rfl⟩
    refine ⟨_, rfl, ?_, hb⟩
    have e0 : Lib.compact ([] : List Int) = [] := by simp [Lib.compact, Lib.compactUpTo]
    rw [e0]
    exact h
  · rw [flat_z] at h4
    have h4' : cur.toList.take zs.length = zs.map (Value.int .i64) := by
      have := h4
      simp only [LZ, Nat.mul_one] at this
      exact this
    have h3' : cur.size = cap := by have := h3; simp only [LZ, Nat.mul_one] at this; exact this
    have hle := Lib.compact_length_le zs
    refine (AnyG.slices_Compact_int Tryd.compactA g 0 cap zs w (holds_of_blockI hh h4') (by omega) h1).mono ?_
    rintro e w' ⟨rfl, q, rfl⟩
    have hg0 := grownBy_sortedI (w := w) (g := g) (n := q) (os := #[]) (Lib.compact zs ++ List.replicate (zs.length - (Lib.compact zs).length) 0).toArray
    have hc0 := heap_sortedI (w := w) (g := g) (n := q) (os := #[]) (Lib.compact zs ++ List.replicate (zs.length - (Lib.compact zs).length) 0).toArray hh
    rw [grow_none] at hg0 hc0
    refine ⟨_, rfl, ?_, hb.grown hg0 hB (by rintro k hk; cases hk; exact hbase)⟩
    refine ⟨by rw [flat_z]; simp [LZ], .inr ⟨g, cap, _, rfl, hbase, hc0, by omega, h2, by simp [putCells, h3], ?_⟩⟩
    rw [flat_z]
    have ht := take_putCellsI cur (Lib.compact zs ++ List.replicate (zs.length - (Lib.compact zs).length) 0) (by simp; omega)
    have ht2 := congrArg (List.take (Lib.compact zs).length) ht
    rw [List.take_take, List.map_append, List.take_left' (by simp)] at ht2
    show List.take ((Lib.compact zs).length * 1) _ = _
    rw [Nat.mul_one, ← ht2]
    congr 1
    simp
/-- the pages, rising, each once -/
def PagesPost (R : List Itm) (w : World) (e : Ending) (w' : World) : Prop :=
  ∃ v P, e = .returned v ∧ OwnG LZ w.heap.size w' v P ∧ Rise P ∧ (∀ x, x ∈ P ↔ ∃ y ∈ R, pageS y.pc = x) ∧ Below w.heap.size w w'
def PagesRel (R : List Itm) (w : World) (outv kv : Value) (wr : World) : Prop :=
  ∃ k : Nat, k ≤ R.length ∧ kv = .int .i64 k ∧ OwnG LZ w.heap.size wr outv ((R.take k).map fun y => pageS y.pc) ∧ Below w.heap.size w wr
set_option maxHeartbeats 3200000 in
theorem pages_calls (g gb : Nat) (bs : List Int) (B : Nat) (a : Option Addr) (c : Nat) (R : List Itm) (hl : R.length ≤ 32) (hbs : bs.length ≤ 1024) (hR : RowOk bs.length R) (w : World) (hM : RamAt w g gb bs) (hX : OwnI 43 B w (.slice a R.length c) R) :
    Calls Tryd.prog 21 #[.pointer (some ⟨g, 0, none⟩), .slice a R.length c] w (PagesPost R w) := by
  obtain ⟨i0, hi0, hzz⟩ := Option.map_eq_some_iff.1 info_int
  simp only [Prod.mk.injEq] at hzz
  obtain ⟨hz0, hz1, hz2⟩ := hzz
  have HI := Lib.hid hi0
  have HZ := Lib.hid hz0
  have HZ1 := Lib.hid hz1
  have HZ2 := Lib.hid hz2
  have HM := Lib.hid hM
  have HRO := Lib.hid hR
  have HXX := Lib.hid hX
  clear hi0 hz0 hz1 hz2 hM hR hX
  go_enter Tryd.func21, Tryd.ntmps21
  go_wp2
  go_loopw [5, 11] (fun outv kv wr => PagesRel R w outv kv wr) (fun _ kv _ => R.length - (intOf kv).toNat)
  case atStart => exact ⟨0, Nat.zero_le _, rfl, OwnG.nil _ _, Below.refl _ _⟩
  case round =>
    obtain ⟨k, hk, rfl, hown, hb⟩ := hrel
    obtain ⟨av, cv, hv⟩ := hown.slice
    rw [show ((R.take k).map fun y => pageS y.pc).length = k by simp; omega] at hv
    subst hv
    by_cases hlt : k < R.length
    · obtain ⟨gx, rfl, hgl, hgB, c0, c1, c2, c3, c4, c5, c6, c7⟩ := (HXX.out.below hb).eight k hlt
      have hts := take_one R k hlt
      have hok := HRO.out.item k hlt
      obtain ⟨q0, q1, hh⟩ := hok.page hbs
      have p0 := hok.pc0
      have p1 := hok.pc1
      generalize R[k] = x at *
      have HPG := Lib.hid (fun w' (hb' : Below w.heap.size w w') => page_calls g gb bs x.pc p0 (by omega) hh w' (HM.out.below hb'))
      have HO := Lib.hid hown
      have HTS := Lib.hid hts
      have HB := Lib.hid hb
      have hszb := hb.size
      clear hown hts hb hok hh
      have hnn : (0 : Int) ≤ pageS x.pc := q0
      obtain ⟨pg, hpg⟩ : ∃ pg, pageS x.pc = pg := ⟨_, rfl⟩
      have HPE := Lib.hid hpg
      rw [hpg] at hnn HPG q0 q1
      clear hpg
      go_wp2_with (first
        | (go_at_call 24; refine (HPG.out _ (HB.out.alloc hszb _)).mono ?_; rintro e w' ⟨rfl, rfl⟩)
        | (at_builtin; go_loud (refine list_one (L := LZ) (w0 := w) rfl _ _ 62 rfl w.heap.size i0 _ Tryd.underlying62 HI.out HZ.out HZ1.out HZ2.out rfl (.slice av k cv) ((R.take k).map fun y => pageS y.pc) pg _ rfl rfl (wr.heap.size + 1) (by rfl) (by simp) (HO.out.below ((Below.refl _ _).alloc (Nat.le_refl _) _)) (HB.out.alloc hszb _) (by simp; omega) (by simp; omega) (by decide) ?_); intro v1 w2 hown2 hb2 hz2 hkeep hblk; have HO2 := Lib.hid hown2; have HB2 := Lib.hid hb2; clear hown2 hb2 hkeep hblk))
      go_roundw
      case rel => exact ⟨k + 1, by omega, by go_num, by rw [HTS.out, List.map_append, List.map_cons, List.map_nil, HPE.out]; exact HO2.out, HB2.out⟩
      case measure => simp [intOf]; omega
    · obtain rfl : k = R.length := by omega
      rw [List.take_length] at hown
      have hszb := hb.size
      generalize hzs : (R.map fun y => pageS y.pc) = zs at *
      have hlz : zs.length = R.length := by rw [← hzs]; simp
      have HSO := Lib.hid (sort_calls w.heap.size (.slice av R.length cv) zs (by omega) w wr hown hb hszb)
      have HZS := Lib.hid hzs
      clear hown hb hzs
      have hsp := sort_pages zs
      have HCO := Lib.hid (fun w' h hb' hB => compact_calls w.heap.size (.slice av R.length cv) (zs.mergeSort fun x y => decide (x ≤ y)) (by simp; omega) w w' h hb' hB)
      have HCS := Lib.hid (compact_sorted _ hsp.1)
      have HSP := Lib.hid hsp.2
      clear hsp
      go_wp2_with (first
        | (go_at_call 41; refine HSO.out.mono ?_; rintro e w1 ⟨rfl, ho1, hb1⟩; have HO1 := Lib.hid ho1; have HB1 := Lib.hid hb1; clear ho1 hb1)
        | (go_at_call 42; refine (HCO.out _ HO1.out HB1.out HB1.out.size).mono ?_; rintro e w2 ⟨v2, rfl, ho2, hb2⟩; have HO2 := Lib.hid ho2; have HB2 := Lib.hid hb2; clear ho2 hb2))
      go_ret
      refine ⟨_, _, rfl, HO2.out, HCS.out.1, fun x => ?_, HB2.out⟩
      rw [HCS.out.2 x, HSP.out x, ← HZS.out]
      simp
theorem may_item (x : Itm) (next : Int) (h0 : 0 ≤ x.pc) (h1 : x.pc ≤ 4294967295) (i0 : 0 ≤ x.i.imm) (i1 : x.i.imm ≤ 4294967295) (n0 : 0 ≤ next) (n1 : next ≤ 4294967295) (w : World) :
    Calls Tryd.prog 23 #[itmV x, .int .u32 next] w fun e w' => e = .returned (.bool (mayS x next)) ∧ Below w.heap.size w w' :=
  may_calls x.pc x.i.op x.i.rd x.i.rs1 x.i.imm x.i.rs2 x.i.csr x.next next h0 h1 i0 i1 n0 n1 w x.i.op x.i.rd x.i.rs1 x.i.rs2 x.i.imm x.i.csr rfl
theorem can_item (x : Itm) (i0 : 0 ≤ x.i.imm) (i1 : x.i.imm ≤ 4294967295) (w : World) (hF : FormsAt w) :
    Calls Tryd.prog 22 #[.agg #[.int .i64 x.i.op, .int .i64 x.i.rd, .int .i64 x.i.rs1, .int .i64 x.i.rs2, .int .u32 x.i.imm, .int .i64 x.i.csr]] w fun e w' => e = .returned (.bool (canS x.i)) ∧ Below w.heap.size w w' :=
  can_calls x.i.op x.i.rd x.i.rs1 x.i.rs2 x.i.imm x.i.csr i0 i1 w hF
/-- which pages are met -/
def MetAt (w : World) (gm : Nat) (F : Nat → Bool) : Prop := ∃ arr : Array Value, w.heap[gm]? = some (.cells arr 4 (0, 0)) ∧ arr.size = 16 ∧ ∀ j, j < 16 → arr[j]? = some (.bool (F j))
theorem MetAt.cell {w : World} {gm : Nat} {F : Nat → Bool} (h : MetAt w gm F) (j : Nat) (hj : j < 16) : w.cell? ⟨gm, j, none⟩ = some (.bool (F j)) := by
  obtain ⟨arr, h1, h2, h3⟩ := h
  simp [World.cell?, h1, h3 j hj]
theorem MetAt.free {w : World} {gm : Nat} {F : Nat → Bool} (h : MetAt w gm F) (j : Nat) : w.frozen? ⟨gm, j, none⟩ = false := by
  obtain ⟨arr, h1, h2, h3⟩ := h
  simp [World.frozen?, h1]
theorem MetAt.lt {w : World} {gm : Nat} {F : Nat → Bool} (h : MetAt w gm F) : gm < w.heap.size := by
  obtain ⟨arr, h1, h2, h3⟩ := h
  exact (Array.getElem?_eq_some_iff.1 h1).1
theorem MetAt.below {w w' : World} {gm : Nat} {F : Nat → Bool} (h : MetAt w gm F) (hb : Below w.heap.size w w') : MetAt w' gm F := by
  have hl := h.lt
  obtain ⟨arr, h1, h2, h3⟩ := h
  exact ⟨arr, (hb.block gm hl).trans h1, h2, h3⟩
theorem MetAt.congr {w : World} {gm : Nat} {F G : Nat → Bool} (h : MetAt w gm F) (hg : ∀ j, j < 16 → F j = G j) : MetAt w gm G := by
  obtain ⟨arr, h1, h2, h3⟩ := h
  exact ⟨arr, h1, h2, fun j hj => by rw [h3 j hj, hg j hj]⟩
theorem MetAt.made (w : World) : MetAt (w.alloc (.cells (madeCells #[.bool false] 16) 4)) w.heap.size (fun _ => false) :=
  ⟨_, heap_alloc_new w _, size_madeCells _ _, fun j hj => by
    have hj1 : (madeCells #[Value.bool false] 16)[j]? = some (.bool false) := by simp [madeCells, hj, Nat.mod_one]
    exact hj1⟩
theorem MetAt.set {w : World} {gm : Nat} {F : Nat → Bool} (h : MetAt w gm F) (k : Nat) : MetAt (w.setCell ⟨gm, k, none⟩ (.bool true)) gm (fun j => if j = k then true else F j) := by
  have hl := h.lt
  obtain ⟨arr, h1, h2, h3⟩ := h
  refine ⟨arr.setIfInBounds k (.bool true), ?_, by simp [h2], fun j hj => ?_⟩
  · have h' : w.heap[gm] = .cells arr 4 (0, 0) := by simpa [Array.getElem?_eq_getElem hl] using h1
    show (w.heap.modify gm _)[gm]? = _
    rw [Array.getElem?_eq_getElem (by simpa using hl), Array.getElem_modify_self, h']
    rfl
  · rw [Array.getElem?_setIfInBounds]
    by_cases e : k = j
    · subst e; simp [h2, hj]
    · have e' : ¬ j = k := fun h => e h.symm
      rw [if_neg e, h3 j hj]
      simp [e']
end Go.Proofs.YtnbbhgpflanhaaaDoor
