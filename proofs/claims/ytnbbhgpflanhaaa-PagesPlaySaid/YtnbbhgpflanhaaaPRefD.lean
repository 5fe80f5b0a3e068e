/- Walks: the reference's pairs, put and dropped; and which are hit. -/
import Derived.Test.YtnbbhgpflanhaaaPRefB
namespace Go.Proofs.Ytnbbhgpflanhaaa
open Go.RowKit
set_option linter.unusedVariables false
set_option linter.unusedSimpArgs false
set_option maxRecDepth 100000
/-- a list that came in -/
def InRow (w : World) (v : Value) (zs : List Int) : Prop := RowAt w (fun _ => False) v zs
theorem InRow.below {w w' : World} {v : Value} {zs : List Int} (h : InRow w v zs) (hb : Below w.heap.size w w') : InRow w' v zs := RowAt.kept h (Kept.of_below hb) (fun b hb => hb.elim)
theorem InRow.cell {w : World} {a : Option Addr} {n c : Nat} {zs : List Int} (h : InRow w (.slice a n c) zs) (k : Nat) (hk : k < zs.length) : ∃ g o, a = some ⟨g, o, none⟩ ∧ g < w.heap.size ∧ w.cell? ⟨g, o + k, none⟩ = some (.int .i64 (zs.getD k 0)) := by
  obtain ⟨g, o, c', hv, _, hl, hc⟩ := h.2.resolve_left (fun e => by rw [e] at hk; simp at hk)
  simp only [Value.slice.injEq] at hv
  exact ⟨g, o, hv.1, hl, hc k hk⟩
def PPost (w : World) (P : Int × Int → Prop) (m : Nat) (e : Ending) (w' : World) : Prop :=
  ∃ ps, ∃ g c : Nat, e = .returned (.slice (some ⟨g, 0, none⟩) ps.length c) ∧ OwnG LP w.heap.size w' (.slice (some ⟨g, 0, none⟩) ps.length c) ps ∧ (∀ q, q ∈ ps ↔ P q) ∧ ps.length ≤ m ∧ Below w.heap.size w w'
def RAddRel (ps : List (Int × Int)) (id : Int) (zs : List Int) (w : World) (outv iv : Value) (wr : World) : Prop :=
  ∃ ps', ∃ k g c : Nat, iv = .int .i64 k ∧ k ≤ zs.length ∧ outv = .slice (some ⟨g, 0, none⟩) ps'.length c ∧ OwnG LP w.heap.size wr outv ps' ∧ (∀ q, q ∈ ps' ↔ q ∈ ps ∨ (q.1 = id ∧ q.2 ∈ zs.take k)) ∧ ps'.length ≤ ps.length + k ∧ Below w.heap.size w wr
set_option maxHeartbeats 3200000 in
theorem radd_calls (g c B : Nat) (ps : List (Int × Int)) (id : Int) (zs : List Int) (a : Option Addr) (cz : Nat) (hl : ps.length ≤ 50000) (hzl : zs.length ≤ 50000) (w : World) (h : OwnG LP B w (.slice (some ⟨g, 0, none⟩) ps.length c) ps) (hz : InRow w (.slice a zs.length cz) zs) :
    Calls Try.prog 9 #[.slice (some ⟨g, 0, none⟩) ps.length c, .int .i64 id, .slice a zs.length cz] w (PPost w (fun q => q ∈ ps ∨ (q.1 = id ∧ q.2 ∈ zs)) (ps.length + zs.length)) := by
  obtain ⟨i0, hi0, hzz⟩ := Option.map_eq_some_iff.1 info_pair
  simp only [Prod.mk.injEq] at hzz
  obtain ⟨hz0, hz1, hz2⟩ := hzz
  have HI := Lib.hid hi0
  have HZ := Lib.hid hz0
  have HZ1 := Lib.hid hz1
  have HZ2 := Lib.hid hz2
  have hA : Below w.heap.size w (w.alloc (.cells #[] 52)) := bl_alloc (Below.refl _ _) (Nat.le_refl _) _
  have hnews : ∀ j u, (ps.flatMap LP.f)[j]? = some u → (w.alloc (.cells #[] 52)).cell? ((⟨g, 0, none⟩ : Addr).add j) = some u := fun j u hu =>
    World.ownsRow.cells (h.below hA) (g := g) rfl j u hu
  have HN := Lib.hid hnews
  have HX := Lib.hid h
  have HIN := Lib.hid hz
  have HA := Lib.hid hA
  clear hi0 hz0 hz1 hz2 h hz hnews hA
  go_enter Try.func9, Try.ntmps9
  go_wp2_with (at_builtin; refine list_appended (L := LP) _ rfl _ _ 27 rfl w.heap.size i0 _ Try.underlying27 HI.out HZ.out HZ1.out HZ2.out rfl (.slice (some ⟨w.heap.size, 0, none⟩) 0 0) [] ps (by rfl) (OwnG.made _ _ (Nat.le_refl _)) ⟨g, 0, none⟩ ps.length c rfl (by rfl) HN.out (by simp only [maxLen]; simp; omega) (by show (0 + ps.length) * 16 ≤ _; omega) (by simp) ?_; rintro v1 w1 hap)
  have hb1 : Below w.heap.size w w1 := hap.below (w0 := w) HA.out HA.out.size (OwnG.made _ _ (Nat.le_refl _))
  obtain ⟨g1, c1, hv1⟩ := hap.1.isAt (fun e => by have := hap.2.2.2 e; simp at this)
  have ho1 := hap.1
  rw [List.nil_append] at ho1 hv1
  subst hv1
  have HO1 := Lib.hid ho1
  have HB1 := Lib.hid hb1
  clear hap ho1 hb1
  go_wp2_with fail
  go_loopw [7, 8] (fun outv iv wr => RAddRel ps id zs w outv iv wr) (fun _ iv _ => zs.length - (intOf iv).toNat)
  case atStart => exact ⟨ps, 0, g1, c1, rfl, Nat.zero_le _, rfl, HO1.out, fun q => by simp, by omega, HB1.out⟩
  case round =>
    obtain ⟨ps', k, go, co, rfl, hk, rfl, hown, hmem, hlen, hb⟩ := hrel
    have hk0 : (0 : Int) ≤ (k : Int) := Int.natCast_nonneg _
    by_cases hlt : k < zs.length
    · obtain ⟨gz, oz, rfl, hgz, cz0⟩ := HIN.out.cell k hlt
      have htk : zs.take (k + 1) = zs.take k ++ [zs.getD k 0] := by rw [List.take_succ_eq_append_getElem hlt]; simp [List.getD_eq_getElem?_getD, hlt]
      generalize zs.getD k 0 = p at *
      have hk1 : (k : Int) < zs.length := by omega
      have d0 : wr.cell? ⟨gz, oz + k, none⟩ = some (.int .i64 p) := (hb.cell (p := ⟨gz, oz + k, none⟩) hgz).trans cz0
      have hhas := has_calls (some ⟨go, 0, none⟩) co w.heap.size ps' id p (by omega) wr hown
      have hszb := hb.size
      by_cases hin : (id, p) ∈ ps'
      · rw [decide_eq_true hin] at hhas
        have HH := Lib.hid hhas
        have HO := Lib.hid hown
        have HM := Lib.hid hmem
        have HB := Lib.hid hb
        have HT := Lib.hid htk
        have HP := Lib.hid hin
        clear hhas hown hmem hb htk hin cz0
        go_wp2_with (go_at_call 24; refine HH.out.mono ?_; rintro e w2 ⟨rfl, hb2⟩; have HB2 := Lib.hid hb2; clear hb2)
        go_roundw
        case rel =>
          refine ⟨ps', k + 1, go, co, by go_num, by omega, rfl, HO.out.below HB2.out, fun q => ?_, by omega, HB.out.trans (HB2.out.mono HB.out.size)⟩
          rw [HM.out q, HT.out, List.mem_append, List.mem_singleton]
          constructor
          · rintro (h | ⟨h, h'⟩)
            · exact .inl h
            · exact .inr ⟨h, .inl h'⟩
          · rintro (h | ⟨h, h' | h'⟩)
            · exact .inl h
            · exact .inr ⟨h, h'⟩
            · obtain ⟨q1, q2⟩ := q
              simp only at h h'
              subst h h'
              exact (HM.out _).1 HP.out
        case measure => simp [intOf]; omega
      · rw [decide_eq_false hin] at hhas
        have HH := Lib.hid hhas
        have HO := Lib.hid hown
        have HM := Lib.hid hmem
        have HB := Lib.hid hb
        have HT := Lib.hid htk
        clear hhas hown hmem hb htk hin cz0
        go_wp2_with fail
        refine HH.out.mono ?_
        rintro e w2 ⟨rfl, hb2⟩
        have d2 : w2.cell? ⟨gz, oz + k, none⟩ = some (.int .i64 p) := (hb2.cell (p := ⟨gz, oz + k, none⟩) (by show gz < wr.heap.size; omega)).trans d0
        have hB2 : Below w.heap.size w w2 := HB.out.trans (hb2.mono HB.out.size)
        have hs2 := hb2.size
        have hlen2 : ps'.length + 1 ≤ 4000000000 := by omega
        have HB2 := Lib.hid hb2
        have HBB2 := Lib.hid hB2
        have hsz2 : w.heap.size ≤ w2.heap.size := by omega
        clear hb2 hB2 d0
        go_wp2_with (at_builtin; refine list_one (L := LP) (w0 := w) (W := w2) rfl _ _ 27 rfl w.heap.size i0 _ Try.underlying27 HI.out HZ.out HZ1.out HZ2.out rfl (.slice (some ⟨go, 0, none⟩) ps'.length co) ps' (id, p) _ rfl rfl _ (by rfl) rfl (HO.out.below HB2.out) HBB2.out hsz2 hlen2 (by decide) ?_; intro v3 w3 hown3 hb3 hz3 hkeep3 hblk3; obtain ⟨a3, c3, hv3⟩ := hown3.slice; rw [show (ps' ++ [(id, p)]).length = ps'.length + 1 by simp] at hv3; subst hv3; obtain ⟨g3, hg3, _⟩ := hown3.cell 0 (by simp); subst hg3; have HO3 := Lib.hid hown3; have HB3 := Lib.hid hb3; clear hown3 hb3 hkeep3 hblk3)
        go_roundw
        case rel =>
          refine ⟨ps' ++ [(id, p)], k + 1, g3, c3, by go_num, by omega, by simp, HO3.out, fun q => ?_, by simp; omega, HB3.out⟩
          rw [List.mem_append, HM.out q, HT.out, List.mem_append, List.mem_singleton, List.mem_singleton]
          obtain ⟨q1, q2⟩ := q
          simp only [Prod.mk.injEq]
          constructor
          · rintro ((h | ⟨h, h'⟩) | ⟨h, h'⟩)
            · exact .inl h
            · exact .inr ⟨h, .inl h'⟩
            · exact .inr ⟨h, .inr h'⟩
          · rintro (h | ⟨h, h' | h'⟩)
            · exact .inl (.inl h)
            · exact .inl (.inr ⟨h, h'⟩)
            · exact .inr ⟨h, h'⟩
        case measure => simp [intOf]; omega
    · obtain rfl : k = zs.length := by omega
      rw [List.take_length] at hmem
      have HO := Lib.hid hown
      have HM := Lib.hid hmem
      have HB := Lib.hid hb
      clear hown hmem hb
      go_wp2_with fail
      go_ret
      exact ⟨ps', go, co, rfl, HO.out, HM.out, hlen, HB.out⟩
def RDropRel (ps : List (Int × Int)) (id : Int) (w : World) (outv iv : Value) (wr : World) : Prop :=
  ∃ ps', ∃ k g c : Nat, iv = .int .i64 k ∧ k ≤ ps.length ∧ outv = .slice (some ⟨g, 0, none⟩) ps'.length c ∧ OwnG LP w.heap.size wr outv ps' ∧ (∀ q, q ∈ ps' ↔ q ∈ ps.take k ∧ q.1 ≠ id) ∧ ps'.length ≤ k ∧ Below w.heap.size w wr
set_option maxHeartbeats 3200000 in
theorem rdrop_calls (a : Option Addr) (c B : Nat) (ps : List (Int × Int)) (id : Int) (hl : ps.length ≤ 50000) (w : World) (h : OwnG LP B w (.slice a ps.length c) ps) :
    Calls Try.prog 19 #[.slice a ps.length c, .int .i64 id] w (PPost w (fun q => q ∈ ps ∧ q.1 ≠ id) ps.length) := by
  obtain ⟨i0, hi0, hzz⟩ := Option.map_eq_some_iff.1 info_pair
  simp only [Prod.mk.injEq] at hzz
  obtain ⟨hz0, hz1, hz2⟩ := hzz
  have HI := Lib.hid hi0
  have HZ := Lib.hid hz0
  have HZ1 := Lib.hid hz1
  have HZ2 := Lib.hid hz2
  have HX := Lib.hid h
  clear hi0 hz0 hz1 hz2 h
  go_enter Try.func19, Try.ntmps19
  go_wp2
  go_loopw [5, 6] (fun outv iv wr => RDropRel ps id w outv iv wr) (fun _ iv _ => ps.length - (intOf iv).toNat)
  case atStart => exact ⟨[], 0, _, _, rfl, Nat.zero_le _, rfl, OwnG.made _ _ (Nat.le_refl _), by simp, Nat.le_refl _, bl_alloc (Below.refl _ _) (Nat.le_refl _) _⟩
  case round =>
    obtain ⟨ps', k, go, co, rfl, hk, rfl, hown, hmem, hlen, hb⟩ := hrel
    have hk0 : (0 : Int) ≤ (k : Int) := Int.natCast_nonneg _
    by_cases hlt : k < ps.length
    · obtain ⟨g, rfl, hgB, hg, c0, c1⟩ := HX.out.p_cell k hlt
      have hts := take_s ps k hlt
      generalize ps[k] = p at *
      obtain ⟨q1, q2⟩ := p
      simp only at c0 c1
      have d0 : wr.cell? ⟨g, k * 2, none⟩ = some (.int .i64 q1) := (hb.cell (p := ⟨g, k * 2, none⟩) hg).trans c0
      have d1 : wr.cell? ⟨g, k * 2 + 1, none⟩ = some (.int .i64 q2) := (hb.cell (p := ⟨g, k * 2 + 1, none⟩) hg).trans c1
      have hk1 : (k : Int) < ps.length := by omega
      have hszb := hb.size
      have HO := Lib.hid hown
      have HM := Lib.hid hmem
      have HB := Lib.hid hb
      have HTS := Lib.hid hts
      clear hown hmem hb hts c0 c1
      by_cases hc : q1 = id
      · have hcb : (q1 != id) = false := by simp [hc]
        go_wp2_with fail
        go_roundw
        case rel =>
          refine ⟨ps', k + 1, go, co, by go_num, by omega, rfl, HO.out, fun q => ?_, by omega, HB.out⟩
          rw [HM.out q, HTS.out, List.mem_append, List.mem_singleton]
          constructor
          · rintro ⟨h, h'⟩
            exact ⟨.inl h, h'⟩
          · rintro ⟨h | h, h'⟩
            · exact ⟨h, h'⟩
            · subst h
              exact absurd hc h'
        case measure => simp [intOf]; omega
      · have hcb : (q1 != id) = true := by simp [bne, hc]
        go_wp2_with (at_builtin; refine list_one (L := LP) (w0 := w) (W := wr) rfl _ _ 27 rfl w.heap.size i0 _ Try.underlying27 HI.out HZ.out HZ1.out HZ2.out rfl (.slice (some ⟨go, 0, none⟩) ps'.length co) ps' (q1, q2) _ rfl rfl _ (by rfl) rfl HO.out HB.out hszb (by omega) (by decide) ?_; intro v3 w3 hown3 hb3 hz3 hkeep3 hblk3; obtain ⟨a3, c3, hv3⟩ := hown3.slice; rw [show (ps' ++ [(q1, q2)]).length = ps'.length + 1 by simp] at hv3; subst hv3; obtain ⟨g3, hg3, _⟩ := hown3.cell 0 (by simp); subst hg3; have HO3 := Lib.hid hown3; have HB3 := Lib.hid hb3; clear hown3 hb3 hkeep3 hblk3)
        go_roundw
        case rel =>
          refine ⟨ps' ++ [(q1, q2)], k + 1, g3, c3, by go_num, by omega, by simp, HO3.out, fun q => ?_, by simp; omega, HB3.out⟩
          rw [List.mem_append, HM.out q, HTS.out, List.mem_append, List.mem_singleton]
          constructor
          · rintro (⟨h, h'⟩ | h)
            · exact ⟨.inl h, h'⟩
            · subst h
              exact ⟨.inr rfl, hc⟩
          · rintro ⟨h | h, h'⟩
            · exact .inl ⟨h, h'⟩
            · exact .inr h
        case measure => simp [intOf]; omega
    · obtain rfl : k = ps.length := by omega
      rw [List.take_length] at hmem
      have HO := Lib.hid hown
      have HM := Lib.hid hmem
      have HB := Lib.hid hb
      clear hown hmem hb
      go_wp2_with fail
      go_ret
      exact ⟨ps', go, co, rfl, HO.out, HM.out, hlen, HB.out⟩
end Go.Proofs.Ytnbbhgpflanhaaa
