/- Walks: which blocks are hit, by the index and by the statement. -/
import Derived.Test.YtnbbhgpflanhaaaPDrop
namespace Go.Proofs.Ytnbbhgpflanhaaa
open Go.RowKit Go.Shelf
set_option linter.unusedVariables false
set_option linter.unusedSimpArgs false
set_option maxRecDepth 100000
/-- bools that came in -/
def BoolsIn (w : World) (v : Value) (bs : List Bool) : Prop :=
  (∃ a c, v = .slice a bs.length c) ∧ (bs = [] ∨ ∃ g o c, v = .slice (some ⟨g, o, none⟩) bs.length c ∧ g < w.heap.size ∧ ∀ i, i < bs.length → w.cell? ⟨g, o + i, none⟩ = some (.bool (bs.getD i false)))
theorem BoolsIn.below {w w' : World} {v : Value} {bs : List Bool} (h : BoolsIn w v bs) (hb : Below w.heap.size w w') : BoolsIn w' v bs := by
  refine ⟨h.1, ?_⟩
  rcases h.2 with h2 | ⟨g, o, c, hv, hl, hc⟩
  · exact .inl h2
  · exact .inr ⟨g, o, c, hv, by have := hb.size; omega, fun i hi => (hb.cell (p := ⟨g, o + i, none⟩) hl).trans (hc i hi)⟩
theorem BoolsIn.cell {w : World} {a : Option Addr} {n c : Nat} {bs : List Bool} (h : BoolsIn w (.slice a n c) bs) (k : Nat) (hk : k < bs.length) : ∃ g o, a = some ⟨g, o, none⟩ ∧ g < w.heap.size ∧ w.cell? ⟨g, o + k, none⟩ = some (.bool (bs.getD k false)) := by
  obtain ⟨g, o, c', hv, hl, hc⟩ := h.2.resolve_left (fun e => by rw [e] at hk; simp at hk)
  simp only [Value.slice.injEq] at hv
  exact ⟨g, o, hv.1, hl, hc k hk⟩
/-- is a page watched? -/
def watS (bs : List Bool) (p : Int) : Bool := decide (0 ≤ p) && decide (p < bs.length) && bs.getD p.toNat false
def HitRel (ps : List (Int × Int)) (bs : List Bool) (w : World) (outv iv : Value) (wr : World) : Prop :=
  ∃ k : Nat, iv = .int .i64 k ∧ k ≤ ps.length ∧ OwnG LZ w.heap.size wr outv (((ps.take k).filter fun p => !watS bs p.2).map fun p => p.1) ∧ Below w.heap.size w wr
set_option maxHeartbeats 3200000 in
theorem rhit_calls (a : Option Addr) (c B : Nat) (ps : List (Int × Int)) (ab : Option Addr) (cb : Nat) (bs : List Bool) (hl : ps.length ≤ 100000) (hbl : bs.length ≤ 100000) (w : World) (h : OwnG LP B w (.slice a ps.length c) ps) (hb0 : BoolsIn w (.slice ab bs.length cb) bs) :
    Calls Try.prog 21 #[.slice a ps.length c, .slice ab bs.length cb] w (RPost w (fun x => ∃ p, (x, p) ∈ ps ∧ watS bs p = false)) := by
  obtain ⟨i0, hi0, hzz⟩ := Option.map_eq_some_iff.1 info_int
  simp only [Prod.mk.injEq] at hzz
  obtain ⟨hz0, hz1, hz2⟩ := hzz
  have HI := Lib.hid hi0
  have HZ := Lib.hid hz0
  have HZ1 := Lib.hid hz1
  have HZ2 := Lib.hid hz2
  have HX := Lib.hid h
  have HBS := Lib.hid hb0
  clear hi0 hz0 hz1 hz2 h hb0
  go_enter Try.func21, Try.ntmps21
  go_wp2
  go_loopw [5, 6] (fun outv iv wr => HitRel ps bs w outv iv wr) (fun _ iv _ => ps.length - (intOf iv).toNat)
  case atStart => exact ⟨0, rfl, Nat.zero_le _, OwnG.made _ _ (Nat.le_refl _), bl_alloc (Below.refl _ _) (Nat.le_refl _) _⟩
  case round =>
    obtain ⟨k, rfl, hk, hown, hb⟩ := hrel
    have hk0 : (0 : Int) ≤ (k : Int) := Int.natCast_nonneg _
    by_cases hlt : k < ps.length
    · obtain ⟨g, rfl, hgB, hg, c0, c1⟩ := HX.out.p_cell k hlt
      have hts := take_s ps k hlt
      generalize ps[k] = p at *
      obtain ⟨q1, q2⟩ := p
      simp only at c0 c1
      have d0 : wr.cell? ⟨g, k * 2, none⟩ = some (.int .i64 q1) := (hb.cell (p := ⟨g, k * 2, none⟩) hg).trans c0
      have d1 : wr.cell? ⟨g, k * 2 + 1, none⟩ = some (.int .i64 q2) := (hb.cell (p := ⟨g, k * 2 + 1, none⟩) hg).trans c1
      have hll := sel_len (fun p => !watS bs p.2) (fun p : Int × Int => p.1) (ps.take k)
      have hk1 : (k : Int) < ps.length := by omega
      have hle : (ps.take k).length = k := by simp; omega
      have hszb := hb.size
      generalize hxs : ((ps.take k).filter fun p => !watS bs p.2).map (fun p => p.1) = xs at *
      obtain ⟨av, cv, hv⟩ := hown.slice
      subst hv
      have hbsr := HBS.out.below hb
      have HO := Lib.hid hown
      have HB := Lib.hid hb
      have HXS := Lib.hid hxs
      have HTS := Lib.hid hts
      have HBR := Lib.hid hbsr
      clear hown hb hxs hts c0 c1 hbsr
      have hgo : watS bs q2 = false → HitRel ps bs w (.slice av xs.length cv) (.int .i64 k) wr → ∀ v1 w2, OwnG LZ w.heap.size w2 v1 (xs ++ [q1]) → Below w.heap.size w w2 → HitRel ps bs w v1 (.int .i64 ((k : Int) + 1)) w2 := fun hw _ v1 w2 h1 h2 => by
        refine ⟨k + 1, by go_num, by omega, ?_, h2⟩
        rw [HTS.out, List.filter_append, List.map_append, HXS.out]
        simpa [hw] using h1
      have hskip : watS bs q2 = true → HitRel ps bs w (.slice av xs.length cv) (.int .i64 ((k : Int) + 1)) wr := fun hw => by
        refine ⟨k + 1, by go_num, by omega, ?_, HB.out⟩
        rw [HTS.out, List.filter_append, List.map_append, HXS.out]
        simpa [hw] using HO.out
      have HGO := Lib.hid hgo
      have HSK := Lib.hid hskip
      clear hgo hskip
      have hrel0 : HitRel ps bs w (.slice av xs.length cv) (.int .i64 k) wr := ⟨k, rfl, hk, by rw [HXS.out]; exact HO.out, HB.out⟩
      have HREL := Lib.hid hrel0
      clear hrel0
      by_cases h0 : q2 < 0
      · have hw : watS bs q2 = false := by simp [watS]; omega
        go_wp2_with (at_builtin; refine list_one (L := LZ) (w0 := w) (W := wr) rfl _ _ 23 rfl w.heap.size i0 _ Try.underlying23 HI.out HZ.out HZ1.out HZ2.out rfl (.slice av xs.length cv) xs q1 _ rfl rfl _ (by rfl) rfl HO.out HB.out hszb (by omega) (by decide) ?_; intro v1 w2 hown2 hb2 hz2 hkeep hblk; have HO2 := Lib.hid hown2; have HB2 := Lib.hid hb2; clear hown2 hb2 hkeep hblk)
        go_roundw
        case rel => exact HGO.out hw HREL.out v1 w2 HO2.out HB2.out
        case measure => simp [intOf]; omega
      · by_cases h1 : q2 < bs.length
        · obtain ⟨m, rfl⟩ : ∃ m : Nat, q2 = m := ⟨q2.toNat, by omega⟩
          obtain ⟨gb, ob, rfl, hgb, cb0⟩ := HBR.out.cell m (by omega)
          have hm0 : (0 : Int) ≤ (m : Int) := Int.natCast_nonneg _
          have h2 : ¬ (bs.length : Int) ≤ m := by omega
          have h2' : decide (bs.length ≤ m) = false := decide_eq_false (by omega)
          have hww : watS bs m = bs.getD m false := by simp [watS]; omega
          cases hv : bs.getD m false
          · rw [hv] at cb0
            have hw : watS bs m = false := by rw [hww, hv]
            have HW := Lib.hid hw
            clear hww hv hw
            go_wp2_with (at_builtin; refine list_one (L := LZ) (w0 := w) (W := wr) rfl _ _ 23 rfl w.heap.size i0 _ Try.underlying23 HI.out HZ.out HZ1.out HZ2.out rfl (.slice av xs.length cv) xs q1 _ rfl rfl _ (by rfl) rfl HO.out HB.out hszb (by omega) (by decide) ?_; intro v1 w2 hown2 hb2 hz2 hkeep hblk; have HO2 := Lib.hid hown2; have HB2 := Lib.hid hb2; clear hown2 hb2 hkeep hblk)
            go_roundw
            case rel => exact HGO.out HW.out HREL.out v1 w2 HO2.out HB2.out
            case measure => simp [intOf]; omega
          · rw [hv] at cb0
            have hw : watS bs m = true := by rw [hww, hv]
            have HW := Lib.hid hw
            clear hww hv hw
            go_wp2_with fail
            go_roundw
            case rel => exact HSK.out HW.out
            case measure => simp [intOf]; omega
        · have hw : watS bs q2 = false := by simp [watS]; omega
          have h2 : (bs.length : Int) ≤ q2 := by omega
          go_wp2_with (at_builtin; refine list_one (L := LZ) (w0 := w) (W := wr) rfl _ _ 23 rfl w.heap.size i0 _ Try.underlying23 HI.out HZ.out HZ1.out HZ2.out rfl (.slice av xs.length cv) xs q1 _ rfl rfl _ (by rfl) rfl HO.out HB.out hszb (by omega) (by decide) ?_; intro v1 w2 hown2 hb2 hz2 hkeep hblk; have HO2 := Lib.hid hown2; have HB2 := Lib.hid hb2; clear hown2 hb2 hkeep hblk)
          go_roundw
          case rel => exact HGO.out hw HREL.out v1 w2 HO2.out HB2.out
          case measure => simp [intOf]; omega
    · obtain rfl : k = ps.length := by omega
      rw [List.take_length] at hown
      have hll := sel_len (fun p => !watS bs p.2) (fun p : Int × Int => p.1) ps
      have hmem : ∀ x, x ∈ (ps.filter fun p => !watS bs p.2).map (fun p => p.1) ↔ ∃ p, (x, p) ∈ ps ∧ watS bs p = false := fun x => by
        rw [List.mem_map]
        constructor
        · rintro ⟨p, hp, rfl⟩
          rw [List.mem_filter] at hp
          exact ⟨p.2, hp.1, by simpa using hp.2⟩
        · rintro ⟨p, hx, hw⟩
          exact ⟨(x, p), List.mem_filter.2 ⟨hx, by simp [hw]⟩, rfl⟩
      generalize (ps.filter fun p => !watS bs p.2).map (fun p => p.1) = xs at *
      obtain ⟨av, cv, hv⟩ := hown.slice
      subst hv
      have hrs := rsorted_calls av cv w.heap.size xs (by omega) wr hown
      have HR := Lib.hid hrs
      have HM := Lib.hid hmem
      have HB := Lib.hid hb
      clear hrs hmem hown hb hll
      go_wp2_with fail
      refine HR.out.mono ?_
      rintro e w1 ⟨v, zs, rfl, h1, h2, h3, h4⟩
      have H1 := Lib.hid h1
      have H3 := Lib.hid h3
      have H4 := Lib.hid h4
      clear h1 h3 h4
      go_wp2_with fail
      go_ret
      exact ⟨v, zs, rfl, H1.out.mono HB.out.size, h2, fun x => (H3.out x).trans (HM.out x), HB.out.trans (H4.out.mono HB.out.size)⟩
end Go.Proofs.Ytnbbhgpflanhaaa
