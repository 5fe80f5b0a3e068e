/- Walks: the reference's lists, and its pairs put and dropped. -/
import Derived.Test.YtnbbhgpflanhaaaPRefC
namespace Go.Proofs.Ytnbbhgpflanhaaa
open Go.RowKit
set_option linter.unusedVariables false
set_option linter.unusedSimpArgs false
set_option maxRecDepth 100000
theorem take_s {α : Type} (xs : List α) (k : Nat) (h : k < xs.length) : xs.take (k + 1) = xs.take k ++ [xs[k]] := List.take_succ_eq_append_getElem h
def ZRel {α : Type} (ps : List α) (sel : List α → List Int) (w : World) (outv iv : Value) (wr : World) : Prop :=
  ∃ k : Nat, iv = .int .i64 k ∧ k ≤ ps.length ∧ OwnG LZ w.heap.size wr outv (sel (ps.take k)) ∧ Below w.heap.size w wr
theorem sel_len (f : Int × Int → Bool) (h : Int × Int → Int) (ps : List (Int × Int)) : ((ps.filter f).map h).length ≤ ps.length := by
  rw [List.length_map]; exact List.length_filter_le _ _
set_option maxHeartbeats 1600000 in
theorem rof_calls (a : Option Addr) (c B : Nat) (ps : List (Int × Int)) (q : Int) (hl : ps.length ≤ 100000) (w : World) (h : OwnG LP B w (.slice a ps.length c) ps) :
    Calls Try.prog 13 #[.slice a ps.length c, .int .i64 q] w (RPost w (fun x => (x, q) ∈ ps)) := by
  obtain ⟨i0, hi0, hzz⟩ := Option.map_eq_some_iff.1 info_int
  simp only [Prod.mk.injEq] at hzz
  obtain ⟨hz0, hz1, hz2⟩ := hzz
  have HI := Lib.hid hi0
  have HZ := Lib.hid hz0
  have HZ1 := Lib.hid hz1
  have HZ2 := Lib.hid hz2
  have HX := Lib.hid h
  clear hi0 hz0 hz1 hz2 h
  go_enter Try.func13, Try.ntmps13
  go_wp2
  go_loopw [5, 6] (fun outv iv wr => ZRel ps (fun l => (l.filter (fun p : Int × Int => p.2 == q)).map (fun p : Int × Int => p.1)) w outv iv wr) (fun _ iv _ => ps.length - (intOf iv).toNat)
  case atStart => exact ⟨0, rfl, Nat.zero_le _, OwnG.made _ _ (Nat.le_refl _), bl_alloc (Below.refl _ _) (Nat.le_refl _) _⟩
  case round =>
    obtain ⟨k, rfl, hk, hown, hb⟩ := hrel
    have hk0 : (0 : Int) ≤ (k : Int) := Int.natCast_nonneg _
    by_cases hlt : k < ps.length
    · obtain ⟨g, rfl, hgB, hg, c0, c1⟩ := HX.out.p_cell k hlt
      have hts := take_s ps k hlt
      generalize ps[k] = p at *
      obtain ⟨q1, q2⟩ := p
      simp only at c0 c1
      have d0 : wr.cell? ⟨g, k * 2, none⟩ = some (.int .i64 q1) := (hb.cell (p := ⟨g, k * 2, none⟩) hg).trans c0
      have d1 : wr.cell? ⟨g, k * 2 + 1, none⟩ = some (.int .i64 q2) := (hb.cell (p := ⟨g, k * 2 + 1, none⟩) hg).trans c1
      have hll := sel_len (fun p : Int × Int => p.2 == q) (fun p : Int × Int => p.1) (ps.take k)
      have hk1 : (k : Int) < ps.length := by omega
      have hle : (ps.take k).length = k := by simp; omega
      have hszb := hb.size
      simp only at hown hll
      generalize hxs : (List.filter (fun p : Int × Int => p.2 == q) (ps.take k)).map (fun p : Int × Int => p.1) = xs at *
      obtain ⟨av, cv, hv⟩ := hown.slice
      subst hv
      have HO := Lib.hid hown
      have HB := Lib.hid hb
      have HXS := Lib.hid hxs
      have HTS := Lib.hid hts
      clear hown hb hxs hts c0 c1
      by_cases hc : q2 = q
      · subst hc
        go_wp2_with (at_builtin; refine list_one (L := LZ) (w0 := w) (W := wr) rfl _ _ 23 rfl w.heap.size i0 _ Try.underlying23 HI.out HZ.out HZ1.out HZ2.out rfl (.slice av xs.length cv) xs q1 _ rfl rfl _ (by rfl) rfl HO.out HB.out hszb (by omega) (by decide) ?_; intro v1 w2 hown2 hb2 hz2 hkeep hblk; have HO2 := Lib.hid hown2; have HB2 := Lib.hid hb2; clear hown2 hb2 hkeep hblk)
        go_roundw
        case rel =>
          refine ⟨k + 1, by go_num, by omega, ?_, HB2.out⟩
          rw [HTS.out]
          show OwnG LZ _ _ _ (List.map _ (List.filter _ (_ ++ _)))
          rw [List.filter_append, List.map_append, HXS.out]
          simpa using HO2.out
        case measure => simp [intOf]; omega
      · have hcb : (q2 == q) = false := by rw [beq_eq_false_iff_ne]; exact hc
        go_wp2_with fail
        go_roundw
        case rel =>
          refine ⟨k + 1, by go_num, by omega, ?_, HB.out⟩
          rw [HTS.out]
          show OwnG LZ _ _ _ (List.map _ (List.filter _ (_ ++ _)))
          rw [List.filter_append, List.map_append, HXS.out]
          simpa [hc] using HO.out
        case measure => simp [intOf]; omega
    · obtain rfl : k = ps.length := by omega
      rw [List.take_length] at hown
      have hll := sel_len (fun p : Int × Int => p.2 == q) (fun p : Int × Int => p.1) ps
      simp only at hown hll
      have hmem : ∀ x, x ∈ (ps.filter (fun p : Int × Int => p.2 == q)).map (fun p : Int × Int => p.1) ↔ (fun x => (x, q) ∈ ps) x := fun x => by
        rw [List.mem_map]
        constructor
        · rintro ⟨p, hp, rfl⟩
          rw [List.mem_filter] at hp
          have : p.2 = q := by simpa using hp.2
          rw [← this]; exact hp.1
        · intro hx
          exact ⟨(x, q), List.mem_filter.2 ⟨hx, by simp⟩, rfl⟩
      generalize (ps.filter (fun p : Int × Int => p.2 == q)).map (fun p : Int × Int => p.1) = xs at *
      obtain ⟨av, cv, hv⟩ := hown.slice
      subst hv
      have hrs := rsorted_calls av cv w.heap.size xs (by omega) wr hown
      have HR := Lib.hid hrs
      have HM := Lib.hid hmem
      have HB := Lib.hid hb
      clear hrs hmem hown hb hll
      go_wp2_with fail
      refine HR.out.mono ?_
      rintro e w1 ⟨v, zs, rfl, h1, h2, h3, h4⟩
      have H1 := Lib.hid h1
      have H3 := Lib.hid h3
      have H4 := Lib.hid h4
      clear h1 h3 h4
      go_wp2_with fail
      go_ret
      exact ⟨v, zs, rfl, H1.out.mono HB.out.size, h2, fun x => (H3.out x).trans (HM.out x), HB.out.trans (H4.out.mono HB.out.size)⟩
set_option maxHeartbeats 1600000 in
theorem rpages_calls (a : Option Addr) (c B : Nat) (ps : List (Int × Int)) (q : Int) (hl : ps.length ≤ 100000) (w : World) (h : OwnG LP B w (.slice a ps.length c) ps) :
    Calls Try.prog 18 #[.slice a ps.length c, .int .i64 q] w (RPost w (fun x => (q, x) ∈ ps)) := by
  obtain ⟨i0, hi0, hzz⟩ := Option.map_eq_some_iff.1 info_int
  simp only [Prod.mk.injEq] at hzz
  obtain ⟨hz0, hz1, hz2⟩ := hzz
  have HI := Lib.hid hi0
  have HZ := Lib.hid hz0
  have HZ1 := Lib.hid hz1
  have HZ2 := Lib.hid hz2
  have HX := Lib.hid h
  clear hi0 hz0 hz1 hz2 h
  go_enter Try.func18, Try.ntmps18
  go_wp2
  go_loopw [5, 6] (fun outv iv wr => ZRel ps (fun l => (l.filter (fun p : Int × Int => p.1 == q)).map (fun p : Int × Int => p.2)) w outv iv wr) (fun _ iv _ => ps.length - (intOf iv).toNat)
  case atStart => exact ⟨0, rfl, Nat.zero_le _, OwnG.made _ _ (Nat.le_refl _), bl_alloc (Below.refl _ _) (Nat.le_refl _) _⟩
  case round =>
    obtain ⟨k, rfl, hk, hown, hb⟩ := hrel
    have hk0 : (0 : Int) ≤ (k : Int) := Int.natCast_nonneg _
    by_cases hlt : k < ps.length
    · obtain ⟨g, rfl, hgB, hg, c0, c1⟩ := HX.out.p_cell k hlt
      have hts := take_s ps k hlt
      generalize ps[k] = p at *
      obtain ⟨q1, q2⟩ := p
      simp only at c0 c1
      have d0 : wr.cell? ⟨g, k * 2, none⟩ = some (.int .i64 q1) := (hb.cell (p := ⟨g, k * 2, none⟩) hg).trans c0
      have d1 : wr.cell? ⟨g, k * 2 + 1, none⟩ = some (.int .i64 q2) := (hb.cell (p := ⟨g, k * 2 + 1, none⟩) hg).trans c1
      have hll := sel_len (fun p : Int × Int => p.1 == q) (fun p : Int × Int => p.2) (ps.take k)
      have hk1 : (k : Int) < ps.length := by omega
      have hle : (ps.take k).length = k := by simp; omega
      have hszb := hb.size
      simp only at hown hll
      generalize hxs : (List.filter (fun p : Int × Int => p.1 == q) (ps.take k)).map (fun p : Int × Int => p.2) = xs at *
      obtain ⟨av, cv, hv⟩ := hown.slice
      subst hv
      have HO := Lib.hid hown
      have HB := Lib.hid hb
      have HXS := Lib.hid hxs
      have HTS := Lib.hid hts
      clear hown hb hxs hts c0 c1
      by_cases hc : q1 = q
      · subst hc
        go_wp2_with (at_builtin; refine list_one (L := LZ) (w0 := w) (W := wr) rfl _ _ 23 rfl w.heap.size i0 _ Try.underlying23 HI.out HZ.out HZ1.out HZ2.out rfl (.slice av xs.length cv) xs q2 _ rfl rfl _ (by rfl) rfl HO.out HB.out hszb (by omega) (by decide) ?_; intro v1 w2 hown2 hb2 hz2 hkeep hblk; have HO2 := Lib.hid hown2; have HB2 := Lib.hid hb2; clear hown2 hb2 hkeep hblk)
        go_roundw
        case rel =>
          refine ⟨k + 1, by go_num, by omega, ?_, HB2.out⟩
          rw [HTS.out]
          show OwnG LZ _ _ _ (List.map _ (List.filter _ (_ ++ _)))
          rw [List.filter_append, List.map_append, HXS.out]
          simpa using HO2.out
        case measure => simp [intOf]; omega
      · have hcb : (q1 == q) = false := by rw [beq_eq_false_iff_ne]; exact hc
        go_wp2_with fail
        go_roundw
        case rel =>
          refine ⟨k + 1, by go_num, by omega, ?_, HB.out⟩
          rw [HTS.out]
          show OwnG LZ _ _ _ (List.map _ (List.filter _ (_ ++ _)))
          rw [List.filter_append, List.map_append, HXS.out]
          simpa [hc] using HO.out
        case measure => simp [intOf]; omega
    · obtain rfl : k = ps.length := by omega
      rw [List.take_length] at hown
      have hll := sel_len (fun p : Int × Int => p.1 == q) (fun p : Int × Int => p.2) ps
      simp only at hown hll
      have hmem : ∀ x, x ∈ (ps.filter (fun p : Int × Int => p.1 == q)).map (fun p : Int × Int => p.2) ↔ (fun x => (q, x) ∈ ps) x := fun x => by
        rw [List.mem_map]
        constructor
        · rintro ⟨p, hp, rfl⟩
          rw [List.mem_filter] at hp
          have : p.1 = q := by simpa using hp.2
          rw [← this]; exact hp.1
        · intro hx
          exact ⟨(q, x), List.mem_filter.2 ⟨hx, by simp⟩, rfl⟩
      generalize (ps.filter (fun p : Int × Int => p.1 == q)).map (fun p : Int × Int => p.2) = xs at *
      obtain ⟨av, cv, hv⟩ := hown.slice
      subst hv
      have hrs := rsorted_calls av cv w.heap.size xs (by omega) wr hown
      have HR := Lib.hid hrs
      have HM := Lib.hid hmem
      have HB := Lib.hid hb
      clear hrs hmem hown hb hll
      go_wp2_with fail
      refine HR.out.mono ?_
      rintro e w1 ⟨v, zs, rfl, h1, h2, h3, h4⟩
      have H1 := Lib.hid h1
      have H3 := Lib.hid h3
      have H4 := Lib.hid h4
      clear h1 h3 h4
      go_wp2_with fail
      go_ret
      exact ⟨v, zs, rfl, H1.out.mono HB.out.size, h2, fun x => (H3.out x).trans (HM.out x), HB.out.trans (H4.out.mono HB.out.size)⟩
set_option maxHeartbeats 1600000 in
theorem rall_calls (a : Option Addr) (c B : Nat) (ps : List (Int × Int)) (hl : ps.length ≤ 100000) (w : World) (h : OwnG LP B w (.slice a ps.length c) ps) :
    Calls Try.prog 15 #[.slice a ps.length c] w (RPost w (fun p => ∃ id, (id, p) ∈ ps)) := by
  obtain ⟨i0, hi0, hzz⟩ := Option.map_eq_some_iff.1 info_int
  simp only [Prod.mk.injEq] at hzz
  obtain ⟨hz0, hz1, hz2⟩ := hzz
  have HI := Lib.hid hi0
  have HZ := Lib.hid hz0
  have HZ1 := Lib.hid hz1
  have HZ2 := Lib.hid hz2
  have HX := Lib.hid h
  clear hi0 hz0 hz1 hz2 h
  go_enter Try.func15, Try.ntmps15
  go_wp2
  go_loopw [3, 4] (fun outv iv wr => ZRel ps (fun l => (l.filter (fun _ => true)).map (fun p : Int × Int => p.2)) w outv iv wr) (fun _ iv _ => ps.length - (intOf iv).toNat)
  case atStart => exact ⟨0, rfl, Nat.zero_le _, OwnG.made _ _ (Nat.le_refl _), bl_alloc (Below.refl _ _) (Nat.le_refl _) _⟩
  case round =>
    obtain ⟨k, rfl, hk, hown, hb⟩ := hrel
    have hk0 : (0 : Int) ≤ (k : Int) := Int.natCast_nonneg _
    by_cases hlt : k < ps.length
    · obtain ⟨g, rfl, hgB, hg, c0, c1⟩ := HX.out.p_cell k hlt
      have hts := take_s ps k hlt
      generalize ps[k] = p at *
      obtain ⟨q1, q2⟩ := p
      simp only at c0 c1
      have d0 : wr.cell? ⟨g, k * 2, none⟩ = some (.int .i64 q1) := (hb.cell (p := ⟨g, k * 2, none⟩) hg).trans c0
      have d1 : wr.cell? ⟨g, k * 2 + 1, none⟩ = some (.int .i64 q2) := (hb.cell (p := ⟨g, k * 2 + 1, none⟩) hg).trans c1
      have hll := sel_len (fun _ => true) (fun p : Int × Int => p.2) (ps.take k)
      have hk1 : (k : Int) < ps.length := by omega
      have hle : (ps.take k).length = k := by simp; omega
      have hszb := hb.size
      simp only at hown hll
      generalize hxs : (List.filter (fun _ => true) (ps.take k)).map (fun p : Int × Int => p.2) = xs at *
      obtain ⟨av, cv, hv⟩ := hown.slice
      subst hv
      have HO := Lib.hid hown
      have HB := Lib.hid hb
      have HXS := Lib.hid hxs
      have HTS := Lib.hid hts
      clear hown hb hxs hts c0 c1
      go_wp2_with (at_builtin; refine list_one (L := LZ) (w0 := w) (W := wr) rfl _ _ 23 rfl w.heap.size i0 _ Try.underlying23 HI.out HZ.out HZ1.out HZ2.out rfl (.slice av xs.length cv) xs q2 _ rfl rfl _ (by rfl) rfl HO.out HB.out hszb (by omega) (by decide) ?_; intro v1 w2 hown2 hb2 hz2 hkeep hblk; have HO2 := Lib.hid hown2; have HB2 := Lib.hid hb2; clear hown2 hb2 hkeep hblk)
      go_roundw
      case rel =>
        refine ⟨k + 1, by go_num, by omega, ?_, HB2.out⟩
        rw [HTS.out]
        show OwnG LZ _ _ _ (List.map _ (List.filter _ (_ ++ _)))
        rw [List.filter_append, List.map_append, HXS.out]
        simpa using HO2.out
      case measure => simp [intOf]; omega
    · obtain rfl : k = ps.length := by omega
      rw [List.take_length] at hown
      have hll := sel_len (fun _ => true) (fun p : Int × Int => p.2) ps
      simp only at hown hll
      have hmem : ∀ x, x ∈ (ps.filter (fun _ => true)).map (fun p : Int × Int => p.2) ↔ (fun p => ∃ id, (id, p) ∈ ps) x := fun x => by
        rw [List.mem_map]
        constructor
        · rintro ⟨p, hp, rfl⟩
          exact ⟨p.1, (List.mem_filter.1 hp).1⟩
        · rintro ⟨id, hx⟩
          exact ⟨(id, x), List.mem_filter.2 ⟨hx, rfl⟩, rfl⟩
      generalize (ps.filter (fun _ => true)).map (fun p : Int × Int => p.2) = xs at *
      obtain ⟨av, cv, hv⟩ := hown.slice
      subst hv
      have hrs := rsorted_calls av cv w.heap.size xs (by omega) wr hown
      have HR := Lib.hid hrs
      have HM := Lib.hid hmem
      have HB := Lib.hid hb
      clear hrs hmem hown hb hll
      go_wp2_with fail
      refine HR.out.mono ?_
      rintro e w1 ⟨v, zs, rfl, h1, h2, h3, h4⟩
      have H1 := Lib.hid h1
      have H3 := Lib.hid h3
      have H4 := Lib.hid h4
      clear h1 h3 h4
      go_wp2_with fail
      go_ret
      exact ⟨v, zs, rfl, H1.out.mono HB.out.size, h2, fun x => (H3.out x).trans (HM.out x), HB.out.trans (H4.out.mono HB.out.size)⟩
set_option maxHeartbeats 1600000 in
theorem rids_calls (a : Option Addr) (c B : Nat) (ps : List (Int × Int)) (hl : ps.length ≤ 100000) (w : World) (h : OwnG LP B w (.slice a ps.length c) ps) :
    Calls Try.prog 17 #[.slice a ps.length c] w (RPost w (fun id => ∃ p, (id, p) ∈ ps)) := by
  obtain ⟨i0, hi0, hzz⟩ := Option.map_eq_some_iff.1 info_int
  simp only [Prod.mk.injEq] at hzz
  obtain ⟨hz0, hz1, hz2⟩ := hzz
  have HI := Lib.hid hi0
  have HZ := Lib.hid hz0
  have HZ1 := Lib.hid hz1
  have HZ2 := Lib.hid hz2
  have HX := Lib.hid h
  clear hi0 hz0 hz1 hz2 h
  go_enter Try.func17, Try.ntmps17
  go_wp2
  go_loopw [3, 4] (fun outv iv wr => ZRel ps (fun l => (l.filter (fun _ => true)).map (fun p : Int × Int => p.1)) w outv iv wr) (fun _ iv _ => ps.length - (intOf iv).toNat)
  case atStart => exact ⟨0, rfl, Nat.zero_le _, OwnG.made _ _ (Nat.le_refl _), bl_alloc (Below.refl _ _) (Nat.le_refl _) _⟩
  case round =>
    obtain ⟨k, rfl, hk, hown, hb⟩ := hrel
    have hk0 : (0 : Int) ≤ (k : Int) := Int.natCast_nonneg _
    by_cases hlt : k < ps.length
    · obtain ⟨g, rfl, hgB, hg, c0, c1⟩ := HX.out.p_cell k hlt
      have hts := take_s ps k hlt
      generalize ps[k] = p at *
      obtain ⟨q1, q2⟩ := p
      simp only at c0 c1
      have d0 : wr.cell? ⟨g, k * 2, none⟩ = some (.int .i64 q1) := (hb.cell (p := ⟨g, k * 2, none⟩) hg).trans c0
      have d1 : wr.cell? ⟨g, k * 2 + 1, none⟩ = some (.int .i64 q2) := (hb.cell (p := ⟨g, k * 2 + 1, none⟩) hg).trans c1
      have hll := sel_len (fun _ => true) (fun p : Int × Int => p.1) (ps.take k)
      have hk1 : (k : Int) < ps.length := by omega
      have hle : (ps.take k).length = k := by simp; omega
      have hszb := hb.size
      simp only at hown hll
      generalize hxs : (List.filter (fun _ => true) (ps.take k)).map (fun p : Int × Int => p.1) = xs at *
      obtain ⟨av, cv, hv⟩ := hown.slice
      subst hv
      have HO := Lib.hid hown
      have HB := Lib.hid hb
      have HXS := Lib.hid hxs
      have HTS := Lib.hid hts
      clear hown hb hxs hts c0 c1
      go_wp2_with (at_builtin; refine list_one (L := LZ) (w0 := w) (W := wr) rfl _ _ 23 rfl w.heap.size i0 _ Try.underlying23 HI.out HZ.out HZ1.out HZ2.out rfl (.slice av xs.length cv) xs q1 _ rfl rfl _ (by rfl) rfl HO.out HB.out hszb (by omega) (by decide) ?_; intro v1 w2 hown2 hb2 hz2 hkeep hblk; have HO2 := Lib.hid hown2; have HB2 := Lib.hid hb2; clear hown2 hb2 hkeep hblk)
      go_roundw
      case rel =>
        refine ⟨k + 1, by go_num, by omega, ?_, HB2.out⟩
        rw [HTS.out]
        show OwnG LZ _ _ _ (List.map _ (List.filter _ (_ ++ _)))
        rw [List.filter_append, List.map_append, HXS.out]
        simpa using HO2.out
      case measure => simp [intOf]; omega
    · obtain rfl : k = ps.length := by omega
      rw [List.take_length] at hown
      have hll := sel_len (fun _ => true) (fun p : Int × Int => p.1) ps
      simp only at hown hll
      have hmem : ∀ x, x ∈ (ps.filter (fun _ => true)).map (fun p : Int × Int => p.1) ↔ (fun id => ∃ p, (id, p) ∈ ps) x := fun x => by
        rw [List.mem_map]
        constructor
        · rintro ⟨p, hp, rfl⟩
          exact ⟨p.2, (List.mem_filter.1 hp).1⟩
        · rintro ⟨id, hx⟩
          exact ⟨(x, id), List.mem_filter.2 ⟨hx, rfl⟩, rfl⟩
      generalize (ps.filter (fun _ => true)).map (fun p : Int × Int => p.1) = xs at *
      obtain ⟨av, cv, hv⟩ := hown.slice
      subst hv
      have hrs := rsorted_calls av cv w.heap.size xs (by omega) wr hown
      have HR := Lib.hid hrs
      have HM := Lib.hid hmem
      have HB := Lib.hid hb
      clear hrs hmem hown hb hll
      go_wp2_with fail
      refine HR.out.mono ?_
      rintro e w1 ⟨v, zs, rfl, h1, h2, h3, h4⟩
      have H1 := Lib.hid h1
      have H3 := Lib.hid h3
      have H4 := Lib.hid h4
      clear h1 h3 h4
      go_wp2_with fail
      go_ret
      exact ⟨v, zs, rfl, H1.out.mono HB.out.size, h2, fun x => (H3.out x).trans (HM.out x), HB.out.trans (H4.out.mono HB.out.size)⟩
end Go.Proofs.Ytnbbhgpflanhaaa
