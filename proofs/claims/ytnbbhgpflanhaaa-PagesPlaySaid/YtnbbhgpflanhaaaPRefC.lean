/- Walks: the reference's sorting. -/
import Derived.Test.YtnbbhgpflanhaaaPRefA
import Derived.Deep.RegionHeld3
namespace Go.Proofs.Ytnbbhgpflanhaaa
open Go.RowKit
set_option linter.unusedVariables false
set_option linter.unusedSimpArgs false
set_option maxRecDepth 100000
theorem ins_rise {A C : List Int} {x : Int} (h : Rise (A ++ C)) (ha : ∀ a ∈ A, a < x) (hc : ∀ c ∈ C, x < c) : Rise (A ++ [x] ++ C) := by
  unfold Rise at *
  rw [List.pairwise_append] at h
  rw [List.append_assoc, List.pairwise_append]
  refine ⟨h.1, ?_, fun a ha' b hb => ?_⟩
  · rw [List.singleton_append, List.pairwise_cons]
    exact ⟨hc, h.2.1⟩
  · rw [List.singleton_append, List.mem_cons] at hb
    rcases hb with rfl | hb
    · exact ha a ha'
    · exact h.2.2 a ha' b hb
theorem drop_gt {out : List Int} {k : Nat} {x : Int} (h : Rise out) (hk : k < out.length) (hx : x < out.getD k 0) : ∀ c ∈ out.drop k, x < c := by
  intro c hc
  rw [List.drop_eq_getElem_cons hk] at hc
  have he : out.getD k 0 = out[k] := by simp [List.getD_eq_getElem?_getD, hk]
  rw [he] at hx
  rcases List.mem_cons.1 hc with rfl | hc
  · exact hx
  · have h' : (out.drop k).Pairwise (· < ·) := List.Pairwise.sublist (List.drop_sublist k out) h
    rw [List.drop_eq_getElem_cons hk, List.pairwise_cons] at h'
    have := h'.1 c hc
    omega
theorem take_lt {out : List Int} {k : Nat} {x : Int} (h : ∀ a ∈ out.take k, a < x) (hk : k < out.length) (hx : out.getD k 0 < x) : ∀ a ∈ out.take (k + 1), a < x := by
  intro a ha
  have he : out.getD k 0 = out[k] := by simp [List.getD_eq_getElem?_getD, hk]
  rw [List.take_succ_eq_append_getElem hk] at ha
  rcases List.mem_append.1 ha with h' | h'
  · exact h a h'
  · simp at h'; rw [h', ← he]; exact hx
theorem run_from (g n c k : Nat) (hk : k ≤ n) (hn : n ≤ c) : ∃ ad, (∀ W, (Instr.slice 23 (.slice (some ⟨g, 0, none⟩) n c) (some (.int .i64 (k : Int))) none none).run Try.prog W = .ok (.slice (some ad) (n - k) (c - k)) W) ∧ (k < n → ad = ⟨g, k, none⟩) := by
  have hs : ∀ W, (sizeOf 3).run Try.prog W = .ok 1 W := fun W => by kernel_rfl
  by_cases hc : c = k
  · refine ⟨⟨g, 0, none⟩, fun W => ?_, fun h => by omega⟩
    rw [run_slice_l (t := 23) (ht := Try.underlying23) (h0 := by omega) (h1 := by omega)]
    rw [show Try.prog.elem 23 = 3 by kernel_rfl, hs]
    simp [Result.andThen, sliced, hc]
  · refine ⟨⟨g, k, none⟩, fun W => ?_, fun _ => rfl⟩
    rw [run_slice_l (t := 23) (ht := Try.underlying23) (h0 := by omega) (h1 := by omega)]
    rw [show Try.prog.elem 23 = 3 by kernel_rfl, hs]
    simp [Result.andThen, sliced, hc, at_add]
/-- what an insertion's appends ask -/
structure InsFacts (wo : World) (out : List Int) (x : Int) (k go : Nat) (ad : Addr) : Prop where
  len1 : (out.take k).length = k
  len3 : (out.drop k).length = out.length - k
  max1 : ([] : List Int).length + (out.take k).length ≤ maxLen
  byt1 : (([] : List Int).length + (out.take k).length) * LZ.by_ ≤ 140737488355328
  max2 : (out.take k).length + [x].length ≤ maxLen
  byt2 : ((out.take k).length + [x].length) * LZ.by_ ≤ 140737488355328
  max3 : (out.take k ++ [x]).length + (out.drop k).length ≤ maxLen
  byt3 : ((out.take k ++ [x]).length + (out.drop k).length) * LZ.by_ ≤ 140737488355328
  bl1 : ∀ n, Below wo.heap.size wo ((wo.alloc (.cells #[] 3)).drewN n)
  bl2 : ∀ n, Below wo.heap.size wo (((wo.alloc (.cells #[] 3)).alloc (.cells #[.int .i64 x] 3)).drewN n)
  bl3 : ∀ n, Below wo.heap.size wo (((wo.alloc (.cells #[.int .i64 x] 3)).alloc (.cells #[] 3)).drewN n)
  own1 : ∀ n, OwnG LZ wo.heap.size ((wo.alloc (.cells #[] 3)).drewN n) (.slice (some ⟨wo.heap.size, 0, none⟩) 0 0) []
  own2 : ∀ n, OwnG LZ wo.heap.size (((wo.alloc (.cells #[] 3)).alloc (.cells #[.int .i64 x] 3)).drewN n) (.slice (some ⟨wo.heap.size, 0, none⟩) 0 0) []
  own3 : ∀ n, OwnG LZ wo.heap.size (((wo.alloc (.cells #[.int .i64 x] 3)).alloc (.cells #[] 3)).drewN n) (.slice (some ⟨wo.heap.size + 1, 0, none⟩) 0 0) []
  cell2 : ∀ n w1 c, World.grownBy (((wo.alloc (.cells #[] 3)).alloc (.cells #[.int .i64 x] 3)).drewN n) w1 (Value.slice (some ⟨wo.heap.size, 0, none⟩) 0 c).ownBlock → ∀ j u, ([x].flatMap LZ.f)[j]? = some u → w1.cell? ((⟨wo.heap.size + 1, 0, none⟩ : Addr).add j) = some u
  cell3 : ∀ n w1 c, World.grownBy (((wo.alloc (.cells #[.int .i64 x] 3)).alloc (.cells #[] 3)).drewN n) w1 (Value.slice (some ⟨wo.heap.size + 1, 0, none⟩) 0 c).ownBlock → ∀ j u, ([x].flatMap LZ.f)[j]? = some u → w1.cell? ((⟨wo.heap.size, 0, none⟩ : Addr).add j) = some u
  news1 : ∀ W, Below wo.heap.size wo W → ∀ j u, ((out.take k).flatMap LZ.f)[j]? = some u → W.cell? ((⟨go, 0, none⟩ : Addr).add j) = some u
  news3 : ∀ W, Below wo.heap.size wo W → ∀ j u, ((out.drop k).flatMap LZ.f)[j]? = some u → W.cell? (ad.add j) = some u
theorem one_news (g : Nat) (x : Int) {W : World} (h : W.heap[g]? = some (.cells #[.int .i64 x] 3 (0, 0))) : ∀ j u, ([x].flatMap LZ.f)[j]? = some u → W.cell? ((⟨g, 0, none⟩ : Addr).add j) = some u :=
  fun j u hu => World.news_of_block h j u (by rw [flat_z] at hu; exact hu)
theorem ins_facts (wo w : World) (i0 : TypeInfo) (B : Nat) (hB : B ≤ wo.heap.size) (go co : Nat) (out : List Int) (ho : OwnG LZ B wo (.slice (some ⟨go, 0, none⟩) out.length co) out) (x : Int) (k : Nat) (hk : k ≤ out.length) (hl : out.length ≤ 100000) (ad : Addr) (had : k < out.length → ad = ⟨go, k, none⟩) :
    InsFacts wo out x k go ad := by
  have h1 : (out.take k).length = k := by simp; omega
  have h3 : (out.drop k).length = out.length - k := by simp
  have hby : LZ.by_ = 8 := rfl
  have e1 : Below wo.heap.size wo (wo.alloc (.cells #[] 3)) := bl_alloc (Below.refl _ _) (Nat.le_refl _) _
  have e2 : Below wo.heap.size wo (wo.alloc (.cells #[.int .i64 x] 3)) := bl_alloc (Below.refl _ _) (Nat.le_refl _) _
  have hcell : ∀ W, Below wo.heap.size wo W → ∀ m, m < out.length → W.cell? ⟨go, m, none⟩ = some (.int .i64 (out.getD m 0)) := fun W hW m hm => by
    obtain ⟨g', hg', _, hgl, hc⟩ := ho.z_cell m hm
    simp only [Option.some.injEq, Addr.mk.injEq, and_true] at hg'
    subst hg'
    exact (hW.cell (p := ⟨go, m, none⟩) hgl).trans hc
  refine ⟨h1, h3, by simp only [maxLen]; simp; omega, by rw [hby]; simp; omega, by simp only [maxLen]; simp; omega, by rw [hby]; simp; omega, by simp only [maxLen]; simp; omega, by rw [hby]; simp; omega, fun n => bl_drewN e1 n, fun n => bl_drewN (bl_alloc e1 (by simp) _) n, fun n => bl_drewN (bl_alloc e2 (by simp) _) n,
    fun n => OwnG.empty (L := LZ) _ _ _ (heap_alloc_new wo _) (Nat.le_refl _), fun n => OwnG.empty (L := LZ) _ _ _ ((Below.heap_alloc (wo.alloc (.cells #[] 3)) _ _ (by simp)).trans (heap_alloc_new wo _)) (Nat.le_refl _), fun n => OwnG.empty (L := LZ) _ _ _ ?_ (by omega), fun n w1 c hg => one_news _ x ?_, fun n w1 c hg => one_news _ x ?_, fun W hW j u hu => ?_, fun W hW j u hu => ?_⟩
  · have := heap_alloc_new (wo.alloc (.cells #[.int .i64 x] 3)) (.cells #[] 3)
    rw [show (wo.alloc (.cells #[.int .i64 x] 3)).heap.size = wo.heap.size + 1 by simp] at this
    exact this
  · have h := hg.block (wo.heap.size + 1) (by show wo.heap.size + 1 < ((wo.alloc _).alloc _).heap.size; simp) (by simp [Value.ownBlock])
    rw [h]
    have := heap_alloc_new (wo.alloc (.cells #[] 3)) (.cells #[.int .i64 x] 3)
    simpa using this
  · have h := hg.block wo.heap.size (by show wo.heap.size < ((wo.alloc _).alloc _).heap.size; simp; omega) (by simp [Value.ownBlock])
    rw [h]
    exact (Below.heap_alloc (wo.alloc (.cells #[.int .i64 x] 3)) _ _ (by simp)).trans (heap_alloc_new wo _)
  · rw [flat_z] at hu
    rw [at_add]
    have hj : j < k := by
      have := List.getElem?_eq_some_iff.1 hu
      obtain ⟨h', _⟩ := this
      simp at h'
      omega
    rw [hcell W hW j (by omega)]
    simp only [List.getElem?_map, List.getElem?_take_of_lt hj] at hu
    rw [List.getElem?_eq_getElem (by omega)] at hu
    simp at hu
    rw [← hu, List.getD_eq_getElem?_getD, List.getElem?_eq_getElem (by omega)]
    rfl
  · rw [flat_z] at hu
    have hj : k + j < out.length := by
      obtain ⟨h', _⟩ := List.getElem?_eq_some_iff.1 hu
      simp at h'
      omega
    rw [had (by omega)]
    have e : (⟨go, k, none⟩ : Addr).add j = ⟨go, k + j, none⟩ := by by_cases h0 : j = 0 <;> simp [Addr.add, h0]
    rw [e, hcell W hW (k + j) hj]
    simp only [List.getElem?_map, List.getElem?_drop] at hu
    rw [List.getElem?_eq_getElem hj] at hu
    simp at hu
    rw [← hu, List.getD_eq_getElem?_getD, List.getElem?_eq_getElem hj]
    rfl
def SRel (zs : List Int) (w : World) (outv iv : Value) (wr : World) : Prop :=
  ∃ out, ∃ i g c : Nat, iv = .int .i64 i ∧ i ≤ zs.length ∧ outv = .slice (some ⟨g, 0, none⟩) out.length c ∧ OwnG LZ w.heap.size wr outv out ∧ Rise out ∧ (∀ x, x ∈ out ↔ x ∈ zs.take i) ∧ out.length ≤ i ∧ Below w.heap.size w wr
def RPost (w : World) (S : Int → Prop) (e : Ending) (w' : World) : Prop := ∃ v zs, e = .returned v ∧ OwnG LZ w.heap.size w' v zs ∧ Rise zs ∧ (∀ x, x ∈ zs ↔ S x) ∧ Below w.heap.size w w'
theorem ins_rel {zs out : List Int} {w wo w3 : World} {v3 : Value} {x : Int} {i k : Nat} (h : OwnG LZ wo.heap.size w3 v3 (out.take k ++ [x] ++ out.drop k)) (hb : Below w.heap.size w wo) (hb3 : Below wo.heap.size wo w3) (hr : Rise (out.take k ++ [x] ++ out.drop k))
    (hm : ∀ z, z ∈ out ↔ z ∈ zs.take i) (hx : zs.take (i + 1) = zs.take i ++ [x]) (hol : out.length ≤ i) (hi : i < zs.length) (hk : k ≤ out.length) : SRel zs w v3 (.int .i64 ((i : Int) + 1)) w3 := by
  obtain ⟨a, c, hv⟩ := h.slice
  subst hv
  obtain ⟨g, hg, _⟩ := h.cell 0 (by simp; omega)
  subst hg
  refine ⟨_, i + 1, g, c, by go_num, by omega, rfl, h.mono hb.size, hr, fun z => ?_, by simp; omega, hb.trans (hb3.mono hb.size)⟩
  have hz : z ∈ out ↔ z ∈ out.take k ∨ z ∈ out.drop k := by
    conv => lhs; rw [← List.take_append_drop k out]
    exact List.mem_append
  rw [hx]
  simp only [List.mem_append, List.mem_singleton]
  rw [← hm z, hz]
  constructor
  · rintro ((h | h) | h)
    · exact .inl (.inl h)
    · exact .inr h
    · exact .inl (.inr h)
  · rintro ((h | h) | h)
    · exact .inl (.inl h)
    · exact .inr h
    · exact .inl (.inr h)
set_option maxHeartbeats 6400000 in
theorem rsorted_calls (a : Option Addr) (c B : Nat) (zs : List Int) (hl : zs.length ≤ 100000) (w : World) (h : OwnG LZ B w (.slice a zs.length c) zs) :
    Calls Try.prog 27 #[.slice a zs.length c] w (RPost w (fun x => x ∈ zs)) := by
  obtain ⟨i0, hi0, hzz⟩ := Option.map_eq_some_iff.1 info_int
  simp only [Prod.mk.injEq] at hzz
  obtain ⟨hz0, hz1, hz2⟩ := hzz
  have HI := Lib.hid hi0
  have HZ := Lib.hid hz0
  have HZ1 := Lib.hid hz1
  have HZ2 := Lib.hid hz2
  clear hi0 hz0 hz1 hz2
  have HX := Lib.hid h
  clear h
  go_enter Try.func27, Try.ntmps27
  go_wp2
  go_loopw [3, 4] (fun outv iv wr => SRel zs w outv iv wr) (fun _ iv _ => zs.length - (intOf iv).toNat)
  case atStart => exact ⟨[], 0, _, _, rfl, Nat.zero_le _, rfl, OwnG.made _ _ (Nat.le_refl _), List.Pairwise.nil, by simp, Nat.le_refl _, bl_alloc (Below.refl _ _) (Nat.le_refl _) _⟩
  case round =>
    obtain ⟨out, i, go, co, rfl, hi, rfl, hown, hrise, hmem, hol, hb⟩ := hrel
    have hi0 : (0 : Int) ≤ (i : Int) := Int.natCast_nonneg _
    by_cases hlt : i < zs.length
    · obtain ⟨gl, rfl, hglB, hgl, cl⟩ := HX.out.z_cell i hlt
      have hx : zs.take (i + 1) = zs.take i ++ [zs.getD i 0] := by rw [List.take_succ_eq_append_getElem hlt]; simp [List.getD_eq_getElem?_getD, hlt]
      generalize zs.getD i 0 = x at *
      have hil : (i : Int) < zs.length := by omega
      obtain ⟨wo, hwo⟩ : ∃ wo : World, wo = wr := ⟨_, rfl⟩
      subst hwo
      have clo : wo.cell? ⟨gl, i, none⟩ = some (.int .i64 x) := (hb.cell (p := ⟨gl, i, none⟩) hgl).trans cl
      have HCL := Lib.hid (show ∀ w', Below wo.heap.size wo w' → w'.cell? ⟨gl, i, none⟩ = some (.int .i64 x) from fun w' hb' => (hb'.cell (p := ⟨gl, i, none⟩) (by have := hb.size; show gl < _; omega)).trans clo)
      have HO := Lib.hid hown
      have HM := Lib.hid hmem
      have HR := Lib.hid hrise
      have HB := Lib.hid hb
      have HXX := Lib.hid hx
      clear hown hmem hrise hb hx cl
      go_wp2
      go_loopw [5] (fun kv wk => ∃ k m : Nat, kv = .int .i64 k ∧ k ≤ out.length ∧ wk = wo.drewN m ∧ ∀ a ∈ out.take k, a < x) (fun kv _ => out.length - (intOf kv).toNat)
      case atStart => exact ⟨0, 0, rfl, Nat.zero_le _, rfl, by simp⟩
      case round =>
        obtain ⟨k, m, rfl, hk, rfl, hlow⟩ := hrel
        have hk0 : (0 : Int) ≤ (k : Int) := Int.natCast_nonneg _
        by_cases hkl : k < out.length
        · obtain ⟨g', hg', _, hgo, ck⟩ := HO.out.z_cell k hkl
          simp only [Option.some.injEq, Addr.mk.injEq, and_true] at hg'
          subst hg'
          have hdg := drop_gt (x := x) HR.out hkl
          have htl := take_lt (x := x) hlow hkl
          have hyo : out.getD k 0 ∈ out := by rw [List.getD_eq_getElem?_getD, List.getElem?_eq_getElem hkl]; simp
          generalize out.getD k 0 = y at *
          have HYO := Lib.hid hyo
          clear hyo
          have hkl' : (k : Int) < out.length := by omega
          by_cases hy : y < x
          · have HT := Lib.hid (htl hy)
            clear hdg htl hlow
            go_wp2
            go_quiet (fail)
            go_wp2
            go_roundw
            case rel => exact ⟨k + 1, _, by go_num, by omega, rfl, HT.out⟩
            case measure => simp [intOf]; omega
          · by_cases he : y = x
            · subst he
              have hke : ((k : Int) == out.length) = false := by rw [beq_eq_false_iff_ne]; omega
              clear hdg htl hlow
              go_wp2
              go_quiet (fail)
              go_wp2
              go_quiet (fail)
              go_wp2
              go_roundw
              case rel =>
                refine ⟨out, i + 1, go, co, by go_num, by omega, rfl, HO.out.below (bl_drewN (Below.refl _ _) _), HR.out, fun z => ?_, by omega, bl_drewN HB.out _⟩
                have hyo : y ∈ out := HYO.out
                rw [HXX.out, List.mem_append, List.mem_singleton, ← HM.out z]
                exact ⟨fun h => .inl h, fun h => h.elim (fun h => h) (fun h => by rw [h]; exact hyo)⟩
              case measure => simp [intOf]; omega
            · have hg : x < y := by omega
              have hins := ins_rise (A := out.take k) (C := out.drop k) (x := x) (by rw [List.take_append_drop]; exact HR.out) hlow (hdg hg)
              have hke : ((k : Int) == out.length) = false := by rw [beq_eq_false_iff_ne]; omega
              have hyx : (y != x) = true := by simp [bne, he]
              clear hdg htl hlow he
              go_wp2
              go_quiet (fail)
              go_wp2
              go_quiet (fail)
              go_wp2
              have hkc : (k : Int) ≤ co := by have := HO.out.len_le; omega
              obtain ⟨ad, hsl, had⟩ : ∃ ad, (∀ W, (Instr.slice 23 (.slice (some ⟨go, 0, none⟩) out.length co) (some (.int .i64 (k : Int))) none none).run Try.prog W = .ok (.slice (some ad) (out.length - k) (co - k)) W) ∧ (k < out.length → ad = ⟨go, k, none⟩) := run_from go out.length co k hk (HO.out.len_le).2.1
              obtain rfl := had hkl
              have HA := Lib.hid (ins_facts wo w i0 (w.heap.size) HB.out.size go co out HO.out x k hk (by omega) _ (fun _ => rfl))
              go_region_held3 (fun w' => w'.cell? ⟨gl, i, none⟩ = some (.int .i64 x))
                (first | exact clo | exact HCL.out _ (bl_drewN (Below.refl _ _) _) | exact HCL.out _ (bl_drewN (bl_alloc (Below.refl _ _) (Nat.le_refl _) _) _) | exact HCL.out _ (bl_drewN (bl_alloc (bl_alloc (Below.refl _ _) (Nat.le_refl _) _) (by simp) _) _) | exact HCL.out _ HB1.out | exact HCL.out _ (bl_alloc HB1.out HB1.out.size _) | exact HCL.out _ HB2.out | exact HCL.out _ HB3.out)
                ((first
                  | (refine step_appended (L := LZ) _ rfl (.tmp 45) (.tmp 48) 23 rfl wo.heap.size i0 _ Try.underlying23 HI.out HZ.out HZ1.out HZ2.out rfl _ [] (out.take k) (by rfl) ?_ ⟨go, 0, none⟩ k co HA.out.len1 (by rfl) ?_ HA.out.max1 HA.out.byt1 ?_ ?_; (· first | exact HA.out.own1 _ | exact HA.out.own2 _ | exact HA.out.own3 _); (· first | exact HA.out.news1 _ (HA.out.bl1 _) | exact HA.out.news1 _ (HA.out.bl2 _) | exact HA.out.news1 _ (HA.out.bl3 _)); (· first | exact (HA.out.bl1 _).size | exact (HA.out.bl2 _).size | exact (HA.out.bl3 _).size); intro v1 w1 hap1; (first | (have HB1 := Lib.hid (hap1.below (HA.out.bl1 _) (HA.out.bl1 _).size (HA.out.own1 _)); have HX1 := HB1) | (have HB1 := Lib.hid (hap1.below (HA.out.bl2 _) (HA.out.bl2 _).size (HA.out.own2 _)); have HX1 := Lib.hid (HA.out.cell2 _ _ _ hap1.2.1)) | (have HB1 := Lib.hid (hap1.below (HA.out.bl3 _) (HA.out.bl3 _).size (HA.out.own3 _)); have HX1 := Lib.hid (HA.out.cell3 _ _ _ hap1.2.1))); have HP1 := Lib.hid hap1.1; clear hap1)
                  | (refine step_appended (L := LZ) _ rfl (.tmp 49) (.tmp 54) 23 rfl wo.heap.size i0 _ Try.underlying23 HI.out HZ.out HZ1.out HZ2.out rfl v1 (out.take k) [x] (by rfl) ?_ ⟨_, 0, none⟩ 1 1 rfl (by rfl) ?_ HA.out.max2 HA.out.byt2 ?_ ?_; (· first | exact HP1.out | exact HP1.out.below (bl_alloc (Below.refl _ _) (Nat.le_refl _) _)); (· first | exact HX1.out | exact one_news _ x (heap_alloc_new w1 _)); (· first | exact HB1.out.size | exact (bl_alloc HB1.out HB1.out.size _).size); intro v2 w2 hap2; (first | (have HB2 := Lib.hid (hap2.below HB1.out HB1.out.size HP1.out)) | (have HB2 := Lib.hid (hap2.below (bl_alloc HB1.out HB1.out.size _) (bl_alloc HB1.out HB1.out.size _).size (HP1.out.below (bl_alloc (Below.refl _ _) (Nat.le_refl _) _))))); have HP2 := Lib.hid hap2.1; clear hap2)
                  | (refine step_appended (L := LZ) _ rfl (.tmp 55) (.tmp 58) 23 rfl wo.heap.size i0 _ Try.underlying23 HI.out HZ.out HZ1.out HZ2.out rfl v2 (out.take k ++ [x]) (out.drop k) (by rfl) HP2.out ⟨go, k, none⟩ (out.length - k) (co - k) HA.out.len3 (by rfl) (HA.out.news3 _ HB2.out) HA.out.max3 HA.out.byt3 HB2.out.size ?_; intro v3 w3 hap3; have HB3 := Lib.hid (hap3.below HB2.out HB2.out.size HP2.out); have HP3 := Lib.hid hap3.1; clear hap3)))
              all_goals go_wp2_with fail
              all_goals go_roundw
              all_goals first
                | exact ins_rel HP3.out HB.out HB3.out hins HM.out HXX.out hol hlt hk
                | (simp [intOf]; omega)
        · obtain rfl : k = out.length := by omega
          have hins := ins_rise (A := out.take out.length) (C := out.drop out.length) (x := x) (by rw [List.take_append_drop]; exact HR.out) hlow (by rw [List.drop_length]; intro c hc; cases hc)
          have hkl' : decide (out.length < out.length) = false := decide_eq_false (by omega)
          have hke : ((out.length : Int) == out.length) = true := beq_iff_eq.2 rfl
          clear hlow
          go_wp2
          go_quiet (fail)
          go_wp2
          go_quiet (fail)
          go_wp2
          have hkc : (out.length : Int) ≤ co := by have := HO.out.len_le; omega
          obtain ⟨ad, hsl, had⟩ : ∃ ad, (∀ W, (Instr.slice 23 (.slice (some ⟨go, 0, none⟩) out.length co) (some (.int .i64 (out.length : Int))) none none).run Try.prog W = .ok (.slice (some ad) (out.length - out.length) (co - out.length)) W) ∧ (out.length < out.length → ad = ⟨go, out.length, none⟩) := run_from go out.length co out.length (Nat.le_refl _) (HO.out.len_le).2.1
          rw [Nat.sub_self] at hsl
          have HA := Lib.hid (ins_facts wo w i0 (w.heap.size) HB.out.size go co out HO.out x out.length hk (by omega) ad (fun h => absurd h (by omega)))
          go_region_held3 (fun w' => w'.cell? ⟨gl, i, none⟩ = some (.int .i64 x))
            (first | exact clo | exact HCL.out _ (bl_drewN (Below.refl _ _) _) | exact HCL.out _ (bl_drewN (bl_alloc (Below.refl _ _) (Nat.le_refl _) _) _) | exact HCL.out _ (bl_drewN (bl_alloc (bl_alloc (Below.refl _ _) (Nat.le_refl _) _) (by simp) _) _) | exact HCL.out _ HB1.out | exact HCL.out _ (bl_alloc HB1.out HB1.out.size _) | exact HCL.out _ HB2.out | exact HCL.out _ HB3.out)
            ((first
              | (refine step_appended (L := LZ) _ rfl (.tmp 45) (.tmp 48) 23 rfl wo.heap.size i0 _ Try.underlying23 HI.out HZ.out HZ1.out HZ2.out rfl _ [] (out.take out.length) (by rfl) ?_ ⟨go, 0, none⟩ out.length co HA.out.len1 (by rfl) ?_ HA.out.max1 HA.out.byt1 ?_ ?_; (· first | exact HA.out.own1 _ | exact HA.out.own2 _ | exact HA.out.own3 _); (· first | exact HA.out.news1 _ (HA.out.bl1 _) | exact HA.out.news1 _ (HA.out.bl2 _) | exact HA.out.news1 _ (HA.out.bl3 _)); (· first | exact (HA.out.bl1 _).size | exact (HA.out.bl2 _).size | exact (HA.out.bl3 _).size); intro v1 w1 hap1; (first | (have HB1 := Lib.hid (hap1.below (HA.out.bl1 _) (HA.out.bl1 _).size (HA.out.own1 _)); have HX1 := HB1) | (have HB1 := Lib.hid (hap1.below (HA.out.bl2 _) (HA.out.bl2 _).size (HA.out.own2 _)); have HX1 := Lib.hid (HA.out.cell2 _ _ _ hap1.2.1)) | (have HB1 := Lib.hid (hap1.below (HA.out.bl3 _) (HA.out.bl3 _).size (HA.out.own3 _)); have HX1 := Lib.hid (HA.out.cell3 _ _ _ hap1.2.1))); have HP1 := Lib.hid hap1.1; clear hap1)
              | (refine step_appended (L := LZ) _ rfl (.tmp 49) (.tmp 54) 23 rfl wo.heap.size i0 _ Try.underlying23 HI.out HZ.out HZ1.out HZ2.out rfl v1 (out.take out.length) [x] (by rfl) ?_ ⟨_, 0, none⟩ 1 1 rfl (by rfl) ?_ HA.out.max2 HA.out.byt2 ?_ ?_; (· first | exact HP1.out | exact HP1.out.below (bl_alloc (Below.refl _ _) (Nat.le_refl _) _)); (· first | exact HX1.out | exact one_news _ x (heap_alloc_new w1 _)); (· first | exact HB1.out.size | exact (bl_alloc HB1.out HB1.out.size _).size); intro v2 w2 hap2; (first | (have HB2 := Lib.hid (hap2.below HB1.out HB1.out.size HP1.out)) | (have HB2 := Lib.hid (hap2.below (bl_alloc HB1.out HB1.out.size _) (bl_alloc HB1.out HB1.out.size _).size (HP1.out.below (bl_alloc (Below.refl _ _) (Nat.le_refl _) _))))); have HP2 := Lib.hid hap2.1; clear hap2)
              | (refine step_appended (L := LZ) _ rfl (.tmp 55) (.tmp 58) 23 rfl wo.heap.size i0 _ Try.underlying23 HI.out HZ.out HZ1.out HZ2.out rfl v2 (out.take out.length ++ [x]) (out.drop out.length) (by rfl) HP2.out ad 0 (co - out.length) (by simp) (by rfl) (HA.out.news3 _ HB2.out) HA.out.max3 HA.out.byt3 HB2.out.size ?_; intro v3 w3 hap3; have HB3 := Lib.hid (hap3.below HB2.out HB2.out.size HP2.out); have HP3 := Lib.hid hap3.1; clear hap3)))
          all_goals go_wp2_with fail
          all_goals go_roundw
          all_goals first
            | exact ins_rel HP3.out HB.out HB3.out hins HM.out HXX.out hol hlt hk
            | (simp [intOf]; omega)
    · obtain rfl : i = zs.length := by omega
      rw [List.take_length] at hmem
      have HO := Lib.hid hown
      have HM := Lib.hid hmem
      have HR := Lib.hid hrise
      have HB := Lib.hid hb
      clear hown hmem hrise hb
      go_wp2
      go_ret
      exact ⟨_, out, rfl, HO.out, HR.out, HM.out, HB.out⟩
end Go.Proofs.Ytnbbhgpflanhaaa
