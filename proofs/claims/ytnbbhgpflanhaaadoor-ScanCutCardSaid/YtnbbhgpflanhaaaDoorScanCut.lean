/- The statement's walk: a row is the head of its path. -/
import Derived.Test.YtnbbhgpflanhaaaDoorCutLaw
import Derived.Test.YtnbbhgpflanhaaaDoorScanRows
import Derived.Deep.RegionHeld3
namespace Go.Proofs.YtnbbhgpflanhaaaDoor
open Go.RowKit
set_option maxRecDepth 100000
set_option linter.unusedVariables false
set_option linter.unusedSimpArgs false
set_option maxHeartbeats 6400000 in
theorem cut_big (b off c : Nat) (bs : List Int) (pc : Int) (p0 : 0 ≤ pc) (p1 : pc ≤ 4294967295) (h0 : 64 ≤ bs.length) (h1 : bs.length ≤ 1024) (h2 : bs.length % 64 = 0) (hcap : bs.length ≤ c) (w : World) (hF : FormsAt w) (hR : ReadsB w ⟨b, off, none⟩ bs) :
    Calls Tryd.prog 5 #[.slice (some ⟨b, off, none⟩) bs.length c, .int .u32 pc] w fun e w' => e = .returned (.bool true) ∧ Below w.heap.size w w' := by
  have hright := fun w' => rright_calls (bs.length : Int) (by omega) w'
  have hok : sizeOk (bs.length : Int) = true := decide_eq_true (by omega)
  rw [hok] at hright
  have hmem := memory_calls c ⟨b, off, none⟩ bs w h0 (by omega) h2 hR
  have hpl := path_len bs true 32 pc []
  have hpl2 := path_len bs false 32 pc []
  have hrow := fun g gb w' hF' hR' => row_calls g gb bs pc 32 p0 p1 w' hF' hR'
  have hpath := fun g gb w' hF' hR' => cut_calls g gb bs pc 32 p0 p1 w' hF' hR'
  obtain ⟨l1, l2, l3⟩ := cut_law bs 32 pc
  rw [show mostS 32 = 32 from rfl] at hrow hpath
  generalize pathS bs true 32 pc [] = R at *
  generalize pathS bs false 32 pc [] = P at *
  have HRi := Lib.hid hright
  have HM := Lib.hid hmem
  have HRo := Lib.hid hrow
  have HP := Lib.hid hpath
  have HF := Lib.hid hF
  have HR := Lib.hid hR
  have L2 := Lib.hid l2
  have L3 := Lib.hid l3
  have hl4 : ¬ (1024 : Int) < bs.length := by omega
  clear hright hmem hrow hpath hok h0 h2 hF hR l2 l3
  generalize hlen : bs.length = len at *
  clear hlen
  go_enter Tryd.func5, Tryd.ntmps5
  go_wp2_with (first
    | (go_at_call 8; refine (HRi.out _).mono ?_; rintro e w' ⟨rfl, rfl⟩)
    | (go_at_call 13; refine HM.out.mono ?_; rintro e w1 ⟨g, gb, rfl, hr1, hb1⟩; have HB1 := Lib.hid hb1; have HR1 := Lib.hid hr1; clear hb1 hr1))
  refine (HRo.out g gb _ (HF.out.below HB1.out) HR1.out).mono ?_
  rintro e w2 ⟨v2, rfl, ho2, hb2⟩
  obtain ⟨a2, c2, hv2⟩ := ho2.slice
  subst hv2
  have hB2 := bl_then HB1.out hb2
  have hR2 := HR1.out.below hb2
  have HB2 := Lib.hid hB2
  have HO2 := Lib.hid ho2
  have HR2 := Lib.hid hR2
  clear ho2 hb2 hB2 hR2
  go_wp2_with fail
  refine (HP.out g gb _ (HF.out.below HB2.out) HR2.out).mono ?_
  rintro e w3 ⟨v3, rfl, ho3, hb3⟩
  obtain ⟨a3, c3, hv3⟩ := ho3.slice
  subst hv3
  have hB3 := bl_then HB2.out hb3
  have hO2 := HO2.out.below hb3
  have hlc : P.length ≤ c3 := by
    rcases ho3.2 with ⟨e1, e2⟩ | ⟨g', cap', cur', e1, _, _, e4, _⟩
    · omega
    · simp only [Value.slice.injEq] at e1
      omega
  have HB3 := Lib.hid hB3
  have HO2' := Lib.hid hO2
  have HO3 := Lib.hid ho3
  clear ho3 hb3 hB3 hO2
  have hgt : ¬ (P.length : Int) < R.length := by omega
  have hgtN : ¬ P.length < R.length := by omega
  have hd : decide (P.length < R.length) = false := decide_eq_false hgtN
  have hle' : (R.length : Int) ≤ P.length := by omega
  have hc' : (R.length : Int) ≤ c3 := by omega
  have ht := HO3.out.take R.length l1
  rw [L2.out] at ht
  have HT := Lib.hid ht
  have hw : ∀ wA, Below w3.heap.size w3 wA → OwnI 43 w2.heap.size wA (.slice a3 R.length c3) R := fun wA hA => HT.out.below hA
  have hv : ∀ wA, Below w3.heap.size w3 wA → OwnI 43 w1.heap.size wA (.slice a2 R.length c2) R := fun wA hA => HO2'.out.below hA
  have HW := Lib.hid hw
  have HV := Lib.hid hv
  clear ht hw hv
  go_wp2_with fail
  go_region_held3 (fun w' => True)
    (trivial)
    ((first
      | (go_at_call_of 11 (Value.slice a2 R.length c2); refine (of_calls _ a2 c2 R hpl w3.drew (HV.out _ (bl_drew (Below.refl _ _)))).mono ?_; rintro e wA ⟨vA, rfl, hoA, hbA⟩; obtain ⟨aA, cA, hvA⟩ := hoA.slice; subst hvA; have hBA := bl_then (bl_drew (Below.refl w3.heap.size w3)) hbA; have HOA := Lib.hid hoA; have HBA := Lib.hid hBA; clear hoA hbA hBA)
      | (go_at_call_of 11 (Value.slice a3 R.length c3); refine (of_calls _ a3 c3 R hpl wA (HW.out wA HBA.out)).mono ?_; rintro e wB ⟨vB, rfl, hoB, hbB⟩; obtain ⟨aB, cB, hvB⟩ := hoB.slice; subst hvB; have hoA2 := HOA.out.below hbB; have hBB := bl_then HBA.out hbB; have HOB := Lib.hid hoB; have HBB := Lib.hid hBB; have HOA2 := Lib.hid hoA2; clear hoB hbB hoA2 hBB)
      | (go_at_call 10; refine (same_calls _ _ aA aB cA cB R hpl wB HOA2.out HOB.out).mono ?_; rintro e w5 ⟨rfl, k5, hk5⟩; have HK5 := Lib.hid hk5; clear hk5)))
  all_goals
    have hB5 : Below w.heap.size w w5 := by rw [HK5.out]; exact bl_drewN (bl_then HB3.out HBB.out) k5
    have hB35 : Below w3.heap.size w3 w5 := by rw [HK5.out]; exact bl_drewN HBB.out k5
    have haw := awake_calls w5 (HF.out.below hB5)
    have HA := Lib.hid haw
    have HB5 := Lib.hid hB5
    have HO5 := Lib.hid (HO2'.out.below hB35)
    clear haw hB5 hB35 HO2' HOA HOB HOA2 HBA HBB HW HV HT HO3 HB3 HB2 HB1
    by_cases he : R.length = P.length
    · have he' : ((R.length : Int) == P.length) = true := beq_iff_eq.2 (by omega)
      go_wp2_with (go_at_call 9; refine HA.out.mono ?_; rintro e w7 ⟨rfl, hb7⟩)
      go_ret
      exact ⟨rfl, bl_then HB5.out hb7⟩
    · obtain ⟨k, g5, hk, ha2, d1⟩ : ∃ k g5, R.length = k + 1 ∧ a2 = some ⟨g5, 0, none⟩ ∧ w5.cell? ⟨g5, k * 8 + 1, none⟩ = some (.int .i64 3) := by
        obtain ⟨R', x, hRx, hx3⟩ := L3.out.resolve_left he
        have hk : R.length = R'.length + 1 := by rw [hRx]; simp
        obtain ⟨g5, ha2, hg5, _, d0, d1, _⟩ := HO5.out.eight R'.length (by omega)
        have hx : R[R'.length]'(by omega) = x := by simp [hRx]
        rw [hx, hx3] at d1
        exact ⟨_, g5, hk, ha2, d1⟩
      subst ha2
      have he' : ((R.length : Int) == P.length) = false := beq_eq_false_iff_ne.2 (by omega)
      rw [hk] at he' he ⊢
      have hk32 : (k : Int) < 32 := by omega
      have hk0 : (0 : Int) ≤ (k : Int) := Int.natCast_nonneg _
      go_wp2_with (go_at_call 9; refine HA.out.mono ?_; rintro e w7 ⟨rfl, hb7⟩)
      go_ret
      exact ⟨rfl, bl_then HB5.out hb7⟩
set_option maxHeartbeats 1600000 in
theorem cut_small (a : Option Addr) (len c : Nat) (pc : Int) (hl : (len : Int) ≤ 9223372036854775807) (hn : ¬ (64 ≤ len ∧ len ≤ 1024 ∧ len % 64 = 0)) (w : World) (hF : FormsAt w) :
    Calls Tryd.prog 5 #[.slice a len c, .int .u32 pc] w fun e w' => e = .returned (.bool true) ∧ Below w.heap.size w w' := by
  have hright := fun w' => rright_calls (len : Int) (by omega) w'
  have haw := awake_calls w hF
  have HA := Lib.hid haw
  clear haw hF
  cases hok : sizeOk (len : Int)
  · rw [hok] at hright
    have HRi := Lib.hid hright
    clear hright hok hn
    go_enter Tryd.func5, Tryd.ntmps5
    go_wp2_with (first | (go_at_call 8; refine (HRi.out _).mono ?_; rintro e w' ⟨rfl, rfl⟩) | (go_at_call 9; refine HA.out.mono ?_; rintro e w1 ⟨rfl, hb1⟩))
    go_ret
    exact ⟨rfl, hb1⟩
  · rw [hok] at hright
    unfold sizeOk at hok
    simp only [decide_eq_true_eq] at hok
    have hbig : (1024 : Int) < len := by omega
    have HRi := Lib.hid hright
    clear hright hok hn
    go_enter Tryd.func5, Tryd.ntmps5
    go_wp2_with (first | (go_at_call 8; refine (HRi.out _).mono ?_; rintro e w' ⟨rfl, rfl⟩) | (go_at_call 9; refine HA.out.mono ?_; rintro e w1 ⟨rfl, hb1⟩))
    go_ret
    exact ⟨rfl, hb1⟩
end Go.Proofs.YtnbbhgpflanhaaaDoor
