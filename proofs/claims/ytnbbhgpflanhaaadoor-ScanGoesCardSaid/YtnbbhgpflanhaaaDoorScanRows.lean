/- The statement's walk: the rows of any memory. -/
import Derived.Test.YtnbbhgpflanhaaaDoorAwake
import Derived.Test.YtnbbhgpflanhaaaDoorRefP
import Derived.Test.YtnbbhgpflanhaaaDoorSame
namespace Go.Proofs.YtnbbhgpflanhaaaDoor
open Go.RowKit
set_option maxRecDepth 100000
set_option linter.unusedVariables false
set_option maxHeartbeats 6400000 in
theorem rows_big (b off c : Nat) (bs : List Int) (pc most : Int) (p0 : 0 ≤ pc) (p1 : pc ≤ 4294967295) (h0 : 64 ≤ bs.length) (h1 : bs.length ≤ 1024) (h2 : bs.length % 64 = 0) (hcap : bs.length ≤ c) (w : World) (hF : FormsAt w) (hR : ReadsB w ⟨b, off, none⟩ bs) :
    Calls Tryd.prog 3 #[.slice (some ⟨b, off, none⟩) bs.length c, .int .u32 pc, .int .i64 most] w fun e w' => e = .returned (.bool true) ∧ Below w.heap.size w w' := by
  have hright := fun w' => rright_calls (bs.length : Int) (by omega) w'
  have hok : sizeOk (bs.length : Int) = true := decide_eq_true (by omega)
  rw [hok] at hright
  have hmem := memory_calls c ⟨b, off, none⟩ bs w h0 (by omega) h2 hR
  have hpl := path_len bs true (mostS most) pc []
  have hml := most_le most
  have hrow := fun g gb w' hF' hR' => row_calls g gb bs pc most p0 p1 w' hF' hR'
  have hpath := fun w' hR' => rpath_row b off c bs pc most (mostS most) p0 p1 (most_or most) (by omega) hcap w' hR'
  generalize pathS bs true (mostS most) pc [] = R at *
  have HRi := Lib.hid hright
  have HM := Lib.hid hmem
  have HRo := Lib.hid hrow
  have HP := Lib.hid hpath
  have hR32 : R.length ≤ 32 := by omega
  have HF := Lib.hid hF
  have HR := Lib.hid hR
  have hl4 : ¬ (1024 : Int) < bs.length := by omega
  clear hright hmem hpl hml hrow hpath hok h0 h2 hF hR
  generalize hlen : bs.length = len at *
  clear hlen
  go_enter Tryd.func3, Tryd.ntmps3
  go_wp2_with (first
    | (go_at_call 8; refine (HRi.out _).mono ?_; rintro e w' ⟨rfl, rfl⟩)
    | (go_at_call 13; refine HM.out.mono ?_; rintro e w1 ⟨g, gb, rfl, hr1, hb1⟩; have HB1 := Lib.hid hb1; have HR1 := Lib.hid hr1; clear hb1 hr1))
  refine (HRo.out g gb _ (HF.out.below HB1.out) HR1.out).mono ?_
  rintro e w2 ⟨v2, rfl, ho2, hb2⟩
  obtain ⟨a2, c2, hv2⟩ := ho2.slice
  subst hv2
  have hB2 := bl_then HB1.out hb2
  have HB2 := Lib.hid hB2
  have HO2 := Lib.hid ho2
  clear ho2 hb2 hB2
  go_wp2_with fail
  refine (of_calls _ a2 c2 R hR32 w2 HO2.out).mono ?_
  rintro e w3 ⟨v3, rfl, ho3, hb3⟩
  obtain ⟨a3, c3, hv3⟩ := ho3.slice
  subst hv3
  have hB3 := bl_then HB2.out hb3
  have HB3 := Lib.hid hB3
  have HO3 := Lib.hid ho3
  clear ho3 hb3 hB3
  go_wp2_with fail
  refine (HP.out w3 (HR.out.below HB3.out)).mono ?_
  rintro e w4 ⟨v4, rfl, ho4, hb4⟩
  obtain ⟨a4, c4, hv4⟩ := ho4.slice
  subst hv4
  have hB4 := bl_then HB3.out hb4
  have hO3 := HO3.out.below hb4
  have HB4 := Lib.hid hB4
  have HO3' := Lib.hid hO3
  have HO4 := Lib.hid ho4
  clear ho4 hb4 hB4 hO3
  go_wp2_with fail
  refine (same_calls _ _ a3 a4 c3 c4 R hR32 w4 HO3'.out HO4.out).mono ?_
  rintro e w5' ⟨rfl, k5, hk5⟩
  have hB5 : Below w.heap.size w w5' := by rw [hk5]; exact bl_drewN HB4.out k5
  clear hk5
  have HB5 := Lib.hid hB5
  clear hB5
  go_wp2_with fail
  refine (row_nil pc most p0 p1 w5' (HF.out.below HB5.out)).mono ?_
  rintro e w6 ⟨rfl, hb6⟩
  have hB6 := bl_then HB5.out hb6
  have HB6 := Lib.hid hB6
  clear hb6 hB6
  go_wp2_with fail
  refine (awake_calls w6 (HF.out.below HB6.out)).mono ?_
  rintro e w7 ⟨rfl, hb7⟩
  have hB7 := bl_then HB6.out hb7
  have HB7 := Lib.hid hB7
  clear hb7 hB7
  go_wp2_with fail
  go_ret
  exact ⟨rfl, HB7.out⟩
set_option maxHeartbeats 1600000 in
theorem rows_small (a : Option Addr) (len c : Nat) (pc most : Int) (hl : (len : Int) ≤ 9223372036854775807) (hn : ¬ (64 ≤ len ∧ len ≤ 1024 ∧ len % 64 = 0)) (w : World) (hF : FormsAt w) :
    Calls Tryd.prog 3 #[.slice a len c, .int .u32 pc, .int .i64 most] w fun e w' => e = .returned (.bool true) ∧ Below w.heap.size w w' := by
  have hright := fun w' => rright_calls (len : Int) (by omega) w'
  have haw := awake_calls w hF
  have HA := Lib.hid haw
  clear haw hF
  cases hok : sizeOk (len : Int)
  · rw [hok] at hright
    have HRi := Lib.hid hright
    clear hright hok hn
    go_enter Tryd.func3, Tryd.ntmps3
    go_wp2_with (first | (go_at_call 8; refine (HRi.out _).mono ?_; rintro e w' ⟨rfl, rfl⟩) | (go_at_call 9; refine HA.out.mono ?_; rintro e w1 ⟨rfl, hb1⟩))
    go_ret
    exact ⟨rfl, hb1⟩
  · rw [hok] at hright
    unfold sizeOk at hok
    simp only [decide_eq_true_eq] at hok
    have hbig : (1024 : Int) < len := by omega
    have HRi := Lib.hid hright
    clear hright hok hn
    go_enter Tryd.func3, Tryd.ntmps3
    go_wp2_with (first | (go_at_call 8; refine (HRi.out _).mono ?_; rintro e w' ⟨rfl, rfl⟩) | (go_at_call 9; refine HA.out.mono ?_; rintro e w1 ⟨rfl, hb1⟩))
    go_ret
    exact ⟨rfl, hb1⟩
end Go.Proofs.YtnbbhgpflanhaaaDoor
