/- The statement's walk: the rows of any memory along any path. -/
import Derived.Test.YtnbbhgpflanhaaaDoorPathN
import Derived.Test.YtnbbhgpflanhaaaDoorRefQ
import Derived.Test.YtnbbhgpflanhaaaDoorAwake
import Derived.Test.YtnbbhgpflanhaaaDoorSame
import Derived.Deep.RegionHeld3
namespace Go.Proofs.YtnbbhgpflanhaaaDoor
open Go.RowKit
set_option maxRecDepth 100000
set_option linter.unusedVariables false
set_option linter.unusedSimpArgs false
theorem TurnsAt.below {w w' : World} {v : Value} {ts : List Bool} (h : TurnsAt w v ts) (hb : Below w.heap.size w w') : TurnsAt w' v ts := by
  obtain ⟨a, c, hv, h1, h2, h3⟩ := h
  refine ⟨a, c, hv, h1, h2, ?_⟩
  rcases h3 with h | ⟨b, o, ha, hc⟩
  · exact .inl h
  · exact .inr ⟨b, o, ha, fun i hi => ((hb.cell (p := ⟨b, o + i, none⟩) (World.block_lt_of_cell? w _ (hc i hi)))).trans (hc i hi)⟩
/-- the way, boxed -/
def WayAt (g : Nat) (pc : Int) (v : Value) (most : Int) (w : World) : Prop := w.cell? ⟨g, 0, none⟩ = some (.int .u32 pc) ∧ w.cell? ⟨g, 1, none⟩ = some v ∧ w.cell? ⟨g, 2, none⟩ = some (.int .i64 most)
theorem WayAt.below {g : Nat} {pc : Int} {v : Value} {most : Int} {w w' : World} (h : WayAt g pc v most w) (hb : Below w.heap.size w w') : WayAt g pc v most w' :=
  ⟨(hb.cell (p := ⟨g, 0, none⟩) (World.block_lt_of_cell? w _ h.1)).trans h.1, (hb.cell (p := ⟨g, 1, none⟩) (World.block_lt_of_cell? w _ h.2.1)).trans h.2.1, (hb.cell (p := ⟨g, 2, none⟩) (World.block_lt_of_cell? w _ h.2.2)).trans h.2.2⟩
theorem way_new (w : World) (pc : Int) (v : Value) (most : Int) : WayAt w.heap.size pc v most (w.alloc (.cells #[.int .u32 pc, v, .int .i64 most] 37)) := by
  refine ⟨?_, ?_, ?_⟩ <;> simp
set_option maxHeartbeats 6400000 in
theorem paths_big (b off c : Nat) (bs : List Int) (pc most : Int) (a : Option Addr) (tc : Nat) (ts : List Bool) (p0 : 0 ≤ pc) (p1 : pc ≤ 4294967295) (h0 : 64 ≤ bs.length) (h1 : bs.length ≤ 1024) (h2 : bs.length % 64 = 0) (hcap : bs.length ≤ c) (htl : ts.length ≤ 100)
    (w : World) (hF : FormsAt w) (hR : ReadsB w ⟨b, off, none⟩ bs) (hT : TurnsAt w (.slice a ts.length tc) ts) :
    Calls Tryd.prog 4 #[.slice (some ⟨b, off, none⟩) bs.length c, .agg #[.int .u32 pc, .slice a ts.length tc, .int .i64 most]] w fun e w' => e = .returned (.bool true) ∧ Below w.heap.size w w' := by
  have hright := fun w' => rright_calls (bs.length : Int) (by omega) w'
  have hok : sizeOk (bs.length : Int) = true := decide_eq_true (by omega)
  rw [hok] at hright
  have hbx := bl_alloc (Below.refl w.heap.size w) (.cells #[.int .u32 pc, .slice a ts.length tc, .int .i64 most] 37)
  have hway := way_new w pc (.slice a ts.length tc) most
  obtain ⟨W, hW⟩ : ∃ W, w.alloc (.cells #[.int .u32 pc, .slice a ts.length tc, .int .i64 most] 37) = W := ⟨_, rfl⟩
  rw [hW] at hbx hway
  have hFW := hF.below hbx
  have hRW := hR.below hbx
  have hTW := hT.below hbx
  have hmem := fun W' (hb : Below W.heap.size W W') => memory_calls c ⟨b, off, none⟩ bs W' h0 (by omega) h2 (hRW.below hb)
  have hpl := path_len bs false (mostS most) pc ts
  have hml := most_le most
  have hrow := fun g gb w' hb hR' => path_calls g gb bs pc most ts a tc p0 p1 w' (hFW.below hb) hR' (hTW.below hb)
  have hpath := fun w' hb => rpath_path b off c bs pc most (mostS most) ts a tc p0 p1 (most_or most) (by omega) hcap htl w' (hRW.below hb) (hTW.below hb)
  have hnil := fun w' hb => path_nil pc most a ts.length tc p0 p1 w' (hFW.below hb)
  have haw := fun w' hb => awake_calls w' (hFW.below hb)
  have hS := fun w' (hb : Below W.heap.size W w') => hway.below hb
  generalize pathS bs false (mostS most) pc ts = R at *
  have HRi := Lib.hid hright
  have HM := Lib.hid hmem
  have HRo := Lib.hid hrow
  have HP := Lib.hid hpath
  have HN := Lib.hid hnil
  have HA := Lib.hid haw
  have HS := Lib.hid hS
  have HWE := Lib.hid hW
  have HBX := Lib.hid hbx
  have hR32 : R.length ≤ 32 := by omega
  have hl4 : ¬ (1024 : Int) < bs.length := by omega
  have ht4 : ¬ (100 : Int) < ts.length := by omega
  clear hright hmem hpl hml hrow hpath hok h0 h2 hF hR hT hnil haw hS hW hbx hFW hRW hTW hway
  unfold WayAt at HS
  generalize hlen : bs.length = len at *
  generalize htlen : ts.length = tn at *
  clear hlen htlen
  go_enter Tryd.func4, Tryd.ntmps4
  go_wp2_with (go_at_call 8; refine (HRi.out _).mono ?_; rintro e w' ⟨rfl, rfl⟩)
  rw [HWE.out]
  go_region_held3 (fun w' => w'.cell? ⟨w.heap.size, 0, none⟩ = some (.int .u32 pc) ∧ w'.cell? ⟨w.heap.size, 1, none⟩ = some (.slice a tn tc) ∧ w'.cell? ⟨w.heap.size, 2, none⟩ = some (.int .i64 most))
    (first | exact HS.out _ HB7.out | exact HS.out _ HB6.out | exact HS.out _ HB5.out | exact HS.out _ HB4.out | exact HS.out _ HB3.out | exact HS.out _ HB2.out | exact HS.out _ HB1.out | exact HS.out _ (bl_drew (Below.refl _ _)) | exact HS.out _ (Below.refl _ _))
    ((first
      | (go_at_call 13; refine (HM.out _ (bl_drew (Below.refl _ _))).mono ?_; rintro e w1 ⟨g, gb, rfl, hr1, hb1⟩; have HB1 := Lib.hid (bl_then (bl_drew (Below.refl W.heap.size W)) hb1); have HR1 := Lib.hid hr1; clear hb1 hr1)
      | (go_at_call_of 15 (Value.pointer (some ⟨g, 0, none⟩)); refine (HRo.out g gb w1 HB1.out HR1.out).mono ?_; rintro e w2 ⟨v2, rfl, ho2, hb2⟩; obtain ⟨a2, c2, hv2⟩ := ho2.slice; subst hv2; have HB2 := Lib.hid (bl_then HB1.out hb2); have HO2 := Lib.hid ho2; clear ho2 hb2)
      | (go_at_call 11; refine (of_calls _ a2 c2 R hR32 w2 HO2.out).mono ?_; rintro e w3 ⟨v3, rfl, ho3, hb3⟩; obtain ⟨a3, c3, hv3⟩ := ho3.slice; subst hv3; have HB3 := Lib.hid (bl_then HB2.out hb3); have HO3 := Lib.hid ho3; clear ho3 hb3)
      | (go_at_call 14; refine (HP.out w3 HB3.out).mono ?_; rintro e w4 ⟨v4, rfl, ho4, hb4⟩; obtain ⟨a4, c4, hv4⟩ := ho4.slice; subst hv4; have HB4 := Lib.hid (bl_then HB3.out hb4); have HO3' := Lib.hid (HO3.out.below hb4); have HO4 := Lib.hid ho4; clear ho4 hb4)
      | (go_at_call 10; refine (same_calls _ _ a3 a4 c3 c4 R hR32 w4 HO3'.out HO4.out).mono ?_; rintro e w5 ⟨rfl, k5, hk5⟩; have hb5 : Below W.heap.size W w5 := (hk5 ▸ bl_drewN HB4.out k5); have HB5 := Lib.hid hb5; clear hk5 hb5)
      | (go_at_call_of 15 (Value.pointer none); refine (HN.out w5 HB5.out).mono ?_; rintro e w6 ⟨rfl, hb6⟩; have HB6 := Lib.hid (bl_then HB5.out hb6); clear hb6)
      | (go_at_call 9; refine (HA.out w6 HB6.out).mono ?_; rintro e w7 ⟨rfl, hb7⟩; have HB7 := Lib.hid (bl_then HB6.out hb7); clear hb7)))
  all_goals go_wp2_with fail
  all_goals go_ret
  all_goals exact ⟨rfl, HBX.out.trans (HB7.out.mono HBX.out.size)⟩
set_option maxHeartbeats 1600000 in
theorem paths_small (a : Option Addr) (len c : Nat) (pc most : Int) (ta : Option Addr) (tn tc : Nat) (hl : (len : Int) ≤ 9223372036854775807) (htl : (tn : Int) ≤ 9223372036854775807) (hn : ¬ (64 ≤ len ∧ len ≤ 1024 ∧ len % 64 = 0 ∧ tn ≤ 100)) (w : World) (hF : FormsAt w) :
    Calls Tryd.prog 4 #[.slice a len c, .agg #[.int .u32 pc, .slice ta tn tc, .int .i64 most]] w fun e w' => e = .returned (.bool true) ∧ Below w.heap.size w w' := by
  have hright := fun w' => rright_calls (len : Int) (by omega) w'
  have hbx := bl_alloc (Below.refl w.heap.size w) (.cells #[.int .u32 pc, .slice ta tn tc, .int .i64 most] 37)
  have haw := awake_calls _ (hF.below hbx)
  have HA := Lib.hid haw
  have HBX := Lib.hid hbx
  clear haw hF hbx
  cases hok : sizeOk (len : Int)
  · rw [hok] at hright
    have HRi := Lib.hid hright
    clear hright hok hn
    go_enter Tryd.func4, Tryd.ntmps4
    go_wp2_with (first | (go_at_call 8; refine (HRi.out _).mono ?_; rintro e w' ⟨rfl, rfl⟩) | (go_at_call 9; refine HA.out.mono ?_; rintro e w1 ⟨rfl, hb1⟩))
    go_ret
    exact ⟨rfl, HBX.out.trans (hb1.mono HBX.out.size)⟩
  · rw [hok] at hright
    unfold sizeOk at hok
    simp only [decide_eq_true_eq] at hok
    have HRi := Lib.hid hright
    by_cases hbig : (1024 : Int) < len
    · clear hright hok hn
      go_enter Tryd.func4, Tryd.ntmps4
      go_wp2_with (first | (go_at_call 8; refine (HRi.out _).mono ?_; rintro e w' ⟨rfl, rfl⟩) | (go_at_call 9; refine HA.out.mono ?_; rintro e w1 ⟨rfl, hb1⟩))
      go_ret
      exact ⟨rfl, HBX.out.trans (hb1.mono HBX.out.size)⟩
    · have hbig2 : (100 : Int) < tn := by omega
      clear hright hok hn
      go_enter Tryd.func4, Tryd.ntmps4
      go_wp2_with (first | (go_at_call 8; refine (HRi.out _).mono ?_; rintro e w' ⟨rfl, rfl⟩) | (go_at_call 9; refine HA.out.mono ?_; rintro e w1 ⟨rfl, hb1⟩))
      go_ret
      exact ⟨rfl, HBX.out.trans (hb1.mono HBX.out.size)⟩
end Go.Proofs.YtnbbhgpflanhaaaDoor
