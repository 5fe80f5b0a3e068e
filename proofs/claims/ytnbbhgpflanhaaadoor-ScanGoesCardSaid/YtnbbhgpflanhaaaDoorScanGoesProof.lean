/- Whatever bytes and way it is called with, mimesislaw26.ScanGoes returns true and leaves what it was handed as it was.
   Condition: when the call begins, the table mimesis/inst.forms holds the numbers that the row lists. -/
import Derived.Test.YtnbbhgpflanhaaaDoorRows
import Derived.Test.YtnbbhgpflanhaaaDoorScanRowsProof
import Derived.Test.YtnbbhgpflanhaaaDoorScanGoes
import Derived.ProofKit
import Derived.LaidMore
import Derived.OpenShut
import Derived.Stop.Joined
import Derived.ShutString
import Derived.ChangeOld
import Derived.Below
import Derived.Lib.LaidTab
import Derived.Lib.SmallJoins
import Derived.Deep.Grids
namespace Go.Proofs.YtnbbhgpflanhaaaDoor
open Go.ChangeShapes Go.WideShapes Go.ChangeAt Go.RowKit
set_option linter.unusedVariables false
set_option linter.unusedSimpArgs false
namespace scanGoes
open Door
/-- what is known of a slice of bools that came in -/
def IsBools (w : World) (a : Option Addr) (n c : Nat) (B : Nat → Bool) : Prop := (a = none ∧ n = 0 ∧ c = 0) ∨ ∃ x, a = some x ∧ n ≤ c ∧ c ≤ maxLen ∧ ∀ i, i < c → w.cell? (x.add i) = some (.bool (B i))
theorem IsBools.turns {w : World} {a : Option Addr} {n c : Nat} {B : Nat → Bool} (h : IsBools w a n c B) : TurnsAt w (.slice a ((List.range n).map B).length c) ((List.range n).map B) := by
  rcases h with ⟨rfl, rfl, rfl⟩ | ⟨⟨b, o, spot⟩, rfl, hn, hm, hc⟩
  · exact ⟨none, 0, rfl, by simp, by simp [maxLen], .inl rfl⟩
  · refine ⟨_, c, rfl, by simpa using hn, hm, ?_⟩
    by_cases h0 : n = 0
    · exact .inl (by simp [h0])
    · have hs : spot = none := by
        have := World.cell?_spot (hc 0 (by omega))
        simpa [Addr.add] using this
      subst hs
      refine .inr ⟨b, o, rfl, fun i hi => ?_⟩
      have hi' : i < n := by simpa using hi
      have := hc i (by omega)
      have e : (⟨b, o, none⟩ : Addr).add i = ⟨b, o + i, none⟩ := by simp [Addr.add]
      rw [e] at this
      rw [this]
      simp [List.getD_eq_getElem?_getD, hi']
theorem IsBools.le {w : World} {a : Option Addr} {n c : Nat} {B : Nat → Bool} (h : IsBools w a n c B) : n ≤ maxLen := by
  rcases h with ⟨_, rfl, _⟩ | ⟨_, _, h1, h2, _⟩ <;> omega
theorem walk (a0 : Option Addr) (len0 cap0 : Nat) (z0 : List Int) (a1 a3 : Int) (a2 : Option Addr) (n c : Nat) (B : Nat → Bool) (w : World) (hF : FormsAt w) (w0 : IsRow w a0 len0 cap0 z0) (w1 : (Lit.int .u32 a1).wf = true) (w2 : IsBools w a2 n c B) :
    Calls Tryd.prog 7 #[.slice a0 len0 cap0, .agg #[.int .u32 a1, .slice a2 n c, .int .i64 a3]] w fun e w' => e = .returned (.bool true) ∧ Below w.heap.size w w' := by
  obtain ⟨p0, p1⟩ := wf_u32 w1
  have hml : maxLen = 9223372036854775807 := rfl
  have hnl := w2.le
  rcases w0 with ⟨rfl, rfl, rfl, rfl⟩ | ⟨x, rfl, hl, hm, hz, hc, hw⟩
  · exact goes_small _ 0 0 a1 a3 a2 n c (by omega) (by omega) (by omega) w hF
  · by_cases h : 64 ≤ len0 ∧ len0 ≤ 1024 ∧ len0 % 64 = 0 ∧ n ≤ 100
    · obtain ⟨b, off, spot⟩ := x
      have hs : spot = none := by
        have := World.cell?_spot (hc 0 (by omega))
        simpa [Addr.add] using this
      subst hs
      have hR : ReadsB w ⟨b, off, none⟩ (z0.take len0) := by
        refine ⟨fun i hi => ?_, fun n hn => ?_⟩
        · have hi' : i < len0 := by simp at hi; omega
          rw [hc i (by omega)]
          simp [List.getD_eq_getElem?_getD, hi']
        · exact wf_u8 (hw n (List.mem_of_mem_take hn))
      have hlen : (z0.take len0).length = len0 := by simp; omega
      have hT := w2.turns
      have H := goes_big b off cap0 (z0.take len0) a1 a3 a2 c ((List.range n).map B) p0 p1 (by omega) (by omega) (by omega) (by omega) (by simp; omega) w hF hR hT
      rw [hlen, show ((List.range n).map B).length = n by simp] at H
      exact H
    · exact goes_small _ len0 cap0 a1 a3 a2 n c (by omega) (by omega) h w hF
set_option maxRecDepth 100000 in
theorem lifted (os : Os) (started : os.Started) (H : Type) (enc : TypeId × Value → H) :
    ReturnsInHanded {} Tryd.checked os 7 .any (fun w args => (Rows.scanGoesSpec.pre enc Tryd.prog Tryd.f7 [] false w args ∧ laidMetH Tryd.prog listed w) ∧ sizedMet enc Tryd.prog Tryd.f7 (OpenSpec.ofChange Rows.scanGoesSpec) false w args)
      (Rows.scanGoesSpec.post enc Tryd.prog Tryd.f7 false true false false) := by
  refine returnsInHanded_of_change_and (C := Tryd.checked) (X := fun w _ => laidMetH Tryd.prog listed w) (fun _ _ _ hh h => h.of_heap hh) own started (by kernel_rfl) Tryd.func7
    (ChangeSpec.witness_shaped (enc := enc) (C := Tryd.checked) (os := os) (X := fun w _ => laidMetH Tryd.prog listed w) false (World.doorLaid Tryd.prog 400 os) #[.slice none 0 0, .agg #[.int .u32 0, .slice none 0 0, .int .i64 0]] 8 rfl (World.shaped_of_RefB (by kernel_rfl) (by kernel_rfl)) (by kernel_rfl) (by kernel_rfl) (by kernel_rfl) (door_met os _)) ?_
  intro W base args ds gs before hval0 hW _ _ hL _
  have hval : ∀ (j : Nat) t v, Tryd.f7.params[j]? = some t → args[j]? = some v → Value.okWide Tryd.prog W .any base t v := hval0
  have hW' := hW
  obtain ⟨p, q, hA0, hV, rfl, hfz, hnd⟩ := hW
  have hA : DataW.TrodAll enc Tryd.prog W 0 (fun _ => true) true Tryd.f7.params.toList args.toList ds p := hA0
  rw [Tryd.params7] at hA hval
  obtain ⟨v0, vs0, d0, ds0, p0, q0, hargs, rfl, rfl, h0, r0⟩ := trodAll_cons hA
  obtain ⟨v1, vs1, d1, ds1, p1, q1, rfl, rfl, rfl, h1, r1⟩ := trodAll_cons r0
  obtain ⟨rfl, rfl, rfl⟩ := trodAll_nil r1
  obtain rfl : args = #[v0, v1] := by cases args; simp_all
  obtain ⟨rfl, rfl⟩ := trodVars_none hV
  obtain ⟨a0, len0, cap0, rfl⟩ := okWide_slice Tryd.underlying22 (hval 0 22 v0 rfl rfl)
  have k0 := h0
  have lt0 : ∀ x ∈ p0, x.block < W.heap.size := by obtain ⟨m, hm⟩ := k0; exact DataW.trod_lt m _ _ _ hm
  obtain ⟨z0, w0⟩ : ∃ zs, IsRow W a0 len0 cap0 zs := by
    obtain ⟨fuel, hf⟩ := h0
    rcases open_ints Tryd.underlying22 Tryd.underlying5 (by kernel_rfl) hf with ⟨hcs, _⟩ | ⟨x, l, c, zs, hcs, _, hl, hm, hz, _, hcell, hwz⟩
    · simp [Value.cells] at hcs
      obtain ⟨rfl, rfl, rfl⟩ := hcs
      exact ⟨[], .inl ⟨rfl, rfl, rfl, rfl⟩⟩
    · simp [Value.cells] at hcs
      obtain ⟨rfl, rfl, rfl⟩ := hcs
      exact ⟨zs, .inr ⟨_, rfl, hl, hm, by simpa using hz, hcell, hwz⟩⟩
  have k1 := h1
  have lt1 : ∀ x ∈ p1, x.block < W.heap.size := by obtain ⟨m, hm⟩ := k1; exact DataW.trod_lt m _ _ _ hm
  obtain ⟨c0, c1, c2, y0, y1, y2, m1, rfl, rfl, rfl, e0, e1, e2⟩ := Go.Joins.open_agg3 Tryd.underlying37 (by kernel_rfl) (by kernel_rfl) (hval 1 37 v1 rfl rfl) h1
  obtain ⟨a1, g0, _, w1⟩ := DataW.trod_int Tryd.underlying23 e0
  obtain ⟨a3, g2, _, _⟩ := DataW.trod_int Tryd.underlying3 e2
  simp at g0 g2
  subst g0 g2
  obtain ⟨a2, n, c, B, rfl, w2⟩ : ∃ a2 n c B, c1 = .slice a2 n c ∧ IsBools W a2 n c B := by
    rcases Go.Deep.open_bools Tryd.underlying35 Tryd.underlying4 (by kernel_rfl) e1 with ⟨hcs, _⟩ | ⟨x, l, c, B, hcs, _, hl, hm, _, hcell⟩
    · simp at hcs
      exact ⟨none, 0, 0, fun _ => false, hcs, .inl ⟨rfl, rfl, rfl⟩⟩
    · simp at hcs
      exact ⟨some x, l, c, B, hcs, .inr ⟨x, rfl, hl, hm, hcell⟩⟩
  have hF := of_laid hL
  clear hA0 hval0
  refine (walk a0 len0 cap0 z0 a1 a3 a2 n c B W hF w0 w1 w2).mono fun e W' ⟨he, bel⟩ => ?_
  subst he
  exact ⟨_, rfl, _, _, _, [], _, [], hW', trodAll_mk1 (shut_bool Tryd.underlying4 _), (trodAll_cons_mk (Below.trod laidOut (by kernel_rfl) (of_decide_eq_true (by kernel_rfl)) k0 bel lt0) (trodAll_cons_mk (Below.trod laidOut (by kernel_rfl) (of_decide_eq_true (by kernel_rfl)) k1 bel lt1) trodAll_mk0)), rfl, bel.frame _, fun h => by cases h⟩
end scanGoes
theorem scanGoes_holds : Rows.ScanGoesSaid :=
  OpenClaim.holds_of_wide 7 Tryd.f7 rfl rfl rfl rfl rfl rfl rfl ⟨rfl, rfl, rfl, rfl, rfl⟩ rfl rfl rfl rfl rfl (by kernel_rfl) Tryd.func7 (by kernel_rfl)
    (of_decide_eq_true (by kernel_rfl)) (by unfold Func.isWrapper; first | (rw [if_pos (by decide +kernel)]; kernel_rfl) | (rw [if_neg (by decide +kernel)]; exact ⟨rfl, rfl⟩))
    (fun os started H enc _ => scanGoes.lifted os started H enc)
#print axioms scanGoes_holds
end Go.Proofs.YtnbbhgpflanhaaaDoor
