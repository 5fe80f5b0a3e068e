/- Walks: which blocks are hit, by the index. -/
import Derived.Test.YtnbbhgpflanhaaaPHit
namespace Go.Proofs.Ytnbbhgpflanhaaa
open Go.RowKit Go.Shelf
set_option linter.unusedVariables false
set_option linter.unusedSimpArgs false
set_option maxRecDepth 100000
theorem has_puts (k : Lit) : ∀ (es : List (Lit × DataW Unit)) (D : DataW Unit), Maps.IsMap D → (∀ p ∈ es, WideAt.IsKeyLit p.1) → Maps.has (es.foldl (fun D p => D.put p.1 p.2) D) k = (Maps.has D k || es.any (fun p => p.1.sameKey k))
  | [], D, _, _ => by simp
  | p :: r, D, hm, hk => by
    rw [List.foldl_cons, has_puts k r _ (hm.put _ _) (fun q hq => hk q (by simp [hq])), List.any_cons]
    by_cases e : k = p.1
    · subst e
      rw [Maps.has_put_same hm (hk p (by simp)), WideAt.sameKey_self (hk p (by simp))]
      simp
    · rw [Maps.has_put_other e, Maps.sameKey_ne (fun e' => e e'.symm)]
      simp
theorem copy_calls {w : World} {bd nd ns : Nat} {ps : Option Nat} {Sd Ss : Int → Prop} (hd : SetAt w bd nd Sd) (hs : (ps = none ∧ ∀ x, ¬ Ss x) ∨ ∃ b, ps = some b ∧ SetAt w b ns Ss) (hne : ps ≠ some bd) (hroom : nd + ns ≤ 1000000000000) :
    Calls Try.prog 30 #[.map (some bd), .map ps] w fun e w' => e = .returned (.tuple #[]) ∧ SetAt w' bd (nd + ns) (fun x => Sd x ∨ Ss x) ∧ w.grownBy w' (some bd) := by
  obtain ⟨Dd, hod, hdm⟩ := hd
  have hml : maxLen = 9223372036854775807 := rfl
  rcases hs with ⟨rfl, hno⟩ | ⟨b, rfl, Ds, hos, hsm⟩
  · have h := AnyX.maps_Copy_opt (ρ := Try.copyA_ren) Try.copyA keyed (plainElem Try.prog 3) bd nd none Dd .nil w hod (.inl ⟨rfl, rfl⟩) (by simp) (by simp [Maps.size]; omega)
    refine h.mono fun e w' ⟨h1, h2, h3⟩ => ⟨h1, ⟨Dd, World.ownsMap.mono (show w'.ownsMap Try.prog 3 (plainElem Try.prog 3) bd (nd + Maps.size (.nil : DataW Unit)) Dd from h2) (by simp [Maps.size]), fun x => ?_⟩, h3⟩
    rw [hdm x]
    simp [hno x]
  · have hsz := hos.size_le
    have h := AnyX.maps_Copy_opt (ρ := Try.copyA_ren) Try.copyA keyed (plainElem Try.prog 3) bd nd (some b) Dd Ds w hod (.inr ⟨b, ns, rfl, hos⟩) hne (by omega)
    refine h.mono fun e w' ⟨h1, h2, h3⟩ => ⟨h1, ⟨_, World.ownsMap.mono (show w'.ownsMap Try.prog 3 (plainElem Try.prog 3) bd (nd + Maps.size Ds) (Lib.mergeD Dd Ds) from h2) (by omega), fun x => ?_⟩, h3⟩
    obtain ⟨es, rfl, _, hk⟩ := hos.canon keyed
    rw [show Lib.mergeD Dd (.map es) = es.foldl (fun D p => D.put p.1 p.2) Dd from rfl, has_puts _ es Dd hod.isMap hk, Bool.or_eq_true, hdm x, ← Maps.has_eq, hsm x]
def HitIRel (B : Nat) (w w2 : World) (g c : Nat) (S : Int → Int → Prop) (F : Nat → Prop) (bs : List Bool) (zs : List Int) (bo : Nat) (iv : Value) (wr : World) : Prop :=
  ∃ k : Nat, iv = .int .i64 k ∧ k ≤ zs.length ∧ SetAt wr bo (k * c) (fun x => ∃ p, p ∈ zs.take k ∧ watS bs p = false ∧ S x p) ∧ Idx B wr g c S F ∧ Kept (fun b => b = bo) w2 wr ∧ Below w.heap.size w wr
set_option maxHeartbeats 6400000 in
theorem hit_calls {B : Nat} {w : World} {g c : Nat} {S : Int → Int → Prop} {F : Nat → Prop} (h : Idx B w g c S F) (hc : c ≤ 100000) (ab : Option Addr) (cb : Nat) (bs : List Bool) (hbl : bs.length ≤ 100000) (hb0 : BoolsIn w (.slice ab bs.length cb) bs) :
    Calls Try.prog 20 #[.pointer (some ⟨g, 0, none⟩), .slice ab bs.length cb] w (RPost w (fun x => ∃ p, S x p ∧ watS bs p = false)) := by
  have hmm := @run_makeMap Try.prog
  have hA : Below w.heap.size w (w.alloc (.map #[] 0)) := bl_alloc (Below.refl _ _) (Nat.le_refl _) _
  have hI1 := h.below hA
  have hlt0 := h.lt
  have hall := all_calls hI1 hc
  have hzc : ∀ zs, Rise zs → (∀ p, p ∈ zs ↔ ∃ id, S id p) → zs.length ≤ c ∧ ∀ p ∈ zs, IntOk p := fun zs hz hm => by
    obtain ⟨bp, bb, Fp, Fb, Tp, Tb, hin⟩ := h
    obtain ⟨zs', h1, h2, h3, h4⟩ := hin.bl.tab.rise
    have : zs = zs' := rise_eq hz h1 (fun p => (hm p).trans ((hin.bl.dom p).symm.trans (h2 p).symm))
    subst this
    exact ⟨h3, h4⟩
  have HALL := Lib.hid hall
  have HI1 := Lib.hid hI1
  have HBS := Lib.hid hb0
  have HZC := Lib.hid hzc
  have HA := Lib.hid hA
  have HLT := Lib.hid hlt0
  have HS0 := Lib.hid (SetAt.made w)
  clear hA hI1 hall h hb0 hzc hlt0
  go_enter Try.func20, Try.ntmps20
  go_wp2_with fail
  refine HALL.out.mono ?_
  rintro e w2 ⟨v, zs, rfl, h1, h2, h3, h4, h5⟩
  have hszA : (w.alloc (.map #[] 0)).heap.size = w.heap.size + 1 := by simp
  have hsz2 : w.heap.size + 1 ≤ w2.heap.size := by have := h4.size; omega
  have hR : RowAt w2 (fun b => b = w.heap.size) v zs := RowAt.of_own h1 (fun b hb e => by omega)
  obtain ⟨av, cv, hv⟩ := hR.1
  subst hv
  obtain ⟨hzl, hzo⟩ := HZC.out zs h2 h3
  have HR := Lib.hid hR
  have HI2 := Lib.hid (HI1.out.below h4)
  have HS2 := Lib.hid (HS0.out.move (h4.block w.heap.size (by omega)))
  have HB2 := Lib.hid (HA.out.trans (h4.mono HA.out.size))
  have H2 := Lib.hid h2
  have H3 := Lib.hid h3
  have hlz : (zs.length : Int) ≤ 9223372036854775807 := by omega
  clear h1 h2 h3 h4 h5 hR hszA
  go_wp2_with fail
  go_loopw [12] (fun iv wr => HitIRel B w w2 g c S F bs zs w.heap.size iv wr) (fun iv _ => zs.length - (intOf iv).toNat)
  case atStart => exact ⟨0, rfl, Nat.zero_le _, (HS2.out.congr (fun x => by simp)).mono (by omega), HI2.out, Kept.refl _ _, HB2.out⟩
  case round =>
    obtain ⟨k, rfl, hk, hset, hI, hK, hb⟩ := hrel
    have hk0 : (0 : Int) ≤ (k : Int) := Int.natCast_nonneg _
    by_cases hlt : k < zs.length
    · obtain ⟨bp, bb, Fp, Fb, Tp, Tb, hin⟩ := hI
      have hr' := HR.out.kept hK (fun b hb => .inl hb)
      obtain ⟨gr, o, c', hv, _, _, hcs⟩ := hr'.2.resolve_left (fun h => by rw [h] at hlt; simp at hlt)
      simp only [Value.slice.injEq] at hv
      obtain ⟨rfl, _, rfl⟩ := hv
      have hck := hcs k hlt
      have hmz : zs.getD k 0 ∈ zs := by rw [List.getD_eq_getElem?_getD, List.getElem?_eq_getElem hlt]; simp
      have htk : zs.take (k + 1) = zs.take k ++ [zs.getD k 0] := by rw [List.take_succ_eq_append_getElem hlt]; simp [List.getD_eq_getElem?_getD, hlt]
      have hpok := hzo _ hmz
      obtain ⟨e0, e1⟩ := hin.cells
      generalize zs.getD k 0 = p at *
      have hg := hin.bl.tab.get hpok
      have hbsr := HBS.out.below hb
      have hk1 : (k : Int) < zs.length := by omega
      have hkc : k * c + c ≤ 1000000000000 := by
        have : k * c ≤ 100000 * 100000 := Nat.mul_le_mul (by omega) hc
        omega
      have hsrc : (Tb p = none ∧ ∀ x, ¬ S x p) ∨ ∃ b, Tb p = some b ∧ SetAt wr b c (fun x => S x p) := by
        cases hT : Tb p with
        | none => exact .inl ⟨rfl, fun x hx => hin.bl.none_ p hT x hx⟩
        | some b => exact .inr ⟨b, rfl, hin.bl.sets p b hT⟩
      have hnb : Tb p ≠ some w.heap.size := fun e => by have := HLT.out _ (hin.bF _ (hin.bl.inF p _ e)); omega
      have hcopy := copy_calls hset hsrc hnb hkc
      have hyes : watS bs p = true → SetAt wr w.heap.size ((k + 1) * c) (fun x => ∃ q, q ∈ zs.take (k + 1) ∧ watS bs q = false ∧ S x q) := fun hw => by
        refine (hset.congr (fun x => ?_)).mono (by rw [Nat.add_mul]; omega)
        rw [htk]
        constructor
        · rintro ⟨q, h1, h2⟩
          exact ⟨q, by simp [h1], h2⟩
        · rintro ⟨q, h1, h2⟩
          rcases List.mem_append.1 h1 with h1 | h1
          · exact ⟨q, h1, h2⟩
          · simp at h1
            subst h1
            rw [hw] at h2
            cases h2.1
      have hno : watS bs p = false → ∀ w3, SetAt w3 w.heap.size (k * c + c) (fun x => (∃ q, q ∈ zs.take k ∧ watS bs q = false ∧ S x q) ∨ S x p) → wr.grownBy w3 (some w.heap.size) →
          HitIRel B w w2 g c S F bs zs w.heap.size (.int .i64 ((k : Int) + 1)) w3 := fun hw w3 hs3 hg3 => by
        have hk3 : Kept (fun b => b = w.heap.size) wr w3 := Kept.of_grown hg3 rfl
        refine ⟨k + 1, by go_num, by omega, (hs3.congr (fun x => ?_)).mono (by rw [Nat.add_mul]; omega), ⟨bp, bb, Fp, Fb, Tp, Tb, hin.move (fun b hf => hk3.block b (hin.lt b hf) (fun e => by have := HLT.out b hf; omega)) hk3.size⟩, hK.trans hk3 (fun x hx => .inl hx), hb.trans (hk3.below hb.size (fun b e => by omega))⟩
        rw [htk]
        constructor
        · rintro (⟨q, h1, h2⟩ | h)
          · exact ⟨q, by simp [h1], h2⟩
          · exact ⟨p, by simp, hw, h⟩
        · rintro ⟨q, h1, h2, h3⟩
          rcases List.mem_append.1 h1 with h1 | h1
          · exact .inl ⟨q, h1, h2, h3⟩
          · simp at h1
            subst h1
            exact .inr h3
      have HIN := Lib.hid hin
      have HK := Lib.hid hK
      have HB := Lib.hid hb
      have HC := Lib.hid hcopy
      have HY := Lib.hid hyes
      have HN := Lib.hid hno
      have HBR := Lib.hid hbsr
      clear hin hK hb hcopy hyes hno hbsr hsrc hset hcs hr' htk hnb
      by_cases h0 : p < 0
      · have hw : watS bs p = false := by simp [watS]; omega
        have HW := Lib.hid hw
        have h0' : ¬ (0 : Int) ≤ p := by omega
        clear hw
        go_wp2_with (go_at_call 30; refine HC.out.mono ?_; rintro e w3 ⟨rfl, hs3, hg3⟩; have HS3 := Lib.hid hs3; have HG3 := Lib.hid hg3; clear hs3 hg3)
        go_roundw
        case rel => exact HN.out HW.out w3 HS3.out HG3.out
        case measure => simp [intOf]; omega
      · by_cases h1 : p < bs.length
        · obtain ⟨m, rfl⟩ : ∃ m : Nat, p = m := ⟨p.toNat, by omega⟩
          obtain ⟨gb, ob, rfl, hgb, cb0⟩ := HBR.out.cell m (by omega)
          have hm0 : (0 : Int) ≤ (m : Int) := Int.natCast_nonneg _
          have h2' : decide (m < bs.length) = true := decide_eq_true (by omega)
          have hww : watS bs m = bs.getD m false := by simp [watS]; omega
          cases hv : bs.getD m false
          · rw [hv] at cb0
            have hw : watS bs m = false := by rw [hww, hv]
            have HW := Lib.hid hw
            clear hww hv hw
            go_wp2_with (go_at_call 30; refine HC.out.mono ?_; rintro e w3 ⟨rfl, hs3, hg3⟩; have HS3 := Lib.hid hs3; have HG3 := Lib.hid hg3; clear hs3 hg3)
            go_roundw
            case rel => exact HN.out HW.out w3 HS3.out HG3.out
            case measure => simp [intOf]; omega
          · rw [hv] at cb0
            have hw : watS bs m = true := by rw [hww, hv]
            have HW := Lib.hid hw
            clear hww hv hw
            go_wp2_with fail
            go_roundw
            case rel => exact ⟨k + 1, by go_num, by omega, HY.out HW.out, ⟨bp, bb, Fp, Fb, Tp, Tb, HIN.out⟩, HK.out, HB.out⟩
            case measure => simp [intOf]; omega
        · have hw : watS bs p = false := by simp [watS]; omega
          have HW := Lib.hid hw
          have h0' : (0 : Int) ≤ p := by omega
          have h1' : ¬ p < (bs.length : Int) := h1
          clear hw
          go_wp2_with (go_at_call 30; refine HC.out.mono ?_; rintro e w3 ⟨rfl, hs3, hg3⟩; have HS3 := Lib.hid hs3; have HG3 := Lib.hid hg3; clear hs3 hg3)
          go_roundw
          case rel => exact HN.out HW.out w3 HS3.out HG3.out
          case measure => simp [intOf]; omega
    · obtain rfl : k = zs.length := by omega
      rw [List.take_length] at hset
      have hset' : SetAt wr w.heap.size (zs.length * c) (fun x => ∃ p, S x p ∧ watS bs p = false) := hset.congr (fun x => by
        constructor
        · rintro ⟨p, h1, h2, h3⟩
          exact ⟨p, h3, h2⟩
        · rintro ⟨p, h1, h2⟩
          exact ⟨p, (H3.out p).2 ⟨x, h1⟩, h2, h1⟩)
      have hzcc : zs.length * c ≤ 100000 * 100000 := Nat.mul_le_mul (by omega) hc
      have hs := sorted_calls w.heap.size _ _ wr hset' (by omega)
      have HSO := Lib.hid hs
      have HB := Lib.hid hb
      clear hset hset' hI hK hb hs hzcc
      go_wp2_with fail
      refine HSO.out.mono ?_
      rintro e w3 ⟨v, zs', rfl, h1, h2, h3, h4, h5⟩
      have H1 := Lib.hid h1
      have H3' := Lib.hid h3
      have H4 := Lib.hid h4
      clear h1 h3 h4 h5
      go_wp2_with fail
      go_ret
      exact ⟨v, zs', rfl, (OwnG.of_row H1.out).mono HB.out.size, h2, H3'.out, HB.out.trans (H4.out.mono HB.out.size)⟩
end Go.Proofs.Ytnbbhgpflanhaaa
