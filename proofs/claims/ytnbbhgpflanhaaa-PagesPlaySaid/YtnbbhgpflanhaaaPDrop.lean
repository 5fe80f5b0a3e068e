/- Walks: the index, dropped from; and which of it is hit. -/
import Derived.Test.YtnbbhgpflanhaaaPRefD
namespace Go.Proofs.Ytnbbhgpflanhaaa
open Go.RowKit
set_option linter.unusedVariables false
set_option linter.unusedSimpArgs false
set_option maxRecDepth 100000
theorem take_one {B : Nat} {w : World} {g c : Nat} {S : Int → Int → Prop} {F : Nat → Prop} {bp bb : Nat} {Fp Fb : Nat → Prop} {Tp Tb : Int → Option Nat} (h : IdxIn B w g c S F bp bb Fp Fb Tp Tb) (id p : Int) {w1 : World} {Tp' : Int → Option Nat}
    (h1 : Half w1 bp c (fun a b => S a b ∧ ¬ (a = id ∧ b = p)) Fp Tp') (k1 : Kept Fp w w1) :
    Half w1 bb c (fun p id => S id p) Fb Tb ∧ (w1.cell? ⟨g, 1, none⟩ = some (.map (some bb))) ∧
    ∀ w2 Tb', Half w2 bb c (fun a b => S b a ∧ ¬ (a = p ∧ b = id)) Fb Tb' → Kept Fb w1 w2 → Idx B w2 g c (fun a b => S a b ∧ ¬ (a = id ∧ b = p)) F ∧ Kept F w w2 := by
  have hgl := h.lt g h.gF
  have hg1 : w1.heap[g]? = w.heap[g]? := k1.block g hgl h.gp
  refine ⟨h.bl.move (fun b hb => k1.block b (h.bl.lt b hb) (fun hp => h.apart b hp hb)) k1.size, ?_, fun w2 Tb' h2 k2 => ?_⟩
  · rw [World.cell?_of_block (a := ⟨g, 1, none⟩) hg1]; exact h.cells.2
  · have hs1 := k1.size
    have hs2 := k2.size
    refine ⟨⟨bp, bb, Fp, Fb, Tp', Tb', ?_, h1.move (fun b hb => k2.block b (h1.lt b hb) (h.apart b hb)) hs2, h2.congr (fun a b => by rw [and_comm (a := a = p)]), h.apart, h.gp, h.gb, h.gF, h.pF, h.bF, h.base, fun b hb => by have := h.lt b hb; omega⟩, (k1.mono h.pF).trans (k2.mono h.bF) (fun x hx => .inl hx)⟩
    rw [k2.block g (by omega) h.gb, hg1]; exact h.hdr
def DropPost (B : Nat) (w : World) (g c : Nat) (S : Int → Int → Prop) (id : Int) (F : Nat → Prop) (e : Ending) (w' : World) : Prop :=
  ∃ r : Bool, e = .returned (.bool r) ∧ (r = true ↔ ∃ p, S id p) ∧ Idx B w' g c (fun a b => S a b ∧ a ≠ id) F ∧ Kept F w w'
def DropRel (B : Nat) (w : World) (g c : Nat) (S : Int → Int → Prop) (id : Int) (F : Nat → Prop) (zs : List Int) (iv : Value) (wr : World) : Prop :=
  ∃ k : Nat, iv = .int .i64 k ∧ k ≤ zs.length ∧ Idx B wr g c (fun a b => S a b ∧ ¬ (a = id ∧ b ∈ zs.take k)) F ∧ Kept F w wr
set_option maxHeartbeats 3200000 in
theorem drop_calls {B : Nat} {w : World} {g c : Nat} {S : Int → Int → Prop} {F : Nat → Prop} (h : Idx B w g c S F) (hc : c ≤ 100000) (id : Int) (hid : IntOk id) :
    Calls Try.prog 10 #[.pointer (some ⟨g, 0, none⟩), .int .i64 id] w (DropPost B w g c S id F) := by
  have hpg := pages_calls h hc id hid
  have HP := Lib.hid hpg
  have HX := Lib.hid h
  have hok : ∀ p, S id p → IntOk p := by
    obtain ⟨bp, bb, Fp, Fb, Tp, Tb, hin⟩ := h
    intro p hp
    obtain ⟨zs, _, hz, _, hio⟩ := hin.bl.tab.rise
    exact hio p ((hz p).2 ((hin.bl.dom p).2 ⟨id, hp⟩))
  have HOK := Lib.hid hok
  clear hpg h hok
  go_enter Try.func10, Try.ntmps10
  go_wp2_with fail
  refine HP.out.mono ?_
  rintro e w1 ⟨v, zs, rfl, h1, h2, h3, h4, h5⟩
  have hI1 := HX.out.below h4
  have hR1 : RowAt w1 F v zs := RowAt.of_own h1 (fun b hb hf => by have := HX.out.lt b hf; omega)
  have hK1 : Kept F w w1 := Kept.of_below h4
  obtain ⟨av, cv, hv⟩ := hR1.1
  subst hv
  have HI1 := Lib.hid hI1
  have HR1 := Lib.hid hR1
  have HK1 := Lib.hid hK1
  have H2 := Lib.hid h2
  have H3 := Lib.hid h3
  have hlz : (zs.length : Int) ≤ 9223372036854775807 := by
    have := (OwnG.len_le (OwnG.of_row h1)).2
    simp only [maxLen] at this
    omega
  clear h1 h2 h3 h4 h5 hI1 hR1 hK1
  go_wp2_with fail
  go_loopw [13] (fun iv wr => DropRel B w1 g c S id F zs iv wr) (fun iv _ => zs.length - (intOf iv).toNat)
  case atStart => exact ⟨0, rfl, Nat.zero_le _, HI1.out.congr (fun a b => by simp), Kept.refl _ _⟩
  case round =>
    obtain ⟨k, rfl, hk, hI, hK⟩ := hrel
    have hk0 : (0 : Int) ≤ (k : Int) := Int.natCast_nonneg _
    by_cases hlt : k < zs.length
    · obtain ⟨bp, bb, Fp, Fb, Tp, Tb, hin⟩ := hI
      have hr' := HR1.out.kept hK (fun b hb => .inl hb)
      obtain ⟨gr, o, c', hv, _, _, hcs⟩ := hr'.2.resolve_left (fun h => by rw [h] at hlt; simp at hlt)
      simp only [Value.slice.injEq] at hv
      obtain ⟨rfl, _, rfl⟩ := hv
      have hck := hcs k hlt
      obtain ⟨e0, e1⟩ := hin.cells
      have hmz : zs.getD k 0 ∈ zs := by rw [List.getD_eq_getElem?_getD, List.getElem?_eq_getElem hlt]; simp
      have htk : zs.take (k + 1) = zs.take k ++ [zs.getD k 0] := by rw [List.take_succ_eq_append_getElem hlt]; simp [List.getD_eq_getElem?_getD, hlt]
      have hnt : zs.getD k 0 ∉ zs.take k := by
        have hnd := H2.out.nodup
        rw [← List.take_append_drop (k + 1) zs, htk] at hnd
        have := (List.nodup_append.1 hnd).1
        exact fun hm => (List.nodup_append.1 this).2.2 _ hm _ (by simp) rfl
      have hzk := HOK.out _ ((H3.out _).1 hmz)
      have hS1 : S id (zs.getD k 0) := (H3.out _).1 hmz
      generalize zs.getD k 0 = p at *
      have hp1 := take_calls hin.pg hid hzk ⟨hS1, fun h => hnt h.2⟩
      have ho := fun w1 Tp' => take_one hin id p (w1 := w1) (Tp' := Tp')
      have HP1 := Lib.hid hp1
      have HO := Lib.hid ho
      have HK := Lib.hid hK
      have HT := Lib.hid htk
      have HS1 := Lib.hid hS1
      have HS2 := Lib.hid hnt
      have hk1 : (k : Int) < zs.length := by omega
      clear hin hp1 ho hK htk hcs hr' hS1 hnt hmz
      go_wp2_with fail
      refine HP1.out.mono ?_
      rintro e w2 ⟨rfl, Tp', h1, k1⟩
      obtain ⟨hb1, e1', hfin⟩ := HO.out w2 Tp' h1 k1
      have HB1 := Lib.hid hb1
      have HFIN := Lib.hid hfin
      clear h1 k1 hb1 hfin
      go_wp2_with fail
      refine (take_calls HB1.out hzk hid ⟨HS1.out, fun h => HS2.out h.2⟩).mono ?_
      rintro e w3 ⟨rfl, Tb', h2, k2⟩
      obtain ⟨hI2, hK2⟩ := HFIN.out w3 Tb' h2 k2
      have HI2 := Lib.hid hI2
      have HK2 := Lib.hid hK2
      clear h2 k2 hI2 hK2
      go_wp2_with fail
      go_roundw
      case rel =>
        refine ⟨k + 1, by go_num, by omega, HI2.out.congr (fun a b => ?_), HK.out.trans HK2.out (fun x hx => .inl hx)⟩
        rw [HT.out, List.mem_append, List.mem_singleton]
        constructor
        · rintro ⟨⟨h, h'⟩, h''⟩
          exact ⟨h, fun ⟨e, e'⟩ => e'.elim (fun e' => h' ⟨e, e'⟩) (fun e' => h'' ⟨e, e'⟩)⟩
        · rintro ⟨h, h'⟩
          exact ⟨⟨h, fun ⟨e, e'⟩ => h' ⟨e, .inl e'⟩⟩, fun ⟨e, e'⟩ => h' ⟨e, .inr e'⟩⟩
      case measure => simp [intOf]; omega
    · obtain rfl : k = zs.length := by omega
      rw [List.take_length] at hI
      have hI' : Idx B wr g c (fun a b => S a b ∧ a ≠ id) F := hI.congr (fun a b => by
        rw [H3.out b]
        constructor
        · rintro ⟨h, h'⟩
          exact ⟨h, fun e => h' ⟨e, by rw [← e]; exact h⟩⟩
        · rintro ⟨h, h'⟩
          exact ⟨h, fun e => h' e.1⟩)
      have hK' := HK1.out.trans hK (fun x hx => .inl hx)
      have HI := Lib.hid hI'
      have HK := Lib.hid hK'
      clear hI hK hI' hK'
      by_cases hz : zs.length = 0
      · have hz0 : ¬ (0 : Int) < zs.length := by omega
        go_wp2_with fail
        go_ret
        refine ⟨_, rfl, ?_, HI.out, HK.out⟩
        have he := List.length_eq_zero_iff.1 hz
        subst he
        simp
        exact fun p hp => by have := (H3.out p).2 hp; cases this
      · have hz0 : (0 : Int) < zs.length := by omega
        go_wp2_with fail
        go_ret
        refine ⟨_, rfl, ?_, HI.out, HK.out⟩
        obtain ⟨p, hp⟩ : ∃ p, p ∈ zs := by
          cases zs with
          | nil => simp at hz
          | cons x t => exact ⟨x, by simp⟩
        simp
        constructor
        · intro _
          exact ⟨p, (H3.out p).1 hp⟩
        · intro _
          omega
end Go.Proofs.Ytnbbhgpflanhaaa
