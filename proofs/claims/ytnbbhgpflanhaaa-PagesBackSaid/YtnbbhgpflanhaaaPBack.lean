/- The statement's walk: what is added and dropped leaves any index as it was. -/
import Derived.Test.YtnbbhgpflanhaaaPInv
namespace Go.Proofs.Ytnbbhgpflanhaaa
open Go.RowKit
set_option linter.unusedVariables false
set_option linter.unusedSimpArgs false
set_option maxRecDepth 100000
def BackRel (ls : List St) (id : Int) (w : World) (g : Nat) (wv iv : Value) (wr : World) : Prop :=
  ∃ ps F, ∃ i gw cw : Nat, iv = .int .i64 i ∧ i ≤ ls.length ∧ wv = .slice (some ⟨gw, 0, none⟩) ps.length cw ∧ PInv w wr g (20 * i) F gw cw ps ∧ ∀ q ∈ ps, q.1 ≠ id
def BackPost (w : World) (e : Ending) (w' : World) : Prop := e = .returned (.bool true) ∧ Below w.heap.size w w'
set_option maxHeartbeats 6400000 in
theorem back_big (a : Option Addr) (c : Nat) (ls : List St) (id : Int) (ap : Option Addr) (cp : Nat) (p : List Int) (hl : ls.length ≤ 60) (hp : p.length ≤ 20) (hid : IntOk id) (hpo : ∀ x ∈ p, IntOk x) (w : World) (hs : StepsIn w (.slice a ls.length c) ls) (hpr : InRow w (.slice ap p.length cp) p) :
    Calls Try.prog 3 #[.slice a ls.length c, .int .i64 id, .slice ap p.length cp] w (BackPost w) := by
  have hl' : ¬ (60 : Int) < ls.length := by omega
  have hp' : ¬ (20 : Int) < p.length := by omega
  have HN := Lib.hid (new_calls w.heap.size w (Nat.le_refl _))
  have HS := Lib.hid hs
  have HPR := Lib.hid hpr
  have HPO := Lib.hid hpo
  clear hs hpr hpo
  go_enter Try.func3, Try.ntmps3
  go_wp2_with fail
  refine HN.out.mono ?_
  rintro e w1 ⟨g, F, rfl, hi1, hb1, hf1⟩
  have hinv : PInv w (w1.alloc (.cells #[] 52)) g 0 F w1.heap.size 0 [] :=
    ⟨(hi1.below (bl_alloc (Below.refl _ _) (Nat.le_refl _) _)).congr (fun a b => by simp), OwnG.made _ _ hb1.size, fun hf => by have := hi1.lt _ hf; omega, bl_alloc hb1 hb1.size _, Nat.le_refl _⟩
  have HV := Lib.hid hinv
  clear hi1 hb1 hf1 hinv
  go_wp2_with fail
  go_loopw [8, 9] (fun wv iv wr => BackRel ls id w g wv iv wr) (fun _ iv _ => ls.length - (intOf iv).toNat)
  case atStart => exact ⟨[], F, 0, _, _, rfl, Nat.zero_le _, rfl, HV.out, by simp⟩
  case round =>
    obtain ⟨ps, F1, i, gw, cw, rfl, hi, rfl, hinv, hne⟩ := hrel
    have hi0 : (0 : Int) ≤ (i : Int) := Int.natCast_nonneg _
    by_cases hlt : i < ls.length
    · obtain ⟨b, o, s, rfl, hb, hsi, hcell, hst⟩ := HS.out.at_ i hlt
      obtain ⟨k0, k1, k2, k3⟩ := hcell wr hinv.below
      have hstr := hst.below hinv.below
      obtain ⟨av, cv, hpv⟩ := hstr.row.1
      rw [hpv] at k2
      have hi1 : (i : Int) < ls.length := by omega
      have hzl := hst.zl
      have HC := Lib.hid hcell
      have HST := Lib.hid hstr
      have HST0 := Lib.hid hst
      have HI := Lib.hid hinv
      have HNE := Lib.hid hne
      have HPV := Lib.hid hpv
      clear hcell hst hstr hinv hne hsi hpv
      by_cases hz : (20 : Int) < s.zs.length
      · have HAW := Lib.hid (awake_calls wr)
        go_wp2_with (go_at_call 6; refine HAW.out.mono ?_; rintro e w2 ⟨rfl, hb2⟩; have HB2 := Lib.hid hb2; clear hb2)
        go_ret
        exact ⟨rfl, HI.out.below.trans (HB2.out.mono HI.out.below.size)⟩
      · by_cases hid' : s.id = id
        · have hq : (s.id != id) = false := by simp [hid']
          go_wp2_with fail
          go_roundw
          case rel => exact ⟨ps, F1, i + 1, gw, cw, by go_num, by omega, rfl, HI.out.mono (by omega), HNE.out⟩
          case measure => simp [intOf]; omega
        · have hq : (s.id != id) = true := by simp [bne, hid']
          have hlen := HI.out.len
          have hadd := fun w' (hb' : Below wr.heap.size wr w') => add_calls (HI.out.idx.below hb') (by have := HI.out.below.size; have := hb'.size; omega) (by omega) s.id HST.out.idOk s.zs HST.out.zsOk (by omega) av cv (by
            have := HST0.out.row.aside HI.out.idx.base (bl_then HI.out.below hb')
            rw [HPV.out] at this
            exact this)
          have hcs := fun w' (hb' : Below w.heap.size w w') => (show w'.cell? ⟨b, o + i * 4 + 1, none⟩ = some (.int .i64 s.id) ∧ w'.cell? ⟨b, o + i * 4 + 2, none⟩ = some (.slice av s.zs.length cv) from ⟨(HC.out w' hb').2.1, by rw [← HPV.out]; exact (HC.out w' hb').2.2.1⟩)
          have HADD := Lib.hid hadd
          have HCS := Lib.hid hcs
          have hk0' : (0 : Int) ≤ (i : Int) := hi0
          clear hadd hcs k0 k3
          go_wp2_with fail
          go_region_held3 (fun w' => w'.cell? ⟨b, o + i * 4 + 1, none⟩ = some (.int .i64 s.id) ∧ w'.cell? ⟨b, o + i * 4 + 2, none⟩ = some (.slice av s.zs.length cv))
            (first | exact HCS.out _ HB2.out | exact HCS.out _ (bl_drew1 HI.out.below) | exact HCS.out _ HI.out.below)
            ((first | (go_at_call 8; refine (HADD.out _ (bl_drew1 (Below.refl _ _))).mono ?_; rintro e w2 ⟨rfl, F2, hi2, hk2, hf2⟩; have HB2 := Lib.hid (HI.out.adds (bl_drew1 (Below.refl _ _)) hi2 hk2 hf2 (Below.refl _ _)).2.1; have HA2 := Lib.hid (HI.out.adds (bl_drew1 (Below.refl _ _)) hi2 hk2 hf2 (bl_drew1 (Below.refl w2.heap.size w2))); clear hi2 hk2 hf2)))
          obtain ⟨ho2, hb2, hmk⟩ := HA2.out
          obtain ⟨k1', k2'⟩ := HCS.out w2 HB2.out
          have hzs2 : InRow w2.drew (.slice av s.zs.length cv) s.zs := by
            have := HST0.out.row.below hb2
            rw [HPV.out] at this
            exact this
          have hradd := radd_calls gw cw w.heap.size ps s.id s.zs av cv (by omega) (by omega) w2.drew ho2 hzs2
          have HRA := Lib.hid hradd
          have HMK := Lib.hid hmk
          clear ho2 hb2 hmk hzs2 hradd k1 k2
          go_wp2_with fail
          go_region_held3 (fun w' => w'.cell? ⟨b, o + i * 4 + 1, none⟩ = some (.int .i64 s.id) ∧ w'.cell? ⟨b, o + i * 4 + 2, none⟩ = some (.slice av s.zs.length cv))
            (first | exact HCS.out _ HB3.out | exact HCS.out _ (bl_drew1 HB2.out) | exact HCS.out _ HB2.out)
            ((first | (go_at_call 9; refine HRA.out.mono ?_; rintro e w3 ⟨ps', g', c', rfl, ho3, hm3, hl3, hb3⟩; have HB3 := Lib.hid (bl_then (bl_drew1 HB2.out) hb3); have HP3 := Lib.hid (HMK.out ps' w3 g' c' ho3 hm3 hl3 hb3); have HM3 := Lib.hid hm3; clear ho3 hm3 hl3 hb3)))
          go_wp2_with fail
          go_roundw
          case rel =>
            refine ⟨ps', F2, i + 1, g', c', by go_num, by omega, rfl, HP3.out.mono (by omega), fun q hq => ?_⟩
            rcases (HM3.out q).1 hq with h | ⟨h, _⟩
            · exact HNE.out q h
            · rw [h]; exact hid'
          case measure => simp [intOf]; omega
    · obtain rfl : i = ls.length := by omega
      have hpz : (p.length : Int) ≤ 9223372036854775807 := by omega
      have hN : 20 * ls.length ≤ 1200 := by omega
      have hadd := add_calls hinv.idx hinv.below.size (by omega) id hid p HPO.out (by omega) ap cp (HPR.out.aside hinv.idx.base hinv.below)
      have HADD := Lib.hid hadd
      have HI := Lib.hid hinv
      have HNE := Lib.hid hne
      clear hadd hinv hne
      go_wp2_with fail
      refine HADD.out.mono ?_
      rintro e w2 ⟨rfl, F2, hi2, hk2, hf2⟩
      obtain ⟨ho2, hg2, hb2⟩ := HI.out.beside hk2 hf2
      have hd := drop_calls hi2 (by omega) id hid
      have HD := Lib.hid hd
      have HO2 := Lib.hid ho2
      have HG2 := Lib.hid hg2
      have HB2 := Lib.hid hb2
      have HB2' := Lib.hid hi2.base
      clear hi2 hk2 hf2 ho2 hg2 hb2 hd
      go_wp2_with fail
      refine HD.out.mono ?_
      rintro e w3 ⟨r, rfl, hr, hi3, hk3⟩
      have hp3 : PInv w w3 g (20 * ls.length + p.length) F2 gw cw ps := by
        refine ⟨hi3.congr (fun a b => ?_), HO2.out.move (fun k hk' => ?_), HG2.out, HB2.out.trans (hk3.below HB2.out.size HB2'.out), by have := HI.out.len; omega⟩
        · constructor
          · rintro ⟨h | ⟨h, _⟩, h'⟩
            · exact h
            · exact absurd h h'
          · intro h
            exact ⟨.inl h, HNE.out _ h⟩
        · have : gw = k := by simpa [Value.ownBlock] using hk'
          subst this
          exact hk3.block gw (HO2.out.lt gw (by simp [Value.ownBlock])) HG2.out
      have hr' : r = decide ((0 : Int) < p.length) := by
        rw [Bool.eq_iff_iff, hr, decide_eq_true_eq]
        constructor
        · rintro ⟨q, h | ⟨_, h⟩⟩
          · exact absurd rfl (HNE.out _ h)
          · cases p with
            | nil => cases h
            | cons x t => simp
        · intro h
          cases p with
          | nil => simp at h
          | cons x t => exact ⟨x, .inr ⟨rfl, by simp⟩⟩
      have hd4 := drop_calls hp3.idx (by omega) id hid
      have HD4 := Lib.hid hd4
      have HP3 := Lib.hid hp3
      clear hr hi3 hk3 hp3 hd4
      have hneq : (r != decide ((0 : Int) < p.length)) = false := by rw [hr']; simp
      subst hr'
      go_wp2_with fail
      refine HD4.out.mono ?_
      rintro e w4 ⟨r, rfl, hr, hi4, hk4⟩
      have hrf : r = false := by
        rw [Bool.eq_false_iff, ne_eq, hr]
        rintro ⟨q, h⟩
        exact absurd rfl (HNE.out _ h)
      obtain ⟨ho4, hg4, hb4⟩ := HP3.out.beside hk4 (fun b hb => .inl hb)
      have hp4 : PInv w w4 g (20 * ls.length + p.length) F2 gw cw ps := ⟨hi4.congr (fun a b => ⟨fun h => h.1, fun h => ⟨h, HNE.out _ h⟩⟩), ho4, hg4, hb4, HP3.out.len⟩
      have HP4 := Lib.hid hp4
      clear hr hi4 hk4 ho4 hg4 hb4 hp4 hneq
      subst hrf
      go_wp2_with fail
      go_loopw [10] (fun iv wr => ∃ k : Nat, iv = .int .i64 k ∧ k ≤ p.length ∧ PInv w wr g (20 * ls.length + p.length) F2 gw cw ps) (fun iv _ => p.length - (intOf iv).toNat)
      case atStart => exact ⟨0, rfl, Nat.zero_le _, HP4.out⟩
      case round =>
        obtain ⟨k, rfl, hk, hp5⟩ := hrel
        have hk0 : (0 : Int) ≤ (k : Int) := Int.natCast_nonneg _
        by_cases hkl : k < p.length
        · obtain ⟨gp, op, rfl, hgp, cp0⟩ := HPR.out.cell k hkl
          have hmp : p.getD k 0 ∈ p := by rw [List.getD_eq_getElem?_getD, List.getElem?_eq_getElem hkl]; simp
          have hpok := HPO.out _ hmp
          generalize p.getD k 0 = y at *
          have hcs := fun w' (hb' : Below w.heap.size w w') => (hb'.cell (p := ⟨gp, op + k, none⟩) hgp).trans cp0
          have hof := fun w' (hb' : Below wr.heap.size wr w') => of_calls (hp5.idx.below hb') (by omega) y hpok
          have hrof := fun w' (hb' : Below wr.heap.size wr w') => rof_calls (some ⟨gw, 0, none⟩) cw w.heap.size ps y (by have := hp5.len; omega) w' (hp5.own.below hb')
          have HCS := Lib.hid hcs
          have HOF := Lib.hid hof
          have HROF := Lib.hid hrof
          have HP5 := Lib.hid hp5
          have hk1 : (k : Int) < p.length := by omega
          clear hcs hof hrof hp5 cp0 hmp
          go_wp2_with fail
          go_region_held3 (fun w' => w'.cell? ⟨gp, op + k, none⟩ = some (.int .i64 y))
            (first | exact HCS.out _ (bl_then HP5.out.below HB7.out) | exact HCS.out _ (bl_then HP5.out.below HB6.out) | exact HCS.out _ (bl_then HP5.out.below HB5.out) | exact HCS.out _ (bl_drew1 HP5.out.below) | exact HCS.out _ HP5.out.below)
            ((first
              | (go_at_call 12; refine (HOF.out _ (bl_drew1 (Below.refl _ _))).mono ?_; rintro e w5 ⟨v5, z5, rfl, h51, h52, h53, h54, h55⟩; have HB5 := Lib.hid (bl_then (bl_drew1 (Below.refl wr.heap.size wr)) h54); have HO5 := Lib.hid (OwnG.of_row h51); have HR5 := Lib.hid h52; have HM5 := Lib.hid h53; clear h51 h52 h53 h54 h55)
              | (go_at_call 13; refine (HROF.out _ HB5.out).mono ?_; rintro e w6 ⟨v6, z6, rfl, h61, h62, h63, h64⟩; have HB6 := Lib.hid (bl_then HB5.out h64); have HO6 := Lib.hid h61; have HO5' := Lib.hid (HO5.out.below h64); have HR6 := Lib.hid h62; have HM6 := Lib.hid h63; clear h61 h62 h63 h64)
              | (go_at_call 11; refine (same_lists HO5'.out HR5.out HM5.out HO6.out HR6.out HM6.out).mono ?_; rintro e w7 ⟨rfl, k7, hk7⟩; have hb7 : Below wr.heap.size wr w7 := (by rw [hk7]; exact bl_drewN HB6.out k7); have HB7 := Lib.hid hb7; clear hk7 hb7)))
          go_wp2_with fail
          go_roundw
          case rel => exact ⟨k + 1, by go_num, by omega, HP5.out.next HB7.out⟩
          case measure => simp [intOf]; omega
        · have hall := all_calls hp5.idx (by omega)
          have hrall := fun w' (hb' : Below wr.heap.size wr w') => rall_calls (some ⟨gw, 0, none⟩) cw w.heap.size ps (by have := hp5.len; omega) w' (hp5.own.below hb')
          have hrids := fun w' (hb' : Below wr.heap.size wr w') => rids_calls (some ⟨gw, 0, none⟩) cw w.heap.size ps (by have := hp5.len; omega) w' (hp5.own.below hb')
          have hlen := fun w' (hb' : Below wr.heap.size wr w') => len_calls (hp5.idx.below hb')
          have HALL := Lib.hid hall
          have HRALL := Lib.hid hrall
          have HRIDS := Lib.hid hrids
          have HLEN := Lib.hid hlen
          have HP5 := Lib.hid hp5
          clear hall hrall hrids hlen hp5
          go_wp2_with fail
          refine HALL.out.mono ?_
          rintro e w5 ⟨v5, z5, rfl, h51, h52, h53, h54, h55⟩
          have HB5 := Lib.hid h54
          have HO5 := Lib.hid (OwnG.of_row h51)
          have HR5 := Lib.hid h52
          have HM5 := Lib.hid h53
          clear h51 h52 h53 h54 h55
          go_wp2_with fail
          refine (HRALL.out _ HB5.out).mono ?_
          rintro e w6 ⟨v6, z6, rfl, h61, h62, h63, h64⟩
          have HB6 := Lib.hid (bl_then HB5.out h64)
          have HO6 := Lib.hid h61
          have HO5' := Lib.hid (HO5.out.below h64)
          have HR6 := Lib.hid h62
          have HM6 := Lib.hid h63
          clear h61 h62 h63 h64
          go_wp2_with fail
          refine (same_lists HO5'.out HR5.out HM5.out HO6.out HR6.out HM6.out).mono ?_
          rintro e w7 ⟨rfl, k7, hk7⟩
          have hb7 : Below wr.heap.size wr w7 := by rw [hk7]; exact bl_drewN HB6.out k7
          have HB7 := Lib.hid hb7
          clear hk7 hb7
          go_wp2_with fail
          refine (HLEN.out _ HB7.out).mono ?_
          rintro e w8 ⟨rfl, m, rfl, hm⟩
          have HM := Lib.hid hm
          clear hm
          go_wp2_with fail
          refine (HRIDS.out _ HB7.out).mono ?_
          rintro e w9 ⟨v9, z9, rfl, h91, h92, h93, h94⟩
          have hmz : m = z9.length := HM.out z9 h92 h93
          subst hmz
          obtain ⟨a9, c9, hv9⟩ := h91.slice
          subst hv9
          have HB9 := Lib.hid (bl_then HB7.out h94)
          have HAW := Lib.hid (awake_calls w9)
          clear h91 h92 h93 h94
          go_wp2_with fail
          refine HAW.out.mono ?_
          rintro e w10 ⟨rfl, hb10⟩
          have HB10 := Lib.hid (bl_then HB9.out hb10)
          clear hb10
          go_wp2_with fail
          go_ret
          exact ⟨rfl, bl_then HP5.out.below HB10.out⟩
theorem back_small (a : Option Addr) (n c : Nat) (id : Int) (ap : Option Addr) (np cp : Nat) (hn : ¬ (n ≤ 60 ∧ np ≤ 20)) (hl : (n : Int) ≤ 9223372036854775807) (hl2 : (np : Int) ≤ 9223372036854775807) (w : World) :
    Calls Try.prog 3 #[.slice a n c, .int .i64 id, .slice ap np cp] w (BackPost w) := by
  have HAW := Lib.hid (awake_calls w)
  by_cases h : (60 : Int) < n
  · go_enter Try.func3, Try.ntmps3
    go_wp2_with (go_at_call 6; refine HAW.out.mono ?_; rintro e w2 ⟨rfl, hb2⟩; have HB2 := Lib.hid hb2; clear hb2)
    go_ret
    exact ⟨rfl, HB2.out⟩
  · have h' : (20 : Int) < np := by omega
    go_enter Try.func3, Try.ntmps3
    go_wp2_with (go_at_call 6; refine HAW.out.mono ?_; rintro e w2 ⟨rfl, hb2⟩; have HB2 := Lib.hid hb2; clear hb2)
    go_ret
    exact ⟨rfl, HB2.out⟩
end Go.Proofs.Ytnbbhgpflanhaaa
