/- The statement's walk: any blocks added and dropped, in turn. -/
import Derived.Test.YtnbbhgpflanhaaaPInv
namespace Go.Proofs.Ytnbbhgpflanhaaa
open Go.RowKit
set_option linter.unusedVariables false
set_option linter.unusedSimpArgs false
set_option maxRecDepth 100000
def PlayRel (ls : List St) (w : World) (g : Nat) (wv iv : Value) (wr : World) : Prop :=
  ∃ ps F, ∃ i gw cw : Nat, iv = .int .i64 i ∧ i ≤ ls.length ∧ wv = .slice (some ⟨gw, 0, none⟩) ps.length cw ∧ PInv w wr g (20 * i) F gw cw ps
def PlayPost (w : World) (e : Ending) (w' : World) : Prop := e = .returned (.bool true) ∧ Below w.heap.size w w'
/-- what the index and the pairs answer, of one inventory -/
structure Answers (w wr : World) (g : Nat) (gw cw : Nat) (ps : List (Int × Int)) : Prop where
  hit : ∀ w', Below wr.heap.size wr w' → ∀ ab cb bs, (bs : List Bool).length ≤ 100000 → BoolsIn w' (.slice ab bs.length cb) bs → Calls Try.prog 20 #[.pointer (some ⟨g, 0, none⟩), .slice ab bs.length cb] w' (RPost w' (fun x => ∃ p, (x, p) ∈ ps ∧ watS bs p = false))
  rhit : ∀ w', Below wr.heap.size wr w' → ∀ ab cb bs, (bs : List Bool).length ≤ 100000 → BoolsIn w' (.slice ab bs.length cb) bs → Calls Try.prog 21 #[.slice (some ⟨gw, 0, none⟩) ps.length cw, .slice ab bs.length cb] w' (RPost w' (fun x => ∃ p, (x, p) ∈ ps ∧ watS bs p = false))
  pages : ∀ w', Below wr.heap.size wr w' → ∀ id, IntOk id → Calls Try.prog 22 #[.pointer (some ⟨g, 0, none⟩), .int .i64 id] w' (RisePost w' (fun p => (id, p) ∈ ps))
  rpages : ∀ w', Below wr.heap.size wr w' → ∀ id, Calls Try.prog 18 #[.slice (some ⟨gw, 0, none⟩) ps.length cw, .int .i64 id] w' (RPost w' (fun p => (id, p) ∈ ps))
  of : ∀ w', Below wr.heap.size wr w' → ∀ p, IntOk p → Calls Try.prog 12 #[.pointer (some ⟨g, 0, none⟩), .int .i64 p] w' (RisePost w' (fun id => (id, p) ∈ ps))
  rof : ∀ w', Below wr.heap.size wr w' → ∀ p, Calls Try.prog 13 #[.slice (some ⟨gw, 0, none⟩) ps.length cw, .int .i64 p] w' (RPost w' (fun id => (id, p) ∈ ps))
  all : ∀ w', Below wr.heap.size wr w' → Calls Try.prog 14 #[.pointer (some ⟨g, 0, none⟩)] w' (RisePost w' (fun p => ∃ id, (id, p) ∈ ps))
  rall : ∀ w', Below wr.heap.size wr w' → Calls Try.prog 15 #[.slice (some ⟨gw, 0, none⟩) ps.length cw] w' (RPost w' (fun p => ∃ id, (id, p) ∈ ps))
  len : ∀ w', Below wr.heap.size wr w' → Calls Try.prog 16 #[.pointer (some ⟨g, 0, none⟩)] w' (LenPost w' (fun id => ∃ p, (id, p) ∈ ps))
  rids : ∀ w', Below wr.heap.size wr w' → Calls Try.prog 17 #[.slice (some ⟨gw, 0, none⟩) ps.length cw] w' (RPost w' (fun id => ∃ p, (id, p) ∈ ps))
  drop : ∀ w', Below wr.heap.size wr w' → ∀ id, Calls Try.prog 19 #[.slice (some ⟨gw, 0, none⟩) ps.length cw, .int .i64 id] w' (PPost w' (fun q => q ∈ ps ∧ q.1 ≠ id) ps.length)
theorem PInv.answers {w wr : World} {g n : Nat} {F : Nat → Prop} {gw cw : Nat} {ps : List (Int × Int)} (h : PInv w wr g n F gw cw ps) (hn : n ≤ 50000) : Answers w wr g gw cw ps := by
  have hl := h.len
  exact ⟨fun w' hb ab cb bs hbl hbs => hit_calls (h.idx.below hb) (by omega) ab cb bs hbl hbs,
    fun w' hb ab cb bs hbl hbs => rhit_calls _ cw w.heap.size ps ab cb bs (by omega) hbl w' (h.own.below hb) hbs,
    fun w' hb id hid => pages_calls (h.idx.below hb) (by omega) id hid, fun w' hb id => rpages_calls _ cw w.heap.size ps id (by omega) w' (h.own.below hb),
    fun w' hb p hp => of_calls (h.idx.below hb) (by omega) p hp, fun w' hb p => rof_calls _ cw w.heap.size ps p (by omega) w' (h.own.below hb),
    fun w' hb => all_calls (h.idx.below hb) (by omega), fun w' hb => rall_calls _ cw w.heap.size ps (by omega) w' (h.own.below hb),
    fun w' hb => len_calls (h.idx.below hb), fun w' hb => rids_calls _ cw w.heap.size ps (by omega) w' (h.own.below hb),
    fun w' hb id => rdrop_calls _ cw w.heap.size ps id (by omega) w' (h.own.below hb)⟩
theorem PInv.drops {w wr wd w3 : World} {g n : Nat} {F : Nat → Prop} {gw cw : Nat} {ps : List (Int × Int)} {id : Int} (h : PInv w wr g n F gw cw ps) (hd : Below wr.heap.size wr wd) (hi3 : Idx w.heap.size w3 g n (fun a b => (a, b) ∈ ps ∧ a ≠ id) F) (hk3 : Kept F wd w3) :
    OwnG LP w.heap.size w3 (.slice (some ⟨gw, 0, none⟩) ps.length cw) ps ∧ Below w.heap.size w w3 ∧ ∀ w4, Below w3.heap.size w3 w4 → ∀ ps' w5, ∀ g' c' : Nat, OwnG LP w4.heap.size w5 (.slice (some ⟨g', 0, none⟩) ps'.length c') ps' → (∀ q, q ∈ ps' ↔ q ∈ ps ∧ q.1 ≠ id) → ps'.length ≤ ps.length → Below w4.heap.size w4 w5 → PInv w w5 g n F g' c' ps' := by
  obtain ⟨h1, h2, h3⟩ := h.beside ((Kept.of_below hd).trans hk3 (fun x hx => .inl hx)) (fun b hb => .inl hb)
  refine ⟨h1, h3, fun w4 h4 ps' w5 g' c' ho hm hl hb => ?_⟩
  have hlen := h.len
  exact PInv.made (P := fun q => q ∈ ps ∧ q.1 ≠ id) (hi3.below h4) (bl_then h3 h4) ho hm (by omega) hb
theorem drop_said {r : Bool} {id : Int} {ps : List (Int × Int)} {zs : List Int} (hr : r = true ↔ ∃ p, (id, p) ∈ ps) (hm : ∀ x, x ∈ zs ↔ (id, x) ∈ ps) : r = decide ((0 : Int) < zs.length) := by
  rw [Bool.eq_iff_iff, hr, decide_eq_true_eq]
  constructor
  · rintro ⟨p, hp⟩
    have := (hm p).2 hp
    cases zs with
    | nil => cases this
    | cons x t => simp
  · intro h
    cases zs with
    | nil => simp at h
    | cons x t => exact ⟨x, (hm x).1 (by simp)⟩
set_option maxHeartbeats 25600000 in
theorem play_big (a : Option Addr) (c : Nat) (ls : List St) (hl : ls.length ≤ 60) (w : World) (hs : StepsIn w (.slice a ls.length c) ls) :
    Calls Try.prog 4 #[.slice a ls.length c] w (PlayPost w) := by
  have hl' : ¬ (60 : Int) < ls.length := by omega
  have HN := Lib.hid (new_calls w.heap.size w (Nat.le_refl _))
  have HS := Lib.hid hs
  clear hs
  go_enter Try.func4, Try.ntmps4
  go_wp2_with fail
  refine HN.out.mono ?_
  rintro e w1 ⟨g, F, rfl, hi1, hb1, hf1⟩
  have hinv : PInv w (w1.alloc (.cells #[] 52)) g 0 F w1.heap.size 0 [] :=
    ⟨(hi1.below (bl_alloc (Below.refl _ _) (Nat.le_refl _) _)).congr (fun a b => by simp), OwnG.made _ _ hb1.size, fun hf => by have := hi1.lt _ hf; omega, bl_alloc hb1 hb1.size _, Nat.le_refl _⟩
  have HV := Lib.hid hinv
  clear hi1 hb1 hf1 hinv
  go_wp2_with fail
  go_loopw [4, 5] (fun wv iv wr => PlayRel ls w g wv iv wr) (fun _ iv _ => ls.length - (intOf iv).toNat)
  case atStart => exact ⟨[], F, 0, _, _, rfl, Nat.zero_le _, rfl, HV.out⟩
  case round =>
    obtain ⟨ps, F1, i, gw, cw, rfl, hi, rfl, hinv⟩ := hrel
    have hi0 : (0 : Int) ≤ (i : Int) := Int.natCast_nonneg _
    by_cases hlt : i < ls.length
    · obtain ⟨b, o, s, rfl, hb, hsi, hcell, hst⟩ := HS.out.at_ i hlt
      obtain ⟨k0, k1, k2, k3⟩ := hcell wr hinv.below
      obtain ⟨kind, id, pv, zs, wv, bs⟩ := s
      obtain ⟨hrow, hbools, hid, hzo, hzl, hbl⟩ := hst
      simp only at k0 k1 k2 k3 hrow hbools hid hzo hzl hbl
      obtain ⟨av, cv, rfl⟩ := hrow.1
      obtain ⟨aw, cw', rfl⟩ := hbools.1
      have hi1 : (i : Int) < ls.length := by omega
      have hbA : Below wr.heap.size wr (wr.alloc (.cells #[.int .i64 kind, .int .i64 id, .slice av zs.length cv, .slice aw bs.length cw'] 30)) := bl_alloc (Below.refl _ _) (Nat.le_refl _) _
      have hiA := hinv.next hbA
      have hF1lt := hinv.idx.lt
      obtain ⟨wA, hwA⟩ : ∃ wA, wr.alloc (.cells #[.int .i64 kind, .int .i64 id, .slice av zs.length cv, .slice aw bs.length cw'] 30) = wA := ⟨_, rfl⟩
      have hlta : wr.heap.size < wA.heap.size := by rw [← hwA]; simp
      have hbox : ∀ w' : World, w'.heap[wr.heap.size]? = wA.heap[wr.heap.size]? → w'.cell? ⟨wr.heap.size, 0, none⟩ = some (.int .i64 kind) ∧ w'.cell? ⟨wr.heap.size, 1, none⟩ = some (.int .i64 id) ∧ w'.cell? ⟨wr.heap.size, 2, none⟩ = some (.slice av zs.length cv) ∧ w'.cell? ⟨wr.heap.size, 3, none⟩ = some (.slice aw bs.length cw') := fun w' hw' => by
        refine ⟨(World.cell?_of_block (a := ⟨wr.heap.size, 0, none⟩) hw').trans ?_, (World.cell?_of_block (a := ⟨wr.heap.size, 1, none⟩) hw').trans ?_, (World.cell?_of_block (a := ⟨wr.heap.size, 2, none⟩) hw').trans ?_, (World.cell?_of_block (a := ⟨wr.heap.size, 3, none⟩) hw').trans ?_⟩ <;> rw [← hwA] <;> simp
      rw [hwA] at hiA
      have HIA := Lib.hid hiA
      have HBOX := Lib.hid hbox
      have HROW := Lib.hid hrow
      have HBOOLS := Lib.hid hbools
      have HWA := Lib.hid hwA
      have HLTA := Lib.hid hlta
      have HF1 := Lib.hid hF1lt
      have HBR := Lib.hid hinv.below
      clear hcell hsi hinv hbA hiA hbox hrow hbools hlta hF1lt hwA
      by_cases hz : (20 : Int) < zs.length
      · go_wp2_with fail
        rw [HWA.out]
        refine (awake_calls wA).mono ?_
        rintro e w2 ⟨rfl, hb2⟩
        have HB2 := Lib.hid hb2
        clear hb2
        go_wp2_with fail
        go_ret
        exact ⟨rfl, bl_then HIA.out.below HB2.out⟩
      · obtain ⟨pg, hpg, hpgc⟩ : ∃ pg : Int, IntOk pg ∧ ((¬ (0 : Int) < zs.length ∧ pg = 0) ∨ ((0 : Int) < zs.length ∧ ∃ gz oz, av = some ⟨gz, oz, none⟩ ∧ ∀ w', Below w.heap.size w w' → w'.cell? ⟨gz, oz, none⟩ = some (.int .i64 pg))) := by
          cases zs with
          | nil => exact ⟨0, int_ok 0 (by omega) (by omega), .inl ⟨by simp, rfl⟩⟩
          | cons y t =>
            obtain ⟨gz, oz, hgz, hgl, hcz⟩ := HROW.out.cell 0 (by simp)
            exact ⟨y, hzo y (by simp), .inr ⟨by simp, gz, oz, hgz, fun w' hw' => (hw'.cell (p := ⟨gz, oz, none⟩) hgl).trans (by simpa using hcz)⟩⟩
        have hladd : ∀ (F2 : Nat → Prop) (w2 : World), Idx w.heap.size w2 g (20 * i + zs.length) (fun a b => (a, b) ∈ ps ∨ (a = id ∧ b ∈ zs)) F2 → Kept F1 wA w2 → (∀ b, F2 b → F1 b ∨ wA.heap.size ≤ b) → _ := fun F2 w2 h1 h2 h3 => HIA.out.adds (Below.refl _ _) h1 h2 h3 (Below.refl _ _)
        have HLADD := Lib.hid hladd
        have hlen := HIA.out.len
        clear hladd
        rcases hpgc with ⟨hz0, rfl⟩ | ⟨hz0, gz, oz, rfl, hcz⟩
        · by_cases hk1 : kind = 1
          · subst hk1
            have hadd := add_calls HIA.out.idx HIA.out.below.size (by omega) id hid zs hzo (by omega) _ cv (HROW.out.aside HIA.out.idx.base HIA.out.below)
            have HADD := Lib.hid hadd
            clear hadd
            go_wp2_with fail
            rw [HWA.out]
            refine HADD.out.mono ?_
            rintro e w2 ⟨rfl, F2, hi2, hk2, hf2⟩
            obtain ⟨ho2, hb2, hmk⟩ := HLADD.out F2 w2 hi2 hk2 hf2
            have hbx2 := hk2.block wr.heap.size HLTA.out (fun hf => by have := HF1.out _ hf; omega)
            have HRA := Lib.hid (radd_calls gw cw w.heap.size ps id zs _ cv (by omega) (by omega) w2 ho2 (HROW.out.below hb2))
            have HMK := Lib.hid hmk
            have HBX2 := Lib.hid hbx2
            have HB2 := Lib.hid hb2
            obtain ⟨e20, e21, e22, e23⟩ := HBOX.out w2 hbx2
            have HS2 := Lib.hid (Nat.lt_of_lt_of_le HLTA.out hk2.size)
            clear ho2 hb2 hmk hbx2 hi2 hk2 hf2
            go_wp2_with fail
            refine HRA.out.mono ?_
            rintro e wq ⟨ps', g', c', rfl, ho3, hm3, hl3, hb3⟩
            have HPI := Lib.hid ((HMK.out ps' wq g' c' ho3 hm3 hl3 hb3).mono (show 20 * i + zs.length ≤ 20 * (i + 1) by omega))
            have HBX := Lib.hid (fun w' (hw' : Below wq.heap.size wq w') => HBOX.out w' (((hw'.block wr.heap.size (Nat.lt_of_lt_of_le HS2.out hb3.size)).trans (hb3.block wr.heap.size HS2.out)).trans HBX2.out))
            obtain ⟨e30, e31, e32, e33⟩ := HBX.out wq (Below.refl _ _)
            clear ho3 hm3 hl3 hb3 e20 e21 e22 e23
            go_wp2_with fail
            clear e30 e31 e32 e33
            have HANS := Lib.hid (HPI.out.answers (by omega))
            by_cases hw20 : (20 : Int) < bs.length
            · have e3 := (HBX.out wq (Below.refl _ _)).2.2.2
              go_quiet (fail)
              go_wp2_with (go_at_call 6; refine (awake_calls _).mono ?_; rintro e w9 ⟨rfl, hb9⟩; have HB9 := Lib.hid hb9; clear hb9)
              go_ret
              exact ⟨rfl, bl_then (bl_drewN HPI.out.below _) HB9.out⟩
            · go_region_held3 (fun w' => w'.cell? ⟨wr.heap.size, 3, none⟩ = some (.slice aw bs.length cw'))
                (first | exact (HBX.out _ HB7.out).2.2.2 | exact (HBX.out _ HB6.out).2.2.2 | exact (HBX.out _ HB5.out).2.2.2 | exact (HBX.out _ (bl_drew1 (Below.refl _ _))).2.2.2 | exact (HBX.out _ (Below.refl _ _)).2.2.2)
                ((first
                  | (go_at_call 20; refine (HANS.out.hit _ (bl_drew1 (Below.refl wq.heap.size wq)) aw cw' bs (by omega) (HBOOLS.out.below (bl_drew1 HPI.out.below))).mono ?_; rintro e w5 ⟨v5, z5, rfl, h1, h2, h3, h4⟩; have HB5 := Lib.hid (bl_then (bl_drew1 (Below.refl wq.heap.size wq)) h4); have HO5 := Lib.hid h1; have HR5 := Lib.hid h2; have HM5 := Lib.hid h3; clear h1 h2 h3 h4)
                  | (go_at_call 21; refine (HANS.out.rhit _ HB5.out aw cw' bs (by omega) (HBOOLS.out.below (bl_then HPI.out.below HB5.out))).mono ?_; rintro e w6 ⟨v6, z6, rfl, h1, h2, h3, h4⟩; have HB6 := Lib.hid (bl_then HB5.out h4); have HO6 := Lib.hid h1; have HO5' := Lib.hid (HO5.out.below h4); have HR6 := Lib.hid h2; have HM6 := Lib.hid h3; clear h1 h2 h3 h4)
                  | (go_at_call_of 11 v5; refine (same_lists HO5'.out HR5.out HM5.out HO6.out HR6.out HM6.out).mono ?_; rintro e w7 ⟨rfl, kk, hkk⟩; have hbb : Below wq.heap.size wq w7 := (by rw [hkk]; exact bl_drewN HB6.out kk); have HB7 := Lib.hid hbb; clear hkk hbb)))
              go_wp2_with fail
              go_region_held3 (fun w' => w'.cell? ⟨wr.heap.size, 1, none⟩ = some (.int .i64 id))
                (first | exact (HBX.out _ HB17.out).2.1 | exact (HBX.out _ HB16.out).2.1 | exact (HBX.out _ HB15.out).2.1 | exact (HBX.out _ HB14.out).2.1 | exact (HBX.out _ HB13.out).2.1 | exact (HBX.out _ HB12.out).2.1 | exact (HBX.out _ HB11.out).2.1 | exact (HBX.out _ HB10.out).2.1 | exact (HBX.out _ HB9.out).2.1 | exact (HBX.out _ HB8.out).2.1 | exact (HBX.out _ (bl_drew1 HB7.out)).2.1 | exact (HBX.out _ HB7.out).2.1)
                ((first
                  | (go_at_call 22; refine (HANS.out.pages _ (bl_drew1 HB7.out) id hid).mono ?_; rintro e w8 ⟨v8, z8, rfl, h1, h2, h3, h4, h5⟩; have HB8 := Lib.hid (bl_then (bl_drew1 HB7.out) h4); have HO8 := Lib.hid (OwnG.of_row h1); have HR8 := Lib.hid h2; have HM8 := Lib.hid h3; clear h1 h2 h3 h4 h5)
                  | (go_at_call 18; refine (HANS.out.rpages _ HB8.out id).mono ?_; rintro e w9 ⟨v9, z9, rfl, h1, h2, h3, h4⟩; have HB9 := Lib.hid (bl_then HB8.out h4); have HO9 := Lib.hid h1; have HO8' := Lib.hid (HO8.out.below h4); have HR9 := Lib.hid h2; have HM9 := Lib.hid h3; clear h1 h2 h3 h4)
                  | (go_at_call_of 11 v8; refine (same_lists HO8'.out HR8.out HM8.out HO9.out HR9.out HM9.out).mono ?_; rintro e w10 ⟨rfl, kk, hkk⟩; have hbb : Below wq.heap.size wq w10 := (by rw [hkk]; exact bl_drewN HB9.out kk); have HB10 := Lib.hid hbb; clear hkk hbb)
                  | (go_at_call 12; refine (HANS.out.of _ HB10.out _ hpg).mono ?_; rintro e w11 ⟨v11, z11, rfl, h1, h2, h3, h4, h5⟩; have HB11 := Lib.hid (bl_then HB10.out h4); have HO11 := Lib.hid (OwnG.of_row h1); have HR11 := Lib.hid h2; have HM11 := Lib.hid h3; clear h1 h2 h3 h4 h5)
                  | (go_at_call 13; refine (HANS.out.rof _ HB11.out _).mono ?_; rintro e w12 ⟨v12, z12, rfl, h1, h2, h3, h4⟩; have HB12 := Lib.hid (bl_then HB11.out h4); have HO12 := Lib.hid h1; have HO11' := Lib.hid (HO11.out.below h4); have HR12 := Lib.hid h2; have HM12 := Lib.hid h3; clear h1 h2 h3 h4)
                  | (go_at_call_of 11 v11; refine (same_lists HO11'.out HR11.out HM11.out HO12.out HR12.out HM12.out).mono ?_; rintro e w13 ⟨rfl, kk, hkk⟩; have hbb : Below wq.heap.size wq w13 := (by rw [hkk]; exact bl_drewN HB12.out kk); have HB13 := Lib.hid hbb; clear hkk hbb)
                  | (go_at_call 14; refine (HANS.out.all _ HB13.out).mono ?_; rintro e w14 ⟨v14, z14, rfl, h1, h2, h3, h4, h5⟩; have HB14 := Lib.hid (bl_then HB13.out h4); have HO14 := Lib.hid (OwnG.of_row h1); have HR14 := Lib.hid h2; have HM14 := Lib.hid h3; clear h1 h2 h3 h4 h5)
                  | (go_at_call 15; refine (HANS.out.rall _ HB14.out).mono ?_; rintro e w15 ⟨v15, z15, rfl, h1, h2, h3, h4⟩; have HB15 := Lib.hid (bl_then HB14.out h4); have HO15 := Lib.hid h1; have HO14' := Lib.hid (HO14.out.below h4); have HR15 := Lib.hid h2; have HM15 := Lib.hid h3; clear h1 h2 h3 h4)
                  | (go_at_call_of 11 v14; refine (same_lists HO14'.out HR14.out HM14.out HO15.out HR15.out HM15.out).mono ?_; rintro e w16 ⟨rfl, kk, hkk⟩; have hbb : Below wq.heap.size wq w16 := (by rw [hkk]; exact bl_drewN HB15.out kk); have HB16 := Lib.hid hbb; clear hkk hbb)
                  | (go_at_call 16; refine (HANS.out.len _ HB16.out).mono ?_; rintro e w' ⟨rfl, mm, rfl, hmm⟩; have HMM := Lib.hid hmm; clear hmm)
                  | (go_at_call 17; refine (HANS.out.rids _ HB16.out).mono ?_; rintro e w17 ⟨v17, z17, rfl, h1, h2, h3, h4⟩; have HB17 := Lib.hid (bl_then HB16.out h4); obtain ⟨a17, c17, hv17⟩ := h1.slice; subst hv17; obtain rfl : mm = z17.length := HMM.out z17 h2 h3; clear h1 h2 h3 h4)))
              go_wp2_with fail
              go_roundw
              case rel => exact ⟨_, _, i + 1, _, _, by go_num, by omega, rfl, HPI.out.next HB17.out⟩
              case measure => simp [intOf]; omega
          · by_cases hk2 : kind = 2
            · subst hk2
              have HD0 := Lib.hid (fun w' (hw' : Below wA.heap.size wA w') => drop_calls (HIA.out.idx.below hw') (by omega) id hid)
              go_wp2_with fail
              rw [HWA.out]
              go_region_held3 (fun w' => w'.cell? ⟨wr.heap.size, 1, none⟩ = some (.int .i64 id))
                (first | exact (HBX3.out _ HB4.out).2.1 | exact (HBX3.out _ (Below.refl _ _)).2.1 | exact (HBOX.out _ rfl).2.1)
                ((first
                  | (go_at_call 10; refine (HD0.out _ (bl_drew1 (Below.refl _ _))).mono ?_; rintro e w3 ⟨r, rfl, hr, hi3, hk3⟩; have HP3 := Lib.hid (HIA.out.drops (bl_drew1 (Below.refl _ _)) hi3 hk3); have HBX3 := Lib.hid (fun w' (hw' : Below w3.heap.size w3 w') => HBOX.out w' ((hw'.block wr.heap.size (Nat.lt_of_lt_of_le HLTA.out hk3.size)).trans (hk3.block wr.heap.size HLTA.out (fun hf => by have := HF1.out _ hf; omega)))); have HRR := Lib.hid hr; clear hr hi3 hk3)
                  | (go_at_call 18; refine (rpages_calls _ cw w.heap.size ps id (by omega) w3 HP3.out.1).mono ?_; rintro e w4 ⟨v4, z4, rfl, h1, h2, h3, h4⟩; have HB4 := Lib.hid h4; obtain ⟨a4, c4, hv4⟩ := h1.slice; subst hv4; obtain rfl : r = decide ((0 : Int) < z4.length) := drop_said HRR.out h3; clear h1 h2 h3 h4)))
              obtain ⟨e40, e41, e42, e43⟩ := HBX3.out w4 HB4.out
              have HRD := Lib.hid (rdrop_calls _ cw w.heap.size ps id (by omega) w4 (HP3.out.1.below HB4.out))
              go_wp2_with fail
              refine HRD.out.mono ?_
              rintro e wq ⟨ps', g', c', rfl, ho5, hm5, hl5, hb5⟩
              have HPI := Lib.hid ((HP3.out.2.2 w4 HB4.out ps' wq g' c' ho5 hm5 hl5 hb5).mono (show 20 * i ≤ 20 * (i + 1) by omega))
              have HBX := Lib.hid (fun w' (hw' : Below wq.heap.size wq w') => HBX3.out w' ((HB4.out.trans (hb5.mono HB4.out.size)).trans (hw'.mono (Nat.le_trans HB4.out.size hb5.size))))
              obtain ⟨e50, e51, e52, e53⟩ := HBX.out wq (Below.refl _ _)
              clear ho5 hm5 hl5 hb5 e40 e41 e42 e43
              go_wp2_with fail
              clear e50 e51 e52 e53
              have HANS := Lib.hid (HPI.out.answers (by omega))
              by_cases hw20 : (20 : Int) < bs.length
              · have e3 := (HBX.out wq (Below.refl _ _)).2.2.2
                go_quiet (fail)
                go_wp2_with (go_at_call 6; refine (awake_calls _).mono ?_; rintro e w9 ⟨rfl, hb9⟩; have HB9 := Lib.hid hb9; clear hb9)
                go_ret
                exact ⟨rfl, bl_then (bl_drewN HPI.out.below _) HB9.out⟩
              · go_region_held3 (fun w' => w'.cell? ⟨wr.heap.size, 3, none⟩ = some (.slice aw bs.length cw'))
                  (first | exact (HBX.out _ HB7.out).2.2.2 | exact (HBX.out _ HB6.out).2.2.2 | exact (HBX.out _ HB5.out).2.2.2 | exact (HBX.out _ (bl_drew1 (Below.refl _ _))).2.2.2 | exact (HBX.out _ (Below.refl _ _)).2.2.2)
                  ((first
                    | (go_at_call 20; refine (HANS.out.hit _ (bl_drew1 (Below.refl wq.heap.size wq)) aw cw' bs (by omega) (HBOOLS.out.below (bl_drew1 HPI.out.below))).mono ?_; rintro e w5 ⟨v5, z5, rfl, h1, h2, h3, h4⟩; have HB5 := Lib.hid (bl_then (bl_drew1 (Below.refl wq.heap.size wq)) h4); have HO5 := Lib.hid h1; have HR5 := Lib.hid h2; have HM5 := Lib.hid h3; clear h1 h2 h3 h4)
                    | (go_at_call 21; refine (HANS.out.rhit _ HB5.out aw cw' bs (by omega) (HBOOLS.out.below (bl_then HPI.out.below HB5.out))).mono ?_; rintro e w6 ⟨v6, z6, rfl, h1, h2, h3, h4⟩; have HB6 := Lib.hid (bl_then HB5.out h4); have HO6 := Lib.hid h1; have HO5' := Lib.hid (HO5.out.below h4); have HR6 := Lib.hid h2; have HM6 := Lib.hid h3; clear h1 h2 h3 h4)
                    | (go_at_call_of 11 v5; refine (same_lists HO5'.out HR5.out HM5.out HO6.out HR6.out HM6.out).mono ?_; rintro e w7 ⟨rfl, kk, hkk⟩; have hbb : Below wq.heap.size wq w7 := (by rw [hkk]; exact bl_drewN HB6.out kk); have HB7 := Lib.hid hbb; clear hkk hbb)))
                go_wp2_with fail
                go_region_held3 (fun w' => w'.cell? ⟨wr.heap.size, 1, none⟩ = some (.int .i64 id))
                  (first | exact (HBX.out _ HB17.out).2.1 | exact (HBX.out _ HB16.out).2.1 | exact (HBX.out _ HB15.out).2.1 | exact (HBX.out _ HB14.out).2.1 | exact (HBX.out _ HB13.out).2.1 | exact (HBX.out _ HB12.out).2.1 | exact (HBX.out _ HB11.out).2.1 | exact (HBX.out _ HB10.out).2.1 | exact (HBX.out _ HB9.out).2.1 | exact (HBX.out _ HB8.out).2.1 | exact (HBX.out _ (bl_drew1 HB7.out)).2.1 | exact (HBX.out _ HB7.out).2.1)
                  ((first
                    | (go_at_call 22; refine (HANS.out.pages _ (bl_drew1 HB7.out) id hid).mono ?_; rintro e w8 ⟨v8, z8, rfl, h1, h2, h3, h4, h5⟩; have HB8 := Lib.hid (bl_then (bl_drew1 HB7.out) h4); have HO8 := Lib.hid (OwnG.of_row h1); have HR8 := Lib.hid h2; have HM8 := Lib.hid h3; clear h1 h2 h3 h4 h5)
                    | (go_at_call 18; refine (HANS.out.rpages _ HB8.out id).mono ?_; rintro e w9 ⟨v9, z9, rfl, h1, h2, h3, h4⟩; have HB9 := Lib.hid (bl_then HB8.out h4); have HO9 := Lib.hid h1; have HO8' := Lib.hid (HO8.out.below h4); have HR9 := Lib.hid h2; have HM9 := Lib.hid h3; clear h1 h2 h3 h4)
                    | (go_at_call_of 11 v8; refine (same_lists HO8'.out HR8.out HM8.out HO9.out HR9.out HM9.out).mono ?_; rintro e w10 ⟨rfl, kk, hkk⟩; have hbb : Below wq.heap.size wq w10 := (by rw [hkk]; exact bl_drewN HB9.out kk); have HB10 := Lib.hid hbb; clear hkk hbb)
                    | (go_at_call 12; refine (HANS.out.of _ HB10.out _ hpg).mono ?_; rintro e w11 ⟨v11, z11, rfl, h1, h2, h3, h4, h5⟩; have HB11 := Lib.hid (bl_then HB10.out h4); have HO11 := Lib.hid (OwnG.of_row h1); have HR11 := Lib.hid h2; have HM11 := Lib.hid h3; clear h1 h2 h3 h4 h5)
                    | (go_at_call 13; refine (HANS.out.rof _ HB11.out _).mono ?_; rintro e w12 ⟨v12, z12, rfl, h1, h2, h3, h4⟩; have HB12 := Lib.hid (bl_then HB11.out h4); have HO12 := Lib.hid h1; have HO11' := Lib.hid (HO11.out.below h4); have HR12 := Lib.hid h2; have HM12 := Lib.hid h3; clear h1 h2 h3 h4)
                    | (go_at_call_of 11 v11; refine (same_lists HO11'.out HR11.out HM11.out HO12.out HR12.out HM12.out).mono ?_; rintro e w13 ⟨rfl, kk, hkk⟩; have hbb : Below wq.heap.size wq w13 := (by rw [hkk]; exact bl_drewN HB12.out kk); have HB13 := Lib.hid hbb; clear hkk hbb)
                    | (go_at_call 14; refine (HANS.out.all _ HB13.out).mono ?_; rintro e w14 ⟨v14, z14, rfl, h1, h2, h3, h4, h5⟩; have HB14 := Lib.hid (bl_then HB13.out h4); have HO14 := Lib.hid (OwnG.of_row h1); have HR14 := Lib.hid h2; have HM14 := Lib.hid h3; clear h1 h2 h3 h4 h5)
                    | (go_at_call 15; refine (HANS.out.rall _ HB14.out).mono ?_; rintro e w15 ⟨v15, z15, rfl, h1, h2, h3, h4⟩; have HB15 := Lib.hid (bl_then HB14.out h4); have HO15 := Lib.hid h1; have HO14' := Lib.hid (HO14.out.below h4); have HR15 := Lib.hid h2; have HM15 := Lib.hid h3; clear h1 h2 h3 h4)
                    | (go_at_call_of 11 v14; refine (same_lists HO14'.out HR14.out HM14.out HO15.out HR15.out HM15.out).mono ?_; rintro e w16 ⟨rfl, kk, hkk⟩; have hbb : Below wq.heap.size wq w16 := (by rw [hkk]; exact bl_drewN HB15.out kk); have HB16 := Lib.hid hbb; clear hkk hbb)
                    | (go_at_call 16; refine (HANS.out.len _ HB16.out).mono ?_; rintro e w' ⟨rfl, mm, rfl, hmm⟩; have HMM := Lib.hid hmm; clear hmm)
                    | (go_at_call 17; refine (HANS.out.rids _ HB16.out).mono ?_; rintro e w17 ⟨v17, z17, rfl, h1, h2, h3, h4⟩; have HB17 := Lib.hid (bl_then HB16.out h4); obtain ⟨a17, c17, hv17⟩ := h1.slice; subst hv17; obtain rfl : mm = z17.length := HMM.out z17 h2 h3; clear h1 h2 h3 h4)))
                go_wp2_with fail
                go_roundw
                case rel => exact ⟨_, _, i + 1, _, _, by go_num, by omega, rfl, HPI.out.next HB17.out⟩
                case measure => simp [intOf]; omega
            · have hq1 : (kind == 1) = false := beq_eq_false_iff_ne.2 hk1
              have hq2 : (kind == 2) = false := beq_eq_false_iff_ne.2 hk2
              have HPI := Lib.hid (HIA.out.mono (show 20 * i ≤ 20 * (i + 1) by omega))
              have HBX := Lib.hid (fun w' (hw' : Below wA.heap.size wA w') => HBOX.out w' (hw'.block wr.heap.size HLTA.out))
              go_wp2_with fail
              rw [HWA.out]
              obtain ⟨wq, rfl⟩ : ∃ wq : World, wq = wA := ⟨_, rfl⟩
              have HANS := Lib.hid (HPI.out.answers (by omega))
              by_cases hw20 : (20 : Int) < bs.length
              · have e3 := (HBX.out wq (Below.refl _ _)).2.2.2
                go_quiet (fail)
                go_wp2_with (go_at_call 6; refine (awake_calls _).mono ?_; rintro e w9 ⟨rfl, hb9⟩; have HB9 := Lib.hid hb9; clear hb9)
                go_ret
                exact ⟨rfl, bl_then (bl_drewN HPI.out.below _) HB9.out⟩
              · go_region_held3 (fun w' => w'.cell? ⟨wr.heap.size, 3, none⟩ = some (.slice aw bs.length cw'))
                  (first | exact (HBX.out _ HB7.out).2.2.2 | exact (HBX.out _ HB6.out).2.2.2 | exact (HBX.out _ HB5.out).2.2.2 | exact (HBX.out _ (bl_drew1 (Below.refl _ _))).2.2.2 | exact (HBX.out _ (Below.refl _ _)).2.2.2)
                  ((first
                    | (go_at_call 20; refine (HANS.out.hit _ (bl_drew1 (Below.refl wq.heap.size wq)) aw cw' bs (by omega) (HBOOLS.out.below (bl_drew1 HPI.out.below))).mono ?_; rintro e w5 ⟨v5, z5, rfl, h1, h2, h3, h4⟩; have HB5 := Lib.hid (bl_then (bl_drew1 (Below.refl wq.heap.size wq)) h4); have HO5 := Lib.hid h1; have HR5 := Lib.hid h2; have HM5 := Lib.hid h3; clear h1 h2 h3 h4)
                    | (go_at_call 21; refine (HANS.out.rhit _ HB5.out aw cw' bs (by omega) (HBOOLS.out.below (bl_then HPI.out.below HB5.out))).mono ?_; rintro e w6 ⟨v6, z6, rfl, h1, h2, h3, h4⟩; have HB6 := Lib.hid (bl_then HB5.out h4); have HO6 := Lib.hid h1; have HO5' := Lib.hid (HO5.out.below h4); have HR6 := Lib.hid h2; have HM6 := Lib.hid h3; clear h1 h2 h3 h4)
                    | (go_at_call_of 11 v5; refine (same_lists HO5'.out HR5.out HM5.out HO6.out HR6.out HM6.out).mono ?_; rintro e w7 ⟨rfl, kk, hkk⟩; have hbb : Below wq.heap.size wq w7 := (by rw [hkk]; exact bl_drewN HB6.out kk); have HB7 := Lib.hid hbb; clear hkk hbb)))
                go_wp2_with fail
                go_region_held3 (fun w' => w'.cell? ⟨wr.heap.size, 1, none⟩ = some (.int .i64 id))
                  (first | exact (HBX.out _ HB17.out).2.1 | exact (HBX.out _ HB16.out).2.1 | exact (HBX.out _ HB15.out).2.1 | exact (HBX.out _ HB14.out).2.1 | exact (HBX.out _ HB13.out).2.1 | exact (HBX.out _ HB12.out).2.1 | exact (HBX.out _ HB11.out).2.1 | exact (HBX.out _ HB10.out).2.1 | exact (HBX.out _ HB9.out).2.1 | exact (HBX.out _ HB8.out).2.1 | exact (HBX.out _ (bl_drew1 HB7.out)).2.1 | exact (HBX.out _ HB7.out).2.1)
                  ((first
                    | (go_at_call 22; refine (HANS.out.pages _ (bl_drew1 HB7.out) id hid).mono ?_; rintro e w8 ⟨v8, z8, rfl, h1, h2, h3, h4, h5⟩; have HB8 := Lib.hid (bl_then (bl_drew1 HB7.out) h4); have HO8 := Lib.hid (OwnG.of_row h1); have HR8 := Lib.hid h2; have HM8 := Lib.hid h3; clear h1 h2 h3 h4 h5)
                    | (go_at_call 18; refine (HANS.out.rpages _ HB8.out id).mono ?_; rintro e w9 ⟨v9, z9, rfl, h1, h2, h3, h4⟩; have HB9 := Lib.hid (bl_then HB8.out h4); have HO9 := Lib.hid h1; have HO8' := Lib.hid (HO8.out.below h4); have HR9 := Lib.hid h2; have HM9 := Lib.hid h3; clear h1 h2 h3 h4)
                    | (go_at_call_of 11 v8; refine (same_lists HO8'.out HR8.out HM8.out HO9.out HR9.out HM9.out).mono ?_; rintro e w10 ⟨rfl, kk, hkk⟩; have hbb : Below wq.heap.size wq w10 := (by rw [hkk]; exact bl_drewN HB9.out kk); have HB10 := Lib.hid hbb; clear hkk hbb)
                    | (go_at_call 12; refine (HANS.out.of _ HB10.out _ hpg).mono ?_; rintro e w11 ⟨v11, z11, rfl, h1, h2, h3, h4, h5⟩; have HB11 := Lib.hid (bl_then HB10.out h4); have HO11 := Lib.hid (OwnG.of_row h1); have HR11 := Lib.hid h2; have HM11 := Lib.hid h3; clear h1 h2 h3 h4 h5)
                    | (go_at_call 13; refine (HANS.out.rof _ HB11.out _).mono ?_; rintro e w12 ⟨v12, z12, rfl, h1, h2, h3, h4⟩; have HB12 := Lib.hid (bl_then HB11.out h4); have HO12 := Lib.hid h1; have HO11' := Lib.hid (HO11.out.below h4); have HR12 := Lib.hid h2; have HM12 := Lib.hid h3; clear h1 h2 h3 h4)
                    | (go_at_call_of 11 v11; refine (same_lists HO11'.out HR11.out HM11.out HO12.out HR12.out HM12.out).mono ?_; rintro e w13 ⟨rfl, kk, hkk⟩; have hbb : Below wq.heap.size wq w13 := (by rw [hkk]; exact bl_drewN HB12.out kk); have HB13 := Lib.hid hbb; clear hkk hbb)
                    | (go_at_call 14; refine (HANS.out.all _ HB13.out).mono ?_; rintro e w14 ⟨v14, z14, rfl, h1, h2, h3, h4, h5⟩; have HB14 := Lib.hid (bl_then HB13.out h4); have HO14 := Lib.hid (OwnG.of_row h1); have HR14 := Lib.hid h2; have HM14 := Lib.hid h3; clear h1 h2 h3 h4 h5)
                    | (go_at_call 15; refine (HANS.out.rall _ HB14.out).mono ?_; rintro e w15 ⟨v15, z15, rfl, h1, h2, h3, h4⟩; have HB15 := Lib.hid (bl_then HB14.out h4); have HO15 := Lib.hid h1; have HO14' := Lib.hid (HO14.out.below h4); have HR15 := Lib.hid h2; have HM15 := Lib.hid h3; clear h1 h2 h3 h4)
                    | (go_at_call_of 11 v14; refine (same_lists HO14'.out HR14.out HM14.out HO15.out HR15.out HM15.out).mono ?_; rintro e w16 ⟨rfl, kk, hkk⟩; have hbb : Below wq.heap.size wq w16 := (by rw [hkk]; exact bl_drewN HB15.out kk); have HB16 := Lib.hid hbb; clear hkk hbb)
                    | (go_at_call 16; refine (HANS.out.len _ HB16.out).mono ?_; rintro e w' ⟨rfl, mm, rfl, hmm⟩; have HMM := Lib.hid hmm; clear hmm)
                    | (go_at_call 17; refine (HANS.out.rids _ HB16.out).mono ?_; rintro e w17 ⟨v17, z17, rfl, h1, h2, h3, h4⟩; have HB17 := Lib.hid (bl_then HB16.out h4); obtain ⟨a17, c17, hv17⟩ := h1.slice; subst hv17; obtain rfl : mm = z17.length := HMM.out z17 h2 h3; clear h1 h2 h3 h4)))
                go_wp2_with fail
                go_roundw
                case rel => exact ⟨_, _, i + 1, _, _, by go_num, by omega, rfl, HPI.out.next HB17.out⟩
                case measure => simp [intOf]; omega

        · have HCZ := Lib.hid hcz
          clear hcz
          by_cases hk1 : kind = 1
          · subst hk1
            have hadd := add_calls HIA.out.idx HIA.out.below.size (by omega) id hid zs hzo (by omega) _ cv (HROW.out.aside HIA.out.idx.base HIA.out.below)
            have HADD := Lib.hid hadd
            clear hadd
            go_wp2_with fail
            rw [HWA.out]
            refine HADD.out.mono ?_
            rintro e w2 ⟨rfl, F2, hi2, hk2, hf2⟩
            obtain ⟨ho2, hb2, hmk⟩ := HLADD.out F2 w2 hi2 hk2 hf2
            have hbx2 := hk2.block wr.heap.size HLTA.out (fun hf => by have := HF1.out _ hf; omega)
            have HRA := Lib.hid (radd_calls gw cw w.heap.size ps id zs _ cv (by omega) (by omega) w2 ho2 (HROW.out.below hb2))
            have HMK := Lib.hid hmk
            have HBX2 := Lib.hid hbx2
            have HB2 := Lib.hid hb2
            obtain ⟨e20, e21, e22, e23⟩ := HBOX.out w2 hbx2
            have HS2 := Lib.hid (Nat.lt_of_lt_of_le HLTA.out hk2.size)
            clear ho2 hb2 hmk hbx2 hi2 hk2 hf2
            go_wp2_with fail
            refine HRA.out.mono ?_
            rintro e wq ⟨ps', g', c', rfl, ho3, hm3, hl3, hb3⟩
            have HPI := Lib.hid ((HMK.out ps' wq g' c' ho3 hm3 hl3 hb3).mono (show 20 * i + zs.length ≤ 20 * (i + 1) by omega))
            have HBX := Lib.hid (fun w' (hw' : Below wq.heap.size wq w') => HBOX.out w' (((hw'.block wr.heap.size (Nat.lt_of_lt_of_le HS2.out hb3.size)).trans (hb3.block wr.heap.size HS2.out)).trans HBX2.out))
            have ez := HCZ.out wq (bl_then HB2.out hb3)
            obtain ⟨e30, e31, e32, e33⟩ := HBX.out wq (Below.refl _ _)
            clear ho3 hm3 hl3 hb3 e20 e21 e22 e23
            go_wp2_with fail
            clear e30 e31 e32 e33 ez
            have HANS := Lib.hid (HPI.out.answers (by omega))
            by_cases hw20 : (20 : Int) < bs.length
            · have e3 := (HBX.out wq (Below.refl _ _)).2.2.2
              go_quiet (fail)
              go_wp2_with (go_at_call 6; refine (awake_calls _).mono ?_; rintro e w9 ⟨rfl, hb9⟩; have HB9 := Lib.hid hb9; clear hb9)
              go_ret
              exact ⟨rfl, bl_then (bl_drewN HPI.out.below _) HB9.out⟩
            · go_region_held3 (fun w' => w'.cell? ⟨wr.heap.size, 3, none⟩ = some (.slice aw bs.length cw'))
                (first | exact (HBX.out _ HB7.out).2.2.2 | exact (HBX.out _ HB6.out).2.2.2 | exact (HBX.out _ HB5.out).2.2.2 | exact (HBX.out _ (bl_drew1 (Below.refl _ _))).2.2.2 | exact (HBX.out _ (Below.refl _ _)).2.2.2)
                ((first
                  | (go_at_call 20; refine (HANS.out.hit _ (bl_drew1 (Below.refl wq.heap.size wq)) aw cw' bs (by omega) (HBOOLS.out.below (bl_drew1 HPI.out.below))).mono ?_; rintro e w5 ⟨v5, z5, rfl, h1, h2, h3, h4⟩; have HB5 := Lib.hid (bl_then (bl_drew1 (Below.refl wq.heap.size wq)) h4); have HO5 := Lib.hid h1; have HR5 := Lib.hid h2; have HM5 := Lib.hid h3; clear h1 h2 h3 h4)
                  | (go_at_call 21; refine (HANS.out.rhit _ HB5.out aw cw' bs (by omega) (HBOOLS.out.below (bl_then HPI.out.below HB5.out))).mono ?_; rintro e w6 ⟨v6, z6, rfl, h1, h2, h3, h4⟩; have HB6 := Lib.hid (bl_then HB5.out h4); have HO6 := Lib.hid h1; have HO5' := Lib.hid (HO5.out.below h4); have HR6 := Lib.hid h2; have HM6 := Lib.hid h3; clear h1 h2 h3 h4)
                  | (go_at_call_of 11 v5; refine (same_lists HO5'.out HR5.out HM5.out HO6.out HR6.out HM6.out).mono ?_; rintro e w7 ⟨rfl, kk, hkk⟩; have hbb : Below wq.heap.size wq w7 := (by rw [hkk]; exact bl_drewN HB6.out kk); have HB7 := Lib.hid hbb; clear hkk hbb)))
              go_wp2_with fail
              go_region_held3 (fun w' => w'.cell? ⟨wr.heap.size, 1, none⟩ = some (.int .i64 id))
                (first | exact (HBX.out _ HB17.out).2.1 | exact (HBX.out _ HB16.out).2.1 | exact (HBX.out _ HB15.out).2.1 | exact (HBX.out _ HB14.out).2.1 | exact (HBX.out _ HB13.out).2.1 | exact (HBX.out _ HB12.out).2.1 | exact (HBX.out _ HB11.out).2.1 | exact (HBX.out _ HB10.out).2.1 | exact (HBX.out _ HB9.out).2.1 | exact (HBX.out _ HB8.out).2.1 | exact (HBX.out _ (bl_drew1 HB7.out)).2.1 | exact (HBX.out _ HB7.out).2.1)
                ((first
                  | (go_at_call 22; refine (HANS.out.pages _ (bl_drew1 HB7.out) id hid).mono ?_; rintro e w8 ⟨v8, z8, rfl, h1, h2, h3, h4, h5⟩; have HB8 := Lib.hid (bl_then (bl_drew1 HB7.out) h4); have HO8 := Lib.hid (OwnG.of_row h1); have HR8 := Lib.hid h2; have HM8 := Lib.hid h3; clear h1 h2 h3 h4 h5)
                  | (go_at_call 18; refine (HANS.out.rpages _ HB8.out id).mono ?_; rintro e w9 ⟨v9, z9, rfl, h1, h2, h3, h4⟩; have HB9 := Lib.hid (bl_then HB8.out h4); have HO9 := Lib.hid h1; have HO8' := Lib.hid (HO8.out.below h4); have HR9 := Lib.hid h2; have HM9 := Lib.hid h3; clear h1 h2 h3 h4)
                  | (go_at_call_of 11 v8; refine (same_lists HO8'.out HR8.out HM8.out HO9.out HR9.out HM9.out).mono ?_; rintro e w10 ⟨rfl, kk, hkk⟩; have hbb : Below wq.heap.size wq w10 := (by rw [hkk]; exact bl_drewN HB9.out kk); have HB10 := Lib.hid hbb; clear hkk hbb)
                  | (go_at_call 12; refine (HANS.out.of _ HB10.out _ hpg).mono ?_; rintro e w11 ⟨v11, z11, rfl, h1, h2, h3, h4, h5⟩; have HB11 := Lib.hid (bl_then HB10.out h4); have HO11 := Lib.hid (OwnG.of_row h1); have HR11 := Lib.hid h2; have HM11 := Lib.hid h3; clear h1 h2 h3 h4 h5)
                  | (go_at_call 13; refine (HANS.out.rof _ HB11.out _).mono ?_; rintro e w12 ⟨v12, z12, rfl, h1, h2, h3, h4⟩; have HB12 := Lib.hid (bl_then HB11.out h4); have HO12 := Lib.hid h1; have HO11' := Lib.hid (HO11.out.below h4); have HR12 := Lib.hid h2; have HM12 := Lib.hid h3; clear h1 h2 h3 h4)
                  | (go_at_call_of 11 v11; refine (same_lists HO11'.out HR11.out HM11.out HO12.out HR12.out HM12.out).mono ?_; rintro e w13 ⟨rfl, kk, hkk⟩; have hbb : Below wq.heap.size wq w13 := (by rw [hkk]; exact bl_drewN HB12.out kk); have HB13 := Lib.hid hbb; clear hkk hbb)
                  | (go_at_call 14; refine (HANS.out.all _ HB13.out).mono ?_; rintro e w14 ⟨v14, z14, rfl, h1, h2, h3, h4, h5⟩; have HB14 := Lib.hid (bl_then HB13.out h4); have HO14 := Lib.hid (OwnG.of_row h1); have HR14 := Lib.hid h2; have HM14 := Lib.hid h3; clear h1 h2 h3 h4 h5)
                  | (go_at_call 15; refine (HANS.out.rall _ HB14.out).mono ?_; rintro e w15 ⟨v15, z15, rfl, h1, h2, h3, h4⟩; have HB15 := Lib.hid (bl_then HB14.out h4); have HO15 := Lib.hid h1; have HO14' := Lib.hid (HO14.out.below h4); have HR15 := Lib.hid h2; have HM15 := Lib.hid h3; clear h1 h2 h3 h4)
                  | (go_at_call_of 11 v14; refine (same_lists HO14'.out HR14.out HM14.out HO15.out HR15.out HM15.out).mono ?_; rintro e w16 ⟨rfl, kk, hkk⟩; have hbb : Below wq.heap.size wq w16 := (by rw [hkk]; exact bl_drewN HB15.out kk); have HB16 := Lib.hid hbb; clear hkk hbb)
                  | (go_at_call 16; refine (HANS.out.len _ HB16.out).mono ?_; rintro e w' ⟨rfl, mm, rfl, hmm⟩; have HMM := Lib.hid hmm; clear hmm)
                  | (go_at_call 17; refine (HANS.out.rids _ HB16.out).mono ?_; rintro e w17 ⟨v17, z17, rfl, h1, h2, h3, h4⟩; have HB17 := Lib.hid (bl_then HB16.out h4); obtain ⟨a17, c17, hv17⟩ := h1.slice; subst hv17; obtain rfl : mm = z17.length := HMM.out z17 h2 h3; clear h1 h2 h3 h4)))
              go_wp2_with fail
              go_roundw
              case rel => exact ⟨_, _, i + 1, _, _, by go_num, by omega, rfl, HPI.out.next HB17.out⟩
              case measure => simp [intOf]; omega
          · by_cases hk2 : kind = 2
            · subst hk2
              have HD0 := Lib.hid (fun w' (hw' : Below wA.heap.size wA w') => drop_calls (HIA.out.idx.below hw') (by omega) id hid)
              go_wp2_with fail
              rw [HWA.out]
              go_region_held3 (fun w' => w'.cell? ⟨wr.heap.size, 1, none⟩ = some (.int .i64 id))
                (first | exact (HBX3.out _ HB4.out).2.1 | exact (HBX3.out _ (Below.refl _ _)).2.1 | exact (HBOX.out _ rfl).2.1)
                ((first
                  | (go_at_call 10; refine (HD0.out _ (bl_drew1 (Below.refl _ _))).mono ?_; rintro e w3 ⟨r, rfl, hr, hi3, hk3⟩; have HP3 := Lib.hid (HIA.out.drops (bl_drew1 (Below.refl _ _)) hi3 hk3); have HBX3 := Lib.hid (fun w' (hw' : Below w3.heap.size w3 w') => HBOX.out w' ((hw'.block wr.heap.size (Nat.lt_of_lt_of_le HLTA.out hk3.size)).trans (hk3.block wr.heap.size HLTA.out (fun hf => by have := HF1.out _ hf; omega)))); have HRR := Lib.hid hr; clear hr hi3 hk3)
                  | (go_at_call 18; refine (rpages_calls _ cw w.heap.size ps id (by omega) w3 HP3.out.1).mono ?_; rintro e w4 ⟨v4, z4, rfl, h1, h2, h3, h4⟩; have HB4 := Lib.hid h4; obtain ⟨a4, c4, hv4⟩ := h1.slice; subst hv4; obtain rfl : r = decide ((0 : Int) < z4.length) := drop_said HRR.out h3; clear h1 h2 h3 h4)))
              obtain ⟨e40, e41, e42, e43⟩ := HBX3.out w4 HB4.out
              have HRD := Lib.hid (rdrop_calls _ cw w.heap.size ps id (by omega) w4 (HP3.out.1.below HB4.out))
              go_wp2_with fail
              refine HRD.out.mono ?_
              rintro e wq ⟨ps', g', c', rfl, ho5, hm5, hl5, hb5⟩
              have HPI := Lib.hid ((HP3.out.2.2 w4 HB4.out ps' wq g' c' ho5 hm5 hl5 hb5).mono (show 20 * i ≤ 20 * (i + 1) by omega))
              have HBX := Lib.hid (fun w' (hw' : Below wq.heap.size wq w') => HBX3.out w' ((HB4.out.trans (hb5.mono HB4.out.size)).trans (hw'.mono (Nat.le_trans HB4.out.size hb5.size))))
              have ez := HCZ.out wq (bl_then (bl_then HP3.out.2.1 HB4.out) hb5)
              obtain ⟨e50, e51, e52, e53⟩ := HBX.out wq (Below.refl _ _)
              clear ho5 hm5 hl5 hb5 e40 e41 e42 e43
              go_wp2_with fail
              clear e50 e51 e52 e53 ez
              have HANS := Lib.hid (HPI.out.answers (by omega))
              by_cases hw20 : (20 : Int) < bs.length
              · have e3 := (HBX.out wq (Below.refl _ _)).2.2.2
                go_quiet (fail)
                go_wp2_with (go_at_call 6; refine (awake_calls _).mono ?_; rintro e w9 ⟨rfl, hb9⟩; have HB9 := Lib.hid hb9; clear hb9)
                go_ret
                exact ⟨rfl, bl_then (bl_drewN HPI.out.below _) HB9.out⟩
              · go_region_held3 (fun w' => w'.cell? ⟨wr.heap.size, 3, none⟩ = some (.slice aw bs.length cw'))
                  (first | exact (HBX.out _ HB7.out).2.2.2 | exact (HBX.out _ HB6.out).2.2.2 | exact (HBX.out _ HB5.out).2.2.2 | exact (HBX.out _ (bl_drew1 (Below.refl _ _))).2.2.2 | exact (HBX.out _ (Below.refl _ _)).2.2.2)
                  ((first
                    | (go_at_call 20; refine (HANS.out.hit _ (bl_drew1 (Below.refl wq.heap.size wq)) aw cw' bs (by omega) (HBOOLS.out.below (bl_drew1 HPI.out.below))).mono ?_; rintro e w5 ⟨v5, z5, rfl, h1, h2, h3, h4⟩; have HB5 := Lib.hid (bl_then (bl_drew1 (Below.refl wq.heap.size wq)) h4); have HO5 := Lib.hid h1; have HR5 := Lib.hid h2; have HM5 := Lib.hid h3; clear h1 h2 h3 h4)
                    | (go_at_call 21; refine (HANS.out.rhit _ HB5.out aw cw' bs (by omega) (HBOOLS.out.below (bl_then HPI.out.below HB5.out))).mono ?_; rintro e w6 ⟨v6, z6, rfl, h1, h2, h3, h4⟩; have HB6 := Lib.hid (bl_then HB5.out h4); have HO6 := Lib.hid h1; have HO5' := Lib.hid (HO5.out.below h4); have HR6 := Lib.hid h2; have HM6 := Lib.hid h3; clear h1 h2 h3 h4)
                    | (go_at_call_of 11 v5; refine (same_lists HO5'.out HR5.out HM5.out HO6.out HR6.out HM6.out).mono ?_; rintro e w7 ⟨rfl, kk, hkk⟩; have hbb : Below wq.heap.size wq w7 := (by rw [hkk]; exact bl_drewN HB6.out kk); have HB7 := Lib.hid hbb; clear hkk hbb)))
                go_wp2_with fail
                go_region_held3 (fun w' => w'.cell? ⟨wr.heap.size, 1, none⟩ = some (.int .i64 id))
                  (first | exact (HBX.out _ HB17.out).2.1 | exact (HBX.out _ HB16.out).2.1 | exact (HBX.out _ HB15.out).2.1 | exact (HBX.out _ HB14.out).2.1 | exact (HBX.out _ HB13.out).2.1 | exact (HBX.out _ HB12.out).2.1 | exact (HBX.out _ HB11.out).2.1 | exact (HBX.out _ HB10.out).2.1 | exact (HBX.out _ HB9.out).2.1 | exact (HBX.out _ HB8.out).2.1 | exact (HBX.out _ (bl_drew1 HB7.out)).2.1 | exact (HBX.out _ HB7.out).2.1)
                  ((first
                    | (go_at_call 22; refine (HANS.out.pages _ (bl_drew1 HB7.out) id hid).mono ?_; rintro e w8 ⟨v8, z8, rfl, h1, h2, h3, h4, h5⟩; have HB8 := Lib.hid (bl_then (bl_drew1 HB7.out) h4); have HO8 := Lib.hid (OwnG.of_row h1); have HR8 := Lib.hid h2; have HM8 := Lib.hid h3; clear h1 h2 h3 h4 h5)
                    | (go_at_call 18; refine (HANS.out.rpages _ HB8.out id).mono ?_; rintro e w9 ⟨v9, z9, rfl, h1, h2, h3, h4⟩; have HB9 := Lib.hid (bl_then HB8.out h4); have HO9 := Lib.hid h1; have HO8' := Lib.hid (HO8.out.below h4); have HR9 := Lib.hid h2; have HM9 := Lib.hid h3; clear h1 h2 h3 h4)
                    | (go_at_call_of 11 v8; refine (same_lists HO8'.out HR8.out HM8.out HO9.out HR9.out HM9.out).mono ?_; rintro e w10 ⟨rfl, kk, hkk⟩; have hbb : Below wq.heap.size wq w10 := (by rw [hkk]; exact bl_drewN HB9.out kk); have HB10 := Lib.hid hbb; clear hkk hbb)
                    | (go_at_call 12; refine (HANS.out.of _ HB10.out _ hpg).mono ?_; rintro e w11 ⟨v11, z11, rfl, h1, h2, h3, h4, h5⟩; have HB11 := Lib.hid (bl_then HB10.out h4); have HO11 := Lib.hid (OwnG.of_row h1); have HR11 := Lib.hid h2; have HM11 := Lib.hid h3; clear h1 h2 h3 h4 h5)
                    | (go_at_call 13; refine (HANS.out.rof _ HB11.out _).mono ?_; rintro e w12 ⟨v12, z12, rfl, h1, h2, h3, h4⟩; have HB12 := Lib.hid (bl_then HB11.out h4); have HO12 := Lib.hid h1; have HO11' := Lib.hid (HO11.out.below h4); have HR12 := Lib.hid h2; have HM12 := Lib.hid h3; clear h1 h2 h3 h4)
                    | (go_at_call_of 11 v11; refine (same_lists HO11'.out HR11.out HM11.out HO12.out HR12.out HM12.out).mono ?_; rintro e w13 ⟨rfl, kk, hkk⟩; have hbb : Below wq.heap.size wq w13 := (by rw [hkk]; exact bl_drewN HB12.out kk); have HB13 := Lib.hid hbb; clear hkk hbb)
                    | (go_at_call 14; refine (HANS.out.all _ HB13.out).mono ?_; rintro e w14 ⟨v14, z14, rfl, h1, h2, h3, h4, h5⟩; have HB14 := Lib.hid (bl_then HB13.out h4); have HO14 := Lib.hid (OwnG.of_row h1); have HR14 := Lib.hid h2; have HM14 := Lib.hid h3; clear h1 h2 h3 h4 h5)
                    | (go_at_call 15; refine (HANS.out.rall _ HB14.out).mono ?_; rintro e w15 ⟨v15, z15, rfl, h1, h2, h3, h4⟩; have HB15 := Lib.hid (bl_then HB14.out h4); have HO15 := Lib.hid h1; have HO14' := Lib.hid (HO14.out.below h4); have HR15 := Lib.hid h2; have HM15 := Lib.hid h3; clear h1 h2 h3 h4)
                    | (go_at_call_of 11 v14; refine (same_lists HO14'.out HR14.out HM14.out HO15.out HR15.out HM15.out).mono ?_; rintro e w16 ⟨rfl, kk, hkk⟩; have hbb : Below wq.heap.size wq w16 := (by rw [hkk]; exact bl_drewN HB15.out kk); have HB16 := Lib.hid hbb; clear hkk hbb)
                    | (go_at_call 16; refine (HANS.out.len _ HB16.out).mono ?_; rintro e w' ⟨rfl, mm, rfl, hmm⟩; have HMM := Lib.hid hmm; clear hmm)
                    | (go_at_call 17; refine (HANS.out.rids _ HB16.out).mono ?_; rintro e w17 ⟨v17, z17, rfl, h1, h2, h3, h4⟩; have HB17 := Lib.hid (bl_then HB16.out h4); obtain ⟨a17, c17, hv17⟩ := h1.slice; subst hv17; obtain rfl : mm = z17.length := HMM.out z17 h2 h3; clear h1 h2 h3 h4)))
                go_wp2_with fail
                go_roundw
                case rel => exact ⟨_, _, i + 1, _, _, by go_num, by omega, rfl, HPI.out.next HB17.out⟩
                case measure => simp [intOf]; omega
            · have hq1 : (kind == 1) = false := beq_eq_false_iff_ne.2 hk1
              have hq2 : (kind == 2) = false := beq_eq_false_iff_ne.2 hk2
              have HPI := Lib.hid (HIA.out.mono (show 20 * i ≤ 20 * (i + 1) by omega))
              have HBX := Lib.hid (fun w' (hw' : Below wA.heap.size wA w') => HBOX.out w' (hw'.block wr.heap.size HLTA.out))
              have ez := fun ob => HCZ.out (wr.alloc ob) (bl_alloc HBR.out HBR.out.size ob)
              go_wp2_with fail
              rw [HWA.out]
              clear ez
              obtain ⟨wq, rfl⟩ : ∃ wq : World, wq = wA := ⟨_, rfl⟩
              have HANS := Lib.hid (HPI.out.answers (by omega))
              by_cases hw20 : (20 : Int) < bs.length
              · have e3 := (HBX.out wq (Below.refl _ _)).2.2.2
                go_quiet (fail)
                go_wp2_with (go_at_call 6; refine (awake_calls _).mono ?_; rintro e w9 ⟨rfl, hb9⟩; have HB9 := Lib.hid hb9; clear hb9)
                go_ret
                exact ⟨rfl, bl_then (bl_drewN HPI.out.below _) HB9.out⟩
              · go_region_held3 (fun w' => w'.cell? ⟨wr.heap.size, 3, none⟩ = some (.slice aw bs.length cw'))
                  (first | exact (HBX.out _ HB7.out).2.2.2 | exact (HBX.out _ HB6.out).2.2.2 | exact (HBX.out _ HB5.out).2.2.2 | exact (HBX.out _ (bl_drew1 (Below.refl _ _))).2.2.2 | exact (HBX.out _ (Below.refl _ _)).2.2.2)
                  ((first
                    | (go_at_call 20; refine (HANS.out.hit _ (bl_drew1 (Below.refl wq.heap.size wq)) aw cw' bs (by omega) (HBOOLS.out.below (bl_drew1 HPI.out.below))).mono ?_; rintro e w5 ⟨v5, z5, rfl, h1, h2, h3, h4⟩; have HB5 := Lib.hid (bl_then (bl_drew1 (Below.refl wq.heap.size wq)) h4); have HO5 := Lib.hid h1; have HR5 := Lib.hid h2; have HM5 := Lib.hid h3; clear h1 h2 h3 h4)
                    | (go_at_call 21; refine (HANS.out.rhit _ HB5.out aw cw' bs (by omega) (HBOOLS.out.below (bl_then HPI.out.below HB5.out))).mono ?_; rintro e w6 ⟨v6, z6, rfl, h1, h2, h3, h4⟩; have HB6 := Lib.hid (bl_then HB5.out h4); have HO6 := Lib.hid h1; have HO5' := Lib.hid (HO5.out.below h4); have HR6 := Lib.hid h2; have HM6 := Lib.hid h3; clear h1 h2 h3 h4)
                    | (go_at_call_of 11 v5; refine (same_lists HO5'.out HR5.out HM5.out HO6.out HR6.out HM6.out).mono ?_; rintro e w7 ⟨rfl, kk, hkk⟩; have hbb : Below wq.heap.size wq w7 := (by rw [hkk]; exact bl_drewN HB6.out kk); have HB7 := Lib.hid hbb; clear hkk hbb)))
                go_wp2_with fail
                go_region_held3 (fun w' => w'.cell? ⟨wr.heap.size, 1, none⟩ = some (.int .i64 id))
                  (first | exact (HBX.out _ HB17.out).2.1 | exact (HBX.out _ HB16.out).2.1 | exact (HBX.out _ HB15.out).2.1 | exact (HBX.out _ HB14.out).2.1 | exact (HBX.out _ HB13.out).2.1 | exact (HBX.out _ HB12.out).2.1 | exact (HBX.out _ HB11.out).2.1 | exact (HBX.out _ HB10.out).2.1 | exact (HBX.out _ HB9.out).2.1 | exact (HBX.out _ HB8.out).2.1 | exact (HBX.out _ (bl_drew1 HB7.out)).2.1 | exact (HBX.out _ HB7.out).2.1)
                  ((first
                    | (go_at_call 22; refine (HANS.out.pages _ (bl_drew1 HB7.out) id hid).mono ?_; rintro e w8 ⟨v8, z8, rfl, h1, h2, h3, h4, h5⟩; have HB8 := Lib.hid (bl_then (bl_drew1 HB7.out) h4); have HO8 := Lib.hid (OwnG.of_row h1); have HR8 := Lib.hid h2; have HM8 := Lib.hid h3; clear h1 h2 h3 h4 h5)
                    | (go_at_call 18; refine (HANS.out.rpages _ HB8.out id).mono ?_; rintro e w9 ⟨v9, z9, rfl, h1, h2, h3, h4⟩; have HB9 := Lib.hid (bl_then HB8.out h4); have HO9 := Lib.hid h1; have HO8' := Lib.hid (HO8.out.below h4); have HR9 := Lib.hid h2; have HM9 := Lib.hid h3; clear h1 h2 h3 h4)
                    | (go_at_call_of 11 v8; refine (same_lists HO8'.out HR8.out HM8.out HO9.out HR9.out HM9.out).mono ?_; rintro e w10 ⟨rfl, kk, hkk⟩; have hbb : Below wq.heap.size wq w10 := (by rw [hkk]; exact bl_drewN HB9.out kk); have HB10 := Lib.hid hbb; clear hkk hbb)
                    | (go_at_call 12; refine (HANS.out.of _ HB10.out _ hpg).mono ?_; rintro e w11 ⟨v11, z11, rfl, h1, h2, h3, h4, h5⟩; have HB11 := Lib.hid (bl_then HB10.out h4); have HO11 := Lib.hid (OwnG.of_row h1); have HR11 := Lib.hid h2; have HM11 := Lib.hid h3; clear h1 h2 h3 h4 h5)
                    | (go_at_call 13; refine (HANS.out.rof _ HB11.out _).mono ?_; rintro e w12 ⟨v12, z12, rfl, h1, h2, h3, h4⟩; have HB12 := Lib.hid (bl_then HB11.out h4); have HO12 := Lib.hid h1; have HO11' := Lib.hid (HO11.out.below h4); have HR12 := Lib.hid h2; have HM12 := Lib.hid h3; clear h1 h2 h3 h4)
                    | (go_at_call_of 11 v11; refine (same_lists HO11'.out HR11.out HM11.out HO12.out HR12.out HM12.out).mono ?_; rintro e w13 ⟨rfl, kk, hkk⟩; have hbb : Below wq.heap.size wq w13 := (by rw [hkk]; exact bl_drewN HB12.out kk); have HB13 := Lib.hid hbb; clear hkk hbb)
                    | (go_at_call 14; refine (HANS.out.all _ HB13.out).mono ?_; rintro e w14 ⟨v14, z14, rfl, h1, h2, h3, h4, h5⟩; have HB14 := Lib.hid (bl_then HB13.out h4); have HO14 := Lib.hid (OwnG.of_row h1); have HR14 := Lib.hid h2; have HM14 := Lib.hid h3; clear h1 h2 h3 h4 h5)
                    | (go_at_call 15; refine (HANS.out.rall _ HB14.out).mono ?_; rintro e w15 ⟨v15, z15, rfl, h1, h2, h3, h4⟩; have HB15 := Lib.hid (bl_then HB14.out h4); have HO15 := Lib.hid h1; have HO14' := Lib.hid (HO14.out.below h4); have HR15 := Lib.hid h2; have HM15 := Lib.hid h3; clear h1 h2 h3 h4)
                    | (go_at_call_of 11 v14; refine (same_lists HO14'.out HR14.out HM14.out HO15.out HR15.out HM15.out).mono ?_; rintro e w16 ⟨rfl, kk, hkk⟩; have hbb : Below wq.heap.size wq w16 := (by rw [hkk]; exact bl_drewN HB15.out kk); have HB16 := Lib.hid hbb; clear hkk hbb)
                    | (go_at_call 16; refine (HANS.out.len _ HB16.out).mono ?_; rintro e w' ⟨rfl, mm, rfl, hmm⟩; have HMM := Lib.hid hmm; clear hmm)
                    | (go_at_call 17; refine (HANS.out.rids _ HB16.out).mono ?_; rintro e w17 ⟨v17, z17, rfl, h1, h2, h3, h4⟩; have HB17 := Lib.hid (bl_then HB16.out h4); obtain ⟨a17, c17, hv17⟩ := h1.slice; subst hv17; obtain rfl : mm = z17.length := HMM.out z17 h2 h3; clear h1 h2 h3 h4)))
                go_wp2_with fail
                go_roundw
                case rel => exact ⟨_, _, i + 1, _, _, by go_num, by omega, rfl, HPI.out.next HB17.out⟩
                case measure => simp [intOf]; omega
    · have HI := Lib.hid hinv
      have HAW := Lib.hid (awake_calls wr)
      clear hinv
      go_wp2_with (go_at_call 6; refine HAW.out.mono ?_; rintro e w2 ⟨rfl, hb2⟩; have HB2 := Lib.hid hb2; clear hb2)
      go_ret
      exact ⟨rfl, HI.out.below.trans (HB2.out.mono HI.out.below.size)⟩
theorem play_small (a : Option Addr) (n c : Nat) (hn : ¬ n ≤ 60) (hl : (n : Int) ≤ 9223372036854775807) (w : World) :
    Calls Try.prog 4 #[.slice a n c] w (PlayPost w) := by
  have HAW := Lib.hid (awake_calls w)
  have h : (60 : Int) < n := by omega
  go_enter Try.func4, Try.ntmps4
  go_wp2_with (go_at_call 6; refine HAW.out.mono ?_; rintro e w2 ⟨rfl, hb2⟩; have HB2 := Lib.hid hb2; clear hb2)
  go_ret
  exact ⟨rfl, HB2.out⟩
end Go.Proofs.Ytnbbhgpflanhaaa
