/- Walks: the reference's rows along turns. -/
import Derived.Test.YtnbbhgpflanhaaaDoorRefP
import Derived.Test.YtnbbhgpflanhaaaDoorPathAlong
namespace Go.Proofs.YtnbbhgpflanhaaaDoor
open Go.RowKit
set_option maxRecDepth 100000
set_option linter.unusedVariables false
set_option linter.unusedSimpArgs false
def QRel (bs : List Int) (N : Nat) (R : List Itm) (ts : List Bool) (w : World) (pcv outv turnv : Value) (wr : World) : Prop :=
  ∃ xs p, ∃ j : Nat, pcv = .int .u32 p ∧ turnv = .int .i64 j ∧ j ≤ ts.length ∧ 0 ≤ p ∧ p ≤ 4294967295 ∧ OwnI 70 w.heap.size wr outv xs ∧ Below w.heap.size w wr ∧ xs.length ≤ N ∧ xs ++ pathS bs false (N - xs.length) p (ts.drop j) = R
theorem on_plain (x : Itm) (ts : List Bool) (h : isBranch x.i.op = false) : onS false x ts = (decide (x.i.op ≠ 4), x, ts) := by simp [onS, h]
theorem on_nil (x : Itm) (h : isBranch x.i.op = true) : onS false x [] = (false, x, []) := by simp [onS, h]
theorem on_f (x : Itm) (r : List Bool) (h : isBranch x.i.op = true) : onS false x (false :: r) = (true, x, r) := by simp [onS, h]
theorem on_t (x : Itm) (r : List Bool) (h : isBranch x.i.op = true) (h4 : x.i.imm % 4 = 0) : onS false x (true :: r) = (true, ⟨x.pc, x.i, (x.pc + x.i.imm) % 4294967296⟩, r) := by simp [onS, h, h4]
theorem on_u (x : Itm) (r : List Bool) (h : isBranch x.i.op = true) (h4 : ¬ x.i.imm % 4 = 0) : onS false x (true :: r) = (false, x, r) := by simp [onS, h, h4]
theorem drop_one (ts : List Bool) (j : Nat) (h : j < ts.length) : ts.drop j = ts.getD j false :: ts.drop (j + 1) := by
  rw [List.drop_eq_getElem_cons h]
  simp [List.getD_eq_getElem?_getD, h]
set_option maxHeartbeats 25600000 in
theorem rpath_path (b off c : Nat) (bs : List Int) (pc most : Int) (N : Nat) (ts : List Bool) (ta : Option Addr) (tc : Nat) (p0 : 0 ≤ pc) (p1 : pc ≤ 4294967295) (hN : (32 < most ∧ N = 32) ∨ (¬ 32 < most ∧ N = most.toNat)) (hl : bs.length ≤ 65536) (hcap : bs.length ≤ c)
    (htl : ts.length ≤ 100) (w : World) (hR : ReadsB w ⟨b, off, none⟩ bs) (hT : TurnsAt w (.slice ta ts.length tc) ts) :
    Calls Tryd.prog 14 #[.slice (some ⟨b, off, none⟩) bs.length c, .int .u32 pc, .slice ta ts.length tc, .int .i64 most, .bool false] w (RowPost 70 w (pathS bs false N pc ts)) := by
  obtain ⟨R, hRR⟩ : ∃ R, pathS bs false N pc ts = R := ⟨_, rfl⟩
  have hN32 : N ≤ 32 := by omega
  obtain ⟨i0, hi0, hzz⟩ := Option.map_eq_some_iff.1 info_ritem
  simp only [Prod.mk.injEq] at hzz
  obtain ⟨hz0, hz1, hz2⟩ := hzz
  have HI := Lib.hid hi0
  have HZ := Lib.hid hz0
  have HZ1 := Lib.hid hz1
  have HZ2 := Lib.hid hz2
  have HNe := Lib.hid hN
  have HTA := Lib.hid hT
  clear hi0 hz0 hz1 hz2 hN hT
  rw [hRR]
  go_enter Tryd.func14, Tryd.ntmps14
  go_wp2
  go_loopw [1, 11, 12] (fun pcv outv turnv wr => QRel bs N R ts w pcv outv turnv wr) (fun _ outv _ _ => N - lenOf outv)
  case atStart => exact ⟨[], pc, 0, rfl, rfl, Nat.zero_le _, p0, p1, OwnI.made _ _ _ (Nat.le_refl _), bl_alloc (Below.refl _ _) _, Nat.zero_le _, by simpa using hRR⟩
  case round =>
    obtain ⟨xs, p, j, rfl, rfl, hj, q0, q1, hown, hb, hle, hrest⟩ := hrel
    obtain ⟨av, cv, rfl⟩ := hown.slice
    by_cases hlt : xs.length < N
    · obtain ⟨n, hn⟩ : ∃ n, N - xs.length = n + 1 := ⟨N - xs.length - 1, by omega⟩
      rw [hn] at hrest
      have hq : (xs.length : Int) < 32 := by omega
      have hq2 : (xs.length : Int) < most := by have := HNe.out; omega
      have HO := Lib.hid hown
      have HRE := Lib.hid hrest
      have hhas := fun w' => rhas_calls (some ⟨b, off, none⟩) bs.length c p 4 hl q0 q1 (by omega) w'
      have hszb := hb.size
      have hob := hown.lt
      have HOB := Lib.hid hob
      clear hown hrest hRR hob
      by_cases hp4 : p % 4 = 0
      · cases hh : hasS bs.length p 4
        · have hst := path_stop bs false (n + 1) p (ts.drop j) (ok_ask bs p (.inr hh))
          rw [hh] at hhas
          have hx : xs = R := by have := HRE.out; rw [hst, List.append_nil] at this; exact this
          subst hx
          have HH := Lib.hid hhas
          clear hhas hst hh HRE
          go_wp2_with (go_at_call 30; refine (HH.out _).mono ?_; rintro e w' ⟨rfl, rfl⟩)
          go_ret
          exact ⟨_, rfl, HO.out, hb⟩
        · have hh' := hh
          simp only [hasS, decide_eq_true_eq] at hh'
          obtain ⟨k, hpk⟩ : ∃ k : Nat, p = 2147483648 + k := ⟨(p - 2147483648).toNat, by omega⟩
          have hokw : okS bs p = canS (decS (numS (cutS bs k 4))) ∧ wordS bs p = numS (cutS bs k 4) := by
            rw [hpk] at hp4 hh ⊢; exact ok_can bs k hp4 hh
          have hld := rload_calls b off c bs k 4 (by omega) (by omega) (by omega) (by omega) hl hcap wr (hR.below hb)
          rw [← hpk] at hld
          rw [hh] at hhas
          have hv := numS_range (cutS bs k 4) (cutS_bytes bs k 4 hR.bytes)
          rw [cutS_length bs k 4 (by omega)] at hv
          obtain ⟨hv0, hv1⟩ := hv
          have hitem : itemS bs p = ⟨p, decS (numS (cutS bs k 4)), nextS p (decS (numS (cutS bs k 4)))⟩ := by unfold itemS; rw [hokw.2]
          have hpr := path_step bs n p (ts.drop j)
          rw [hokw.1, hitem] at hpr
          generalize numS (cutS bs k 4) = v at *
          have hdec : ∀ w', Calls Tryd.prog 31 #[.int .u32 v] w' fun e w'' => e = .returned (insV (decS v)) ∧ Below w'.heap.size w' w'' := fun w' => rdec_calls v hv0 (by omega) w'
          have hi := dec_imm v hv0 (by omega)
          have hstop := path_stop bs false (n + 1) p (ts.drop j)
          rw [hokw.1] at hstop
          clear hokw hitem hh hh' hpk
          generalize decS v = i at *
          obtain ⟨i1, i2⟩ := hi
          have hcan : ∀ w', Calls Tryd.prog 33 #[.agg #[.int .i64 i.op, .int .i64 i.rd, .int .i64 i.rs1, .int .i64 i.rs2, .int .u32 i.imm, .int .i64 i.csr]] w' fun e w'' => e = .returned (.bool (canS i)) ∧ Below w'.heap.size w' w'' :=
            fun w' => rcan_calls i.op i.rd i.rs1 i.rs2 i.imm i.csr i1 i2 w'
          have hbr := fun w' => rbranch_calls i.op w'
          have HH := Lib.hid hhas
          have HLD := Lib.hid hld
          have HD := Lib.hid hdec
          have HBR := Lib.hid hbr
          clear hhas hld hdec hbr hv0 hv1
          cases hcv : canS i
          · rw [hcv] at hcan
            have hx : xs = R := by have := HRE.out; rw [hstop hcv, List.append_nil] at this; exact this
            subst hx
            have HC := Lib.hid hcan
            clear hcan hstop hpr HRE hcv
            go_wp2_with (first | (go_at_call 30; refine (HH.out _).mono ?_; rintro e w' ⟨rfl, rfl⟩) | (go_at_call 32; refine HLD.out.mono ?_; rintro e w' ⟨rfl, m1, rfl⟩) | (go_at_call 31; refine (HD.out _).mono ?_; rintro e w1 ⟨rfl, hb1⟩; simp only [insV]; have gb1 : Below wr.heap.size wr w1 := (bl_then (bl_drewN (Below.refl _ _) _) hb1); have gs1 := gb1.size; clear hb1) | (go_at_call 33; refine (HC.out _).mono ?_; rintro e w2 ⟨rfl, hb2⟩; obtain ⟨hc2, hf2⟩ := bcell hb2; have hz2 : w1.heap.size < w2.heap.size := (by have := hb2.size; simp at this; omega); have gb2 : Below wr.heap.size wr w2 := (bl_then (bl_alloc gb1 _) hb2); clear hb2))
            go_ret
            exact ⟨_, rfl, HO.out.below gb2, hb.trans (gb2.mono hb.size)⟩
          · rw [hcv] at hcan
            have HC := Lib.hid hcan
            have hpr := hpr hcv
            clear hcan hstop
            have hrest := HRE.out
            rw [hpr] at hrest
            clear HRE hpr
            by_cases c3 : i.op = 3
            · have hbf : isBranch i.op = false := by rw [c3]; rfl
              rw [on_plain _ _ hbf, show nextS p i = (p + i.imm) % 4294967296 by unfold nextS; rw [if_pos c3]] at hrest
              simp only [show decide (i.op ≠ 4) = true from decide_eq_true (by omega), if_true] at hrest
              have HRE := Lib.hid hrest
              rw [hbf] at HBR
              have q3 : (i.op == 3) = true := beq_iff_eq.2 c3
              have q4 : (i.op == 4) = false := by rw [beq_eq_false_iff_ne]; omega
              have n0 : 0 ≤ (p + i.imm) % 4294967296 := by omega
              have n1 : (p + i.imm) % 4294967296 ≤ 4294967295 := by omega
              clear hrest hbf c3 hcv
              go_wp2_with (first | (go_at_call 30; refine (HH.out _).mono ?_; rintro e w' ⟨rfl, rfl⟩) | (go_at_call 32; refine HLD.out.mono ?_; rintro e w' ⟨rfl, m1, rfl⟩) | (go_at_call 31; refine (HD.out _).mono ?_; rintro e w1 ⟨rfl, hb1⟩; simp only [insV]; have gb1 : Below wr.heap.size wr w1 := (bl_then (bl_drewN (Below.refl _ _) _) hb1); have gs1 := gb1.size; clear hb1) | (go_at_call 33; refine (HC.out _).mono ?_; rintro e w2 ⟨rfl, hb2⟩; obtain ⟨hc2, hf2⟩ := bcell hb2; have hz2 : w1.heap.size < w2.heap.size := (by have := hb2.size; simp at this; omega); have gb2 : Below wr.heap.size wr w2 := (bl_then (bl_alloc gb1 _) hb2); clear hb2) | (go_at_call 34; refine (HBR.out _).mono ?_; rintro e w' ⟨rfl, rfl⟩) | (at_builtin; refine append_item (w0 := w) (W := w2.alloc (.cells #[.int .u32 p, .int .i64 i.op, .int .i64 i.rd, .int .i64 i.rs1, .int .i64 i.rs2, .int .u32 i.imm, .int .i64 i.csr, .int .u32 ((p + i.imm) % 4294967296)] 70)) 70 27 w.heap.size i0 _ rfl _ _ rfl Tryd.underlying27 HI.out HZ.out HZ1.out HZ2.out rfl (.slice av xs.length cv) xs ⟨p, i, (p + i.imm) % 4294967296⟩ rfl _ rfl (by simp) (HO.out.below (bl_alloc gb2 _)) (hb.trans ((bl_alloc gb2 _).mono hb.size)) (by have := gb2.size; simp; omega) (by omega) ?_; intro v1 w4 hown2 hb4 hz4 hkeep; obtain ⟨a1, c1, hv1⟩ := hown2.slice; rw [show (xs ++ [(⟨p, i, (p + i.imm) % 4294967296⟩ : Itm)]).length = xs.length + 1 by simp] at hv1; subst hv1; have hk7 := hkeep w2.heap.size 7 (by simp) (fun h => by have := HOB.out _ h.symm; omega); simp at hk7; have HO2 := Lib.hid hown2; clear hown2 hkeep))
              go_roundw
              case rel => exact ⟨xs ++ [⟨p, i, (p + i.imm) % 4294967296⟩], (p + i.imm) % 4294967296, j, rfl, by first | rfl | go_num, by omega, n0, n1, HO2.out, hb4, by simp; omega, by rw [← HRE.out, show N - (xs ++ [(⟨p, i, (p + i.imm) % 4294967296⟩ : Itm)]).length = n by simp; omega]; simp⟩
              case measure => (show N - (xs.length + 1) < N - xs.length; omega)
            · by_cases c4 : i.op = 4
              · have hbf : isBranch i.op = false := by rw [c4]; rfl
                rw [on_plain _ _ hbf, show nextS p i = 0 by unfold nextS; rw [if_neg c3, if_pos c4]] at hrest
                simp only [show decide (i.op ≠ 4) = false from decide_eq_false (by omega), Bool.false_eq_true, if_false] at hrest
                have HRE := Lib.hid hrest
                rw [hbf] at HBR
                have q3 : (i.op == 3) = false := beq_eq_false_iff_ne.2 c3
                have q4 : (i.op == 4) = true := beq_iff_eq.2 c4
                clear hrest hbf c3 c4 hcv
                go_wp2_with (first | (go_at_call 30; refine (HH.out _).mono ?_; rintro e w' ⟨rfl, rfl⟩) | (go_at_call 32; refine HLD.out.mono ?_; rintro e w' ⟨rfl, m1, rfl⟩) | (go_at_call 31; refine (HD.out _).mono ?_; rintro e w1 ⟨rfl, hb1⟩; simp only [insV]; have gb1 : Below wr.heap.size wr w1 := (bl_then (bl_drewN (Below.refl _ _) _) hb1); have gs1 := gb1.size; clear hb1) | (go_at_call 33; refine (HC.out _).mono ?_; rintro e w2 ⟨rfl, hb2⟩; obtain ⟨hc2, hf2⟩ := bcell hb2; have hz2 : w1.heap.size < w2.heap.size := (by have := hb2.size; simp at this; omega); have gb2 : Below wr.heap.size wr w2 := (bl_then (bl_alloc gb1 _) hb2); clear hb2) | (go_at_call 34; refine (HBR.out _).mono ?_; rintro e w' ⟨rfl, rfl⟩) | (at_builtin; refine append_item (w0 := w) (W := w2.alloc (.cells #[.int .u32 p, .int .i64 i.op, .int .i64 i.rd, .int .i64 i.rs1, .int .i64 i.rs2, .int .u32 i.imm, .int .i64 i.csr, .int .u32 (0)] 70)) 70 27 w.heap.size i0 _ rfl _ _ rfl Tryd.underlying27 HI.out HZ.out HZ1.out HZ2.out rfl (.slice av xs.length cv) xs ⟨p, i, 0⟩ rfl _ rfl (by simp) (HO.out.below (bl_alloc gb2 _)) (hb.trans ((bl_alloc gb2 _).mono hb.size)) (by have := gb2.size; simp; omega) (by omega) ?_; intro v1 w4 hown2 hb4 hz4 hkeep; obtain ⟨a1, c1, hv1⟩ := hown2.slice; rw [show (xs ++ [(⟨p, i, 0⟩ : Itm)]).length = xs.length + 1 by simp] at hv1; subst hv1; have hk7 := hkeep w2.heap.size 7 (by simp) (fun h => by have := HOB.out _ h.symm; omega); simp at hk7; have HO2 := Lib.hid hown2; clear hown2 hkeep))
                go_ret
                exact ⟨_, rfl, by rw [← HRE.out]; exact HO2.out, hb4⟩
              · have hnx4 : nextS p i = (p + 4) % 4294967296 := by unfold nextS; rw [if_neg c3, if_neg c4]
                rw [hnx4] at hrest
                have q3 : (i.op == 3) = false := beq_eq_false_iff_ne.2 c3
                have q4 : (i.op == 4) = false := beq_eq_false_iff_ne.2 c4
                have n0 : 0 ≤ (p + 4) % 4294967296 := by omega
                have n1 : (p + 4) % 4294967296 ≤ 4294967295 := by omega
                cases hbf : isBranch i.op
                · rw [on_plain _ _ hbf] at hrest
                  simp only [show decide (i.op ≠ 4) = true from decide_eq_true c4, if_true] at hrest
                  rw [hbf] at HBR
                  have HRE := Lib.hid hrest
                  clear hrest hbf c3 c4 hcv hnx4
                  go_wp2_with (first | (go_at_call 30; refine (HH.out _).mono ?_; rintro e w' ⟨rfl, rfl⟩) | (go_at_call 32; refine HLD.out.mono ?_; rintro e w' ⟨rfl, m1, rfl⟩) | (go_at_call 31; refine (HD.out _).mono ?_; rintro e w1 ⟨rfl, hb1⟩; simp only [insV]; have gb1 : Below wr.heap.size wr w1 := (bl_then (bl_drewN (Below.refl _ _) _) hb1); have gs1 := gb1.size; clear hb1) | (go_at_call 33; refine (HC.out _).mono ?_; rintro e w2 ⟨rfl, hb2⟩; obtain ⟨hc2, hf2⟩ := bcell hb2; have hz2 : w1.heap.size < w2.heap.size := (by have := hb2.size; simp at this; omega); have gb2 : Below wr.heap.size wr w2 := (bl_then (bl_alloc gb1 _) hb2); clear hb2) | (go_at_call 34; refine (HBR.out _).mono ?_; rintro e w' ⟨rfl, rfl⟩) | (at_builtin; refine append_item (w0 := w) (W := w2.alloc (.cells #[.int .u32 p, .int .i64 i.op, .int .i64 i.rd, .int .i64 i.rs1, .int .i64 i.rs2, .int .u32 i.imm, .int .i64 i.csr, .int .u32 ((p + 4) % 4294967296)] 70)) 70 27 w.heap.size i0 _ rfl _ _ rfl Tryd.underlying27 HI.out HZ.out HZ1.out HZ2.out rfl (.slice av xs.length cv) xs ⟨p, i, (p + 4) % 4294967296⟩ rfl _ rfl (by simp) (HO.out.below (bl_alloc gb2 _)) (hb.trans ((bl_alloc gb2 _).mono hb.size)) (by have := gb2.size; simp; omega) (by omega) ?_; intro v1 w4 hown2 hb4 hz4 hkeep; obtain ⟨a1, c1, hv1⟩ := hown2.slice; rw [show (xs ++ [(⟨p, i, (p + 4) % 4294967296⟩ : Itm)]).length = xs.length + 1 by simp] at hv1; subst hv1; have hk7 := hkeep w2.heap.size 7 (by simp) (fun h => by have := HOB.out _ h.symm; omega); simp at hk7; have HO2 := Lib.hid hown2; clear hown2 hkeep))
                  go_roundw
                  case rel => exact ⟨xs ++ [⟨p, i, (p + 4) % 4294967296⟩], (p + 4) % 4294967296, j, rfl, by first | rfl | go_num, by omega, n0, n1, HO2.out, hb4, by simp; omega, by rw [← HRE.out, show N - (xs ++ [(⟨p, i, (p + 4) % 4294967296⟩ : Itm)]).length = n by simp; omega]; simp⟩
                  case measure => (show N - (xs.length + 1) < N - xs.length; omega)
                · rw [hbf] at HBR
                  by_cases hjl : j < ts.length
                  · obtain ⟨ta0, tc0, hte, _, htm, htx⟩ := HTA.out
                    have hjne : ts ≠ [] := fun h => by rw [h] at hjl; simp at hjl
                    obtain ⟨tb, to, hta, hcell⟩ := htx.resolve_left hjne
                    simp only [Value.slice.injEq] at hte
                    rw [← hte.1] at hta
                    subst hta
                    have hcj := hcell j hjl
                    have hT2 : ∀ w', Below wr.heap.size wr w' → w'.cell? ⟨tb, to + j, none⟩ = some (.bool (ts.getD j false)) := fun w' h =>
                      (((hb.trans (h.mono hb.size))).cell (p := ⟨tb, to + j, none⟩) (World.block_lt_of_cell? w _ hcj)).trans hcj
                    rw [drop_one ts j hjl] at hrest
                    have hj1 : (j : Int) < ts.length := by omega
                    have hj2 : decide (ts.length ≤ j) = false := decide_eq_false (by omega)
                    have hj3 : ¬ (ts.length : Int) ≤ j := by omega
                    have hj0 : (0 : Int) ≤ j := Int.natCast_nonneg _
                    clear hcell hcj htx hte htm
                    generalize ts.getD j false = t at *
                    have HT := Lib.hid hT2
                    clear hT2
                    cases t
                    · rw [on_f _ _ hbf] at hrest
                      simp only [if_true] at hrest
                      have HRE := Lib.hid hrest
                      clear hrest hbf c3 c4 hcv hnx4
                      go_wp2_with (first | (go_at_call 30; refine (HH.out _).mono ?_; rintro e w' ⟨rfl, rfl⟩) | (go_at_call 32; refine HLD.out.mono ?_; rintro e w' ⟨rfl, m1, rfl⟩) | (go_at_call 31; refine (HD.out _).mono ?_; rintro e w1 ⟨rfl, hb1⟩; simp only [insV]; have gb1 : Below wr.heap.size wr w1 := (bl_then (bl_drewN (Below.refl _ _) _) hb1); have gs1 := gb1.size; clear hb1) | (go_at_call 33; refine (HC.out _).mono ?_; rintro e w2 ⟨rfl, hb2⟩; obtain ⟨hc2, hf2⟩ := bcell hb2; have hz2 : w1.heap.size < w2.heap.size := (by have := hb2.size; simp at this; omega); have gb2 : Below wr.heap.size wr w2 := (bl_then (bl_alloc gb1 _) hb2); have ht2 : ∀ ob, (w2.alloc ob).cell? ⟨tb, to + j, none⟩ = some (.bool false) := fun ob => HT.out _ (bl_alloc gb2 ob); clear hb2) | (go_at_call 34; refine (HBR.out _).mono ?_; rintro e w' ⟨rfl, rfl⟩) | (at_builtin; refine append_item (w0 := w) (W := w2.alloc (.cells #[.int .u32 p, .int .i64 i.op, .int .i64 i.rd, .int .i64 i.rs1, .int .i64 i.rs2, .int .u32 i.imm, .int .i64 i.csr, .int .u32 ((p + 4) % 4294967296)] 70)) 70 27 w.heap.size i0 _ rfl _ _ rfl Tryd.underlying27 HI.out HZ.out HZ1.out HZ2.out rfl (.slice av xs.length cv) xs ⟨p, i, (p + 4) % 4294967296⟩ rfl _ rfl (by simp) (HO.out.below (bl_alloc gb2 _)) (hb.trans ((bl_alloc gb2 _).mono hb.size)) (by have := gb2.size; simp; omega) (by omega) ?_; intro v1 w4 hown2 hb4 hz4 hkeep; obtain ⟨a1, c1, hv1⟩ := hown2.slice; rw [show (xs ++ [(⟨p, i, (p + 4) % 4294967296⟩ : Itm)]).length = xs.length + 1 by simp] at hv1; subst hv1; have hk7 := hkeep w2.heap.size 7 (by simp) (fun h => by have := HOB.out _ h.symm; omega); simp at hk7; have HO2 := Lib.hid hown2; clear hown2 hkeep))
                      go_roundw
                      case rel => exact ⟨xs ++ [⟨p, i, (p + 4) % 4294967296⟩], (p + 4) % 4294967296, j + 1, rfl, by first | rfl | go_num, by omega, n0, n1, HO2.out, hb4, by simp; omega, by rw [← HRE.out, show N - (xs ++ [(⟨p, i, (p + 4) % 4294967296⟩ : Itm)]).length = n by simp; omega]; simp⟩
                      case measure => (show N - (xs.length + 1) < N - xs.length; omega)
                    · by_cases h4 : i.imm % 4 = 0
                      · rw [on_t _ _ hbf h4] at hrest
                        simp only [if_true] at hrest
                        have HRE := Lib.hid hrest
                        have m0 : 0 ≤ (p + i.imm) % 4294967296 := by omega
                        have m1' : (p + i.imm) % 4294967296 ≤ 4294967295 := by omega
                        have h4' : (i.imm % 4 != 0) = false := by rw [h4]; rfl
                        clear hrest hbf c3 c4 hcv hnx4 h4 n0 n1
                        have n0 := m0
                        have n1 := m1'
                        go_wp2_with (first | (go_at_call 30; refine (HH.out _).mono ?_; rintro e w' ⟨rfl, rfl⟩) | (go_at_call 32; refine HLD.out.mono ?_; rintro e w' ⟨rfl, m1, rfl⟩) | (go_at_call 31; refine (HD.out _).mono ?_; rintro e w1 ⟨rfl, hb1⟩; simp only [insV]; have gb1 : Below wr.heap.size wr w1 := (bl_then (bl_drewN (Below.refl _ _) _) hb1); have gs1 := gb1.size; clear hb1) | (go_at_call 33; refine (HC.out _).mono ?_; rintro e w2 ⟨rfl, hb2⟩; obtain ⟨hc2, hf2⟩ := bcell hb2; have hz2 : w1.heap.size < w2.heap.size := (by have := hb2.size; simp at this; omega); have gb2 : Below wr.heap.size wr w2 := (bl_then (bl_alloc gb1 _) hb2); have ht2 : ∀ ob, (w2.alloc ob).cell? ⟨tb, to + j, none⟩ = some (.bool true) := fun ob => HT.out _ (bl_alloc gb2 ob); clear hb2) | (go_at_call 34; refine (HBR.out _).mono ?_; rintro e w' ⟨rfl, rfl⟩) | (at_builtin; refine append_item (w0 := w) (W := w2.alloc (.cells #[.int .u32 p, .int .i64 i.op, .int .i64 i.rd, .int .i64 i.rs1, .int .i64 i.rs2, .int .u32 i.imm, .int .i64 i.csr, .int .u32 ((p + i.imm) % 4294967296)] 70)) 70 27 w.heap.size i0 _ rfl _ _ rfl Tryd.underlying27 HI.out HZ.out HZ1.out HZ2.out rfl (.slice av xs.length cv) xs ⟨p, i, (p + i.imm) % 4294967296⟩ rfl _ rfl (by simp) (HO.out.below (bl_alloc gb2 _)) (hb.trans ((bl_alloc gb2 _).mono hb.size)) (by have := gb2.size; simp; omega) (by omega) ?_; intro v1 w4 hown2 hb4 hz4 hkeep; obtain ⟨a1, c1, hv1⟩ := hown2.slice; rw [show (xs ++ [(⟨p, i, (p + i.imm) % 4294967296⟩ : Itm)]).length = xs.length + 1 by simp] at hv1; subst hv1; have hk7 := hkeep w2.heap.size 7 (by simp) (fun h => by have := HOB.out _ h.symm; omega); simp at hk7; have HO2 := Lib.hid hown2; clear hown2 hkeep))
                        go_roundw
                        case rel => exact ⟨xs ++ [⟨p, i, (p + i.imm) % 4294967296⟩], (p + i.imm) % 4294967296, j + 1, rfl, by first | rfl | go_num, by omega, n0, n1, HO2.out, hb4, by simp; omega, by rw [← HRE.out, show N - (xs ++ [(⟨p, i, (p + i.imm) % 4294967296⟩ : Itm)]).length = n by simp; omega]; simp⟩
                        case measure => (show N - (xs.length + 1) < N - xs.length; omega)
                      · rw [on_u _ _ hbf h4] at hrest
                        simp only [Bool.false_eq_true, if_false] at hrest
                        have HRE := Lib.hid hrest
                        have h4' : (i.imm % 4 != 0) = true := by simp [bne, h4]
                        clear hrest hbf c3 c4 hcv hnx4 h4
                        go_wp2_with (first | (go_at_call 30; refine (HH.out _).mono ?_; rintro e w' ⟨rfl, rfl⟩) | (go_at_call 32; refine HLD.out.mono ?_; rintro e w' ⟨rfl, m1, rfl⟩) | (go_at_call 31; refine (HD.out _).mono ?_; rintro e w1 ⟨rfl, hb1⟩; simp only [insV]; have gb1 : Below wr.heap.size wr w1 := (bl_then (bl_drewN (Below.refl _ _) _) hb1); have gs1 := gb1.size; clear hb1) | (go_at_call 33; refine (HC.out _).mono ?_; rintro e w2 ⟨rfl, hb2⟩; obtain ⟨hc2, hf2⟩ := bcell hb2; have hz2 : w1.heap.size < w2.heap.size := (by have := hb2.size; simp at this; omega); have gb2 : Below wr.heap.size wr w2 := (bl_then (bl_alloc gb1 _) hb2); have ht2 : ∀ ob, (w2.alloc ob).cell? ⟨tb, to + j, none⟩ = some (.bool true) := fun ob => HT.out _ (bl_alloc gb2 ob); clear hb2) | (go_at_call 34; refine (HBR.out _).mono ?_; rintro e w' ⟨rfl, rfl⟩) | (at_builtin; refine append_item (w0 := w) (W := w2.alloc (.cells #[.int .u32 p, .int .i64 i.op, .int .i64 i.rd, .int .i64 i.rs1, .int .i64 i.rs2, .int .u32 i.imm, .int .i64 i.csr, .int .u32 ((p + 4) % 4294967296)] 70)) 70 27 w.heap.size i0 _ rfl _ _ rfl Tryd.underlying27 HI.out HZ.out HZ1.out HZ2.out rfl (.slice av xs.length cv) xs ⟨p, i, (p + 4) % 4294967296⟩ rfl _ rfl (by simp) (HO.out.below (bl_alloc gb2 _)) (hb.trans ((bl_alloc gb2 _).mono hb.size)) (by have := gb2.size; simp; omega) (by omega) ?_; intro v1 w4 hown2 hb4 hz4 hkeep; obtain ⟨a1, c1, hv1⟩ := hown2.slice; rw [show (xs ++ [(⟨p, i, (p + 4) % 4294967296⟩ : Itm)]).length = xs.length + 1 by simp] at hv1; subst hv1; have hk7 := hkeep w2.heap.size 7 (by simp) (fun h => by have := HOB.out _ h.symm; omega); simp at hk7; have HO2 := Lib.hid hown2; clear hown2 hkeep))
                        go_ret
                        exact ⟨_, rfl, by rw [← HRE.out]; exact HO2.out, hb4⟩
                  · obtain rfl : j = ts.length := by omega
                    rw [List.drop_length, on_nil _ hbf] at hrest
                    simp only [Bool.false_eq_true, if_false] at hrest
                    have HRE := Lib.hid hrest
                    have hj3 : (ts.length : Int) ≤ ts.length := by omega
                    clear hrest hbf c3 c4 hcv hnx4
                    go_wp2_with (first | (go_at_call 30; refine (HH.out _).mono ?_; rintro e w' ⟨rfl, rfl⟩) | (go_at_call 32; refine HLD.out.mono ?_; rintro e w' ⟨rfl, m1, rfl⟩) | (go_at_call 31; refine (HD.out _).mono ?_; rintro e w1 ⟨rfl, hb1⟩; simp only [insV]; have gb1 : Below wr.heap.size wr w1 := (bl_then (bl_drewN (Below.refl _ _) _) hb1); have gs1 := gb1.size; clear hb1) | (go_at_call 33; refine (HC.out _).mono ?_; rintro e w2 ⟨rfl, hb2⟩; obtain ⟨hc2, hf2⟩ := bcell hb2; have hz2 : w1.heap.size < w2.heap.size := (by have := hb2.size; simp at this; omega); have gb2 : Below wr.heap.size wr w2 := (bl_then (bl_alloc gb1 _) hb2); clear hb2) | (go_at_call 34; refine (HBR.out _).mono ?_; rintro e w' ⟨rfl, rfl⟩) | (at_builtin; refine append_item (w0 := w) (W := w2.alloc (.cells #[.int .u32 p, .int .i64 i.op, .int .i64 i.rd, .int .i64 i.rs1, .int .i64 i.rs2, .int .u32 i.imm, .int .i64 i.csr, .int .u32 ((p + 4) % 4294967296)] 70)) 70 27 w.heap.size i0 _ rfl _ _ rfl Tryd.underlying27 HI.out HZ.out HZ1.out HZ2.out rfl (.slice av xs.length cv) xs ⟨p, i, (p + 4) % 4294967296⟩ rfl _ rfl (by simp) (HO.out.below (bl_alloc gb2 _)) (hb.trans ((bl_alloc gb2 _).mono hb.size)) (by have := gb2.size; simp; omega) (by omega) ?_; intro v1 w4 hown2 hb4 hz4 hkeep; obtain ⟨a1, c1, hv1⟩ := hown2.slice; rw [show (xs ++ [(⟨p, i, (p + 4) % 4294967296⟩ : Itm)]).length = xs.length + 1 by simp] at hv1; subst hv1; have hk7 := hkeep w2.heap.size 7 (by simp) (fun h => by have := HOB.out _ h.symm; omega); simp at hk7; have HO2 := Lib.hid hown2; clear hown2 hkeep))
                    go_ret
                    exact ⟨_, rfl, by rw [← HRE.out]; exact HO2.out, hb4⟩
      · have hst := path_stop bs false (n + 1) p (ts.drop j) (ok_ask bs p (.inl hp4))
        have hx : xs = R := by have := HRE.out; rw [hst, List.append_nil] at this; exact this
        subst hx
        clear hhas hst HRE
        go_wp2_with fail
        go_ret
        exact ⟨_, rfl, HO.out, hb⟩
    · have hxN : N - xs.length = 0 := by omega
      rw [hxN] at hrest
      simp only [pathS, List.append_nil] at hrest
      subst hrest
      have HO := Lib.hid hown
      clear hown hRR hxN
      rcases HNe.out with ⟨m1, m2⟩ | ⟨m1, m2⟩
      · have hq : ¬ (xs.length : Int) < 32 := by omega
        by_cases hq2 : (xs.length : Int) < most
        · go_wp2_with fail
          go_ret
          exact ⟨_, rfl, HO.out, hb⟩
        · go_wp2_with fail
          go_ret
          exact ⟨_, rfl, HO.out, hb⟩
      · have hq : ¬ (xs.length : Int) < most := by omega
        go_wp2_with fail
        go_ret
        exact ⟨_, rfl, HO.out, hb⟩
end Go.Proofs.YtnbbhgpflanhaaaDoor
