/- Walks: along, with Path's closure and any turns. -/
import Derived.Test.YtnbbhgpflanhaaaDoorPathAlong
namespace Go.Proofs.YtnbbhgpflanhaaaDoor
open Go.RowKit
set_option maxRecDepth 100000
set_option linter.unusedVariables false
set_option linter.unusedSimpArgs false
set_option maxHeartbeats 6400000 in
theorem along_path (g gb tb : Nat) (bs : List Int) (pc most : Int) (N : Nat) (ts0 : List Bool) (v0 : Value) (p0 : 0 ≤ pc) (p1 : pc ≤ 4294967295) (hN : (32 < most ∧ N = 32) ∨ (¬ 32 < most ∧ N = most.toNat))
    (w0 w : World) (hF : FormsAt w0) (hR : RamAt w0 g gb bs) (hb0 : Below w0.heap.size w0 w) (ht0 : w.heap[tb]? = some (.cells #[v0] 35 (0, 0))) (htB : w0.heap.size ≤ tb) (hT0 : TurnsAt w0 v0 ts0) :
    Calls Tryd.prog 27 #[.pointer (some ⟨g, 0, none⟩), .int .u32 pc, .int .i64 most, .func (.func 35) #[] #[.pointer (some ⟨tb, 0, none⟩)]] w
      (AlongPost w0 w (pathS bs false N pc ts0)) := by
  obtain ⟨R, hRR⟩ : ∃ R, pathS bs false N pc ts0 = R := ⟨_, rfl⟩
  have htw : tb < w.heap.size := lt_of_block ht0
  have hN32 : N ≤ 32 := by omega
  obtain ⟨i0, hi0, hzz⟩ := Option.map_eq_some_iff.1 info_item
  simp only [Prod.mk.injEq] at hzz
  obtain ⟨hz0, hz1, hz2⟩ := hzz
  have HI := Lib.hid hi0
  have HZ := Lib.hid hz0
  have HZ1 := Lib.hid hz1
  have HZ2 := Lib.hid hz2
  have HB0 := Lib.hid hb0
  have HT0 := Lib.hid ht0
  have HA0 := Lib.hid hT0
  clear hi0 hz0 hz1 hz2 hb0 ht0 hT0
  rw [hRR]
  rcases hN with ⟨hm, hNe⟩ | ⟨hm, hNe⟩
  all_goals
    have HNe := Lib.hid hNe
    clear hNe
    go_enter Tryd.func27, Tryd.ntmps27
    go_wp2
    go_loopw [1, 9] (fun pcv outv wr => PathRel' bs N R w0 w tb pcv outv wr) (fun _ outv _ => N - lenOf outv)
    case atStart => exact ⟨[], pc, ts0, v0, rfl, p0, p1, OwnI.nil _ _ _, HB0.out, Nat.le_refl _, Nat.zero_le _, by simpa using hRR, HT0.out, HA0.out⟩
    case round =>
      obtain ⟨xs, p, ts, v, hrel⟩ := hrel
      obtain ⟨rfl, q0, q1, hown, hb, hsz, hle, hrest, htv, hat0⟩ := hrel
      obtain ⟨av, cv, rfl⟩ := hown.slice
      have hat := at_ram g gb bs p q0 q1 wr (hF.below hb) (hR.below hb)
      have hnx := on_next (itemS bs p) ts (item_next bs p q0 q1)
      have hwr := word_range bs hR.bytes p
      have hdi : 0 ≤ (itemS bs p).i.imm ∧ (itemS bs p).i.imm ≤ 4294967295 := dec_imm _ hwr.1 (by omega)
      have hpr := path_step bs
      have hps := path_stop bs false
      by_cases hlt : xs.length < N
      · obtain ⟨n, hn⟩ : ∃ n, N - xs.length = n + 1 := ⟨N - xs.length - 1, by omega⟩
        rw [hn] at hrest
        have hq : (xs.length : Int) < 32 := by omega
        have hq2 : (xs.length : Int) < most := by have := HNe.out; omega
        cases hok : okS bs p
        · rw [hps _ _ _ hok, List.append_nil] at hrest
          subst hrest
          rw [hok] at hat
          have HO := Lib.hid hown
          have HAT := Lib.hid hat
          have HB := Lib.hid hb
          generalize itemS bs p = x at *
          clear hown hat hok hpr hps hn hRR hF hR hnx hdi hwr hat0 htv hb
          go_wp2_with (go_at_call 46; refine HAT.out.mono ?_; rintro e w1 ⟨rfl, hb1⟩; simp only [itmV])
          go_ret
          exact ⟨_, rfl, HO.out.below (bl_alloc hb1 _), HB.out.trans ((bl_alloc hb1 _).mono HB.out.size)⟩
        · rw [hpr _ _ _ hok] at hrest
          rw [hok] at hat
          have hpc : (itemS bs p).pc = p := rfl
          generalize itemS bs p = x at *
          have hon : ∀ w1, Below wr.heap.size wr w1 → Calls Tryd.prog 35 #[.pointer (some ⟨w1.heap.size, 0, none⟩), .pointer (some ⟨tb, 0, none⟩)] (w1.alloc (.cells #[.int .u32 p, .int .i64 x.i.op, .int .i64 x.i.rd, .int .i64 x.i.rs1, .int .i64 x.i.rs2, .int .u32 x.i.imm, .int .i64 x.i.csr, .int .u32 x.next] 43)) (TurnPost w0 (w1.alloc (.cells #[.int .u32 p, .int .i64 x.i.op, .int .i64 x.i.rd, .int .i64 x.i.rs1, .int .i64 x.i.rs2, .int .u32 x.i.imm, .int .i64 x.i.csr, .int .u32 x.next] 43)) w1.heap.size tb x ts) := by
            intro w1 hb1
            have hcx : (#[.int .u32 p, .int .i64 x.i.op, .int .i64 x.i.rd, .int .i64 x.i.rs1, .int .i64 x.i.rs2, .int .u32 x.i.imm, .int .i64 x.i.csr, .int .u32 x.next] : Array Value) = (cellsI x).toArray := by simp [cellsI, hpc]
            rw [hcx]
            have hs1 := hb1.size
            have hs0 := hb.size
            refine path_on w0 _ w1.heap.size tb x ts v (by omega) (by omega) hdi.1 hdi.2 (heap_alloc_new w1 _) ?_ hat0 (hb.trans ((bl_alloc hb1 _).mono hb.size)) (by omega) htB (by omega)
            rw [(bl_alloc hb1 _).block tb (by omega)]
            exact htv
          have hob := hown.lt
          have hobB := hown.base
          have HO := Lib.hid hown
          have HAT := Lib.hid hat
          have HRE := Lib.hid hrest
          have HON := Lib.hid hon
          have HOB := Lib.hid hob
          have HOBB := Lib.hid hobB
          have HB := Lib.hid hb
          unfold TurnPost at HON
          generalize onS false x ts = q at *
          obtain ⟨r, y, ts'⟩ := q
          obtain ⟨n0, n1⟩ := hnx
          clear hown hat hok hpr hps hRR hF hR hrest hon hob hobB hdi hwr hat0 htv hb
          simp only at HON HRE n0 n1
          have hszb := HB.out.size
          cases r
          all_goals
            go_wp2_with (go_at_call 46; refine HAT.out.mono ?_; rintro e w1 ⟨rfl, hb1⟩; simp only [itmV])
            have hsz1 := hb1.size
            refine (HON.out w1 hb1).mono ?_
            rintro e w2 ⟨rfl, v', hT2, hh2, hg2, hB2, hs2, hk2⟩
            obtain ⟨e0, e1, e2, e3, e4, e5, e6, e7⟩ := eight_of hg2
            have hs2' : w2.heap.size = w1.heap.size + 1 := by rw [hs2]; simp
            have hO2 : OwnI 43 w.heap.size w2 (.slice av xs.length cv) xs := (HO.out.below (bl_alloc hb1 _)).move (fun k hk => hk2 k (by have := HOBB.out k hk; omega) (by have := HOB.out k hk; omega))
            have HO2 := Lib.hid hO2
            have HT2 := Lib.hid hT2
            have HH2 := Lib.hid hh2
            have HB2 := Lib.hid hB2
            have HK2 := Lib.hid hk2
            clear hO2 hT2 hh2 hg2 hB2 hk2 hs2
            have hbz := HB0.out.size
            have hlt12 : w1.heap.size < w2.heap.size := by omega
            have hBW : w.heap.size ≤ w2.heap.size := by omega
            have hx1000 : xs.length < 1000 := by omega
            have HK7 := Lib.hid (show ∀ (v1 : Value) (w3 : World), (∀ k j, k < w2.heap.size → some k ≠ (Value.slice av xs.length cv).ownBlock → w3.cell? ⟨k, j, none⟩ = w2.cell? ⟨k, j, none⟩) → w3.cell? ⟨w1.heap.size, 7, none⟩ = some (.int .u32 y.next) from fun v1 w3 hk => (hk w1.heap.size 7 (by omega) (fun h => by have := HOB.out _ h.symm; omega)).trans e7)
            clear hs2'
            go_wp2_with (at_builtin; go_loud (refine append_item (w0 := w2) (W := w2) 43 29 w.heap.size i0 _ rfl _ _ rfl Tryd.underlying29 HI.out HZ.out HZ1.out HZ2.out rfl (.slice av xs.length cv) xs y rfl _ rfl rfl HO2.out (Below.refl _ _) hBW hx1000 ?_); intro v1 w3 hown3 hb3 hz3 hkeep; have hk7 := HK7.out v1 w3 hkeep; obtain ⟨a1, c1, hv1⟩ := hown3.slice; rw [show (xs ++ [y]).length = xs.length + 1 by simp] at hv1; subst hv1; have HO3 := Lib.hid hown3; have HB3 := Lib.hid hb3; clear hown3 hkeep hb3)
            first
            | (go_ret
               exact ⟨_, rfl, by rw [← HRE.out]; exact HO3.out, HB2.out.trans (HB3.out.mono hbz)⟩)
            | (go_roundw
               case rel => exact ⟨xs ++ [y], y.next, ts', v', rfl, n0, n1, HO3.out, HB2.out.trans (HB3.out.mono hbz), by omega, by simp; omega, by rw [← HRE.out, show N - (xs ++ [y]).length = n by simp; omega]; simp, (HB3.out.block tb htw).trans HH2.out, HT2.out⟩
               case measure => (show N - (xs.length + 1) < N - xs.length; omega))
      · first
        | (have hq : ¬ (xs.length : Int) < 32 := by have := HNe.out; omega)
        | (have hq : ¬ (xs.length : Int) < most := by have := HNe.out; omega)
        have hxN : N - xs.length = 0 := by omega
        rw [hxN] at hrest
        simp only [pathS, List.append_nil] at hrest
        subst hrest
        have HO := Lib.hid hown
        have HB := Lib.hid hb
        clear hown hat hpr hps hRR hF hR hxN hnx hdi hwr hat0 htv hb
        go_wp2_with fail
        go_ret
        exact ⟨_, rfl, HO.out, HB.out⟩
end Go.Proofs.YtnbbhgpflanhaaaDoor
