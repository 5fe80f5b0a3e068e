/- The statement's walk: where a path's items go on, and which pages they have. -/
import Derived.Test.YtnbbhgpflanhaaaDoorScanPaths
import Derived.Test.YtnbbhgpflanhaaaDoorGoesW
namespace Go.Proofs.YtnbbhgpflanhaaaDoor
open Go.RowKit
set_option maxRecDepth 100000
set_option linter.unusedVariables false
set_option linter.unusedSimpArgs false
def hitsS (R : List Itm) (j : Nat) : Bool := decide (∃ y ∈ R, pageS y.pc = (j : Int))
def GoesRel (R : List Itm) (w3 : World) (iv : Value) (wr : World) : Prop :=
  ∃ k : Nat, k ≤ R.length ∧ iv = .int .i64 k ∧ Below w3.heap.size w3 wr ∧ MetAt wr w3.heap.size (hitsS (R.take k))
theorem hits_take (R : List Itm) (k : Nat) (x : Itm) (pn : Nat) (h : R.take (k + 1) = R.take k ++ [x]) (hp : pageS x.pc = (pn : Int)) (j : Nat) : (if j = pn then true else hitsS (R.take k) j) = hitsS (R.take (k + 1)) j := by
  rw [h]
  unfold hitsS
  by_cases e : j = pn
  · subst e
    rw [if_pos rfl]
    exact (decide_eq_true ⟨x, by simp, hp⟩).symm
  · rw [if_neg e]
    rw [Bool.eq_iff_iff, decide_eq_true_eq, decide_eq_true_eq]
    constructor
    · rintro ⟨y, hy, h⟩; exact ⟨y, by simp [hy], h⟩
    · rintro ⟨y, hy, h⟩
      rcases List.mem_append.1 hy with h' | h'
      · exact ⟨y, h', h⟩
      · obtain rfl : y = x := by simpa using h'
        omega
theorem hits_nil : hitsS [] = fun _ => false := by funext j; simp [hitsS]
/-- how far the pages have been gone through -/
def CountRel (P : List Int) (nv iv : Value) : Prop :=
  ∃ n i : Nat, nv = .int .i64 n ∧ iv = .int .i64 i ∧ i ≤ 16 ∧ n ≤ P.length ∧ ∀ k (h : k < P.length), k < n ↔ P[k] < (i : Int)
/-- cells of an item, and the next one's first -/
def NineAt (w : World) (g k : Nat) (x : Itm) : Prop :=
  w.cell? ⟨g, k * 8, none⟩ = some (.int .u32 x.pc) ∧ w.cell? ⟨g, k * 8 + 1, none⟩ = some (.int .i64 x.i.op) ∧ w.cell? ⟨g, k * 8 + 2, none⟩ = some (.int .i64 x.i.rd) ∧ w.cell? ⟨g, k * 8 + 3, none⟩ = some (.int .i64 x.i.rs1) ∧
  w.cell? ⟨g, k * 8 + 4, none⟩ = some (.int .i64 x.i.rs2) ∧ w.cell? ⟨g, k * 8 + 5, none⟩ = some (.int .u32 x.i.imm) ∧ w.cell? ⟨g, k * 8 + 6, none⟩ = some (.int .i64 x.i.csr) ∧ w.cell? ⟨g, k * 8 + 7, none⟩ = some (.int .u32 x.next)
section
variable {P : Program} {l : List Oper} {Q : Exit → Act → World → Prop} {md : Region.Mode} {S : World → Prop} {i : Nat} {oi : Oper} {v : Value} {fuel : Nat} {listed : Array Bool} {a : Act} {w : World}
/-- a region held by hand: an operation that is wanted, taken first -/
theorem takeH (hi : l[i]? = some oi) (hs : Region.noSelect l.toArray = true) (hf : Region.free md l.toArray listed i = true) (hr : (Region.ready md l.toArray listed).contains i = true)
    (hQ : ∀ c a w, Q (.panic c) (a.put oi.dst v) w → Q (.panic c) a w) (hw : Region.wanted oi (yielded l.toArray a.tmps) = true) (hy : ∀ w, S w → (execOp a.eval oi).run P w = .ok (.value v) w) (hS : S w)
    (h : wpAnyH P md l.toArray Q S fuel (listed.setIfInBounds i true) (a.put oi.dst v) w) : wpAnyH P md l.toArray Q S (fuel + 1) listed a w :=
  wpAnyH_take (by simpa using hi) hs hf hr hQ (Or.inl ⟨hw, hy⟩) hS h
/-- one that is not wanted -/
theorem skipH (hi : l[i]? = some oi) (hs : Region.noSelect l.toArray = true) (hf : Region.free md l.toArray listed i = true) (hr : (Region.ready md l.toArray listed).contains i = true)
    (hQ : ∀ c a w, Q (.panic c) (a.put oi.dst undef) w → Q (.panic c) a w) (hw : Region.wanted oi (yielded l.toArray a.tmps) = false) (hS : S w)
    (h : wpAnyH P md l.toArray Q S fuel (listed.setIfInBounds i true) (a.put oi.dst undef) w) : wpAnyH P md l.toArray Q S (fuel + 1) listed a w :=
  wpAnyH_take (by simpa using hi) hs hf hr hQ (Or.inr ⟨hw, rfl⟩) hS h
/-- the only one that may come up -/
theorem readyH (hi : l[i]? = some oi) (hr : Region.ready md l.toArray listed = [i])
    (h : ∀ K' : Act → World → Prop, Shut (∀ a w, S w → (S w → wpAnyH P md l.toArray Q S fuel (listed.setIfInBounds i true) a w) → K' a w) → if Region.wanted oi (yielded l.toArray a.tmps) = true then Oper.wp P oi a w K' Q else K' (a.put oi.dst undef) w) :
    wpAnyH P md l.toArray Q S (fuel + 1) listed a w :=
  wpAnyH_ready hr (by simp) (AllReadyH.cons (by simpa using hi) h AllReadyH.nil)
end
/-- what is known of one item -/
structure OneOk (x : Itm) (pn : Nat) : Prop where
  can : canS x.i = true
  pc0 : 0 ≤ x.pc
  pc1 : x.pc ≤ 4294967295
  imm0 : 0 ≤ x.i.imm
  imm1 : x.i.imm ≤ 4294967295
  page : pageS x.pc = (pn : Int)
  lt : pn < 16
theorem item_facts {len : Nat} {x : Itm} (h : ItemOk len x) (hl : len ≤ 1024) : ∃ pn, OneOk x pn := by
  have h0 := h.pc0
  have h1 := h.pc1
  obtain ⟨q0, q1, _⟩ := h.page hl
  exact ⟨(pageS x.pc).toNat, h.can, by omega, by omega, h.imm0, h.imm1, by omega, by omega⟩
theorem goes_facts {len : Nat} {R : List Itm} (h : RowOk len R) (hl : len ≤ 1024) (k : Nat) (hk : k + 1 < R.length) : R[k].next = R[k + 1].pc ∧ mayS R[k] R[k].next = true ∧ 0 ≤ R[k].next ∧ R[k].next ≤ 4294967295 := by
  obtain ⟨h1, h2⟩ := h.goes k hk
  have h3 := (h.item (k + 1) hk).pc0
  have h4 := (h.item (k + 1) hk).pc1
  exact ⟨h1, h2, by omega, by omega⟩
set_option maxHeartbeats 6400000 in
theorem goes_big (b off c : Nat) (bs : List Int) (pc most : Int) (a : Option Addr) (tc : Nat) (ts : List Bool) (p0 : 0 ≤ pc) (p1 : pc ≤ 4294967295) (h0 : 64 ≤ bs.length) (h1 : bs.length ≤ 1024) (h2 : bs.length % 64 = 0) (hcap : bs.length ≤ c) (htl : ts.length ≤ 100)
    (w : World) (hF : FormsAt w) (hR : ReadsB w ⟨b, off, none⟩ bs) (hT : TurnsAt w (.slice a ts.length tc) ts) :
    Calls Tryd.prog 7 #[.slice (some ⟨b, off, none⟩) bs.length c, .agg #[.int .u32 pc, .slice a ts.length tc, .int .i64 most]] w fun e w' => e = .returned (.bool true) ∧ Below w.heap.size w w' := by
  have hright := fun w' => rright_calls (bs.length : Int) (by omega) w'
  have hok : sizeOk (bs.length : Int) = true := decide_eq_true (by omega)
  rw [hok] at hright
  have hbx := bl_alloc (Below.refl w.heap.size w) (.cells #[.int .u32 pc, .slice a ts.length tc, .int .i64 most] 37)
  have hway := way_new w pc (.slice a ts.length tc) most
  obtain ⟨W, hW⟩ : ∃ W, w.alloc (.cells #[.int .u32 pc, .slice a ts.length tc, .int .i64 most] 37) = W := ⟨_, rfl⟩
  rw [hW] at hbx hway
  have hFW := hF.below hbx
  have hRW := hR.below hbx
  have hTW := hT.below hbx
  have hmem := fun W' (hb : Below W.heap.size W W') => memory_calls c ⟨b, off, none⟩ bs W' h0 (by omega) h2 (hRW.below hb)
  have hpl := path_len bs false (mostS most) pc ts
  have hml := most_le most
  have hrow := fun g gb w' hb hR' => path_calls g gb bs pc most ts a tc p0 p1 w' (hFW.below hb) hR' (hTW.below hb)
  have hok2 := (path_ok bs hR.bytes (mostS most) pc ts).1
  have hS := fun w' (hb : Below W.heap.size W w') => hway.below hb
  generalize pathS bs false (mostS most) pc ts = R at *
  have hmk : ∀ W : World, (Instr.makeSlice 35 (.int .i64 16) (.int .i64 16)).run Tryd.prog W = .ok (.slice (some ⟨W.heap.size, 0, none⟩) 16 16) (W.alloc (.cells (madeCells #[.bool false] 16) 4)) := fun W => run_make_row' (P := Tryd.prog) 35 4 (.bool false) 1 Tryd.underlying35 info_bool rfl .i64 .i64 16 (by omega) (by omega) W
  have HRi := Lib.hid hright
  have HM := Lib.hid hmem
  have HRo := Lib.hid hrow
  have HPGS := Lib.hid (fun (g gb : Nat) (Bx : Nat) (ax : Option Addr) (cx : Nat) w' hM hX => pages_calls g gb bs Bx ax cx R (by omega) h1 hok2 w' hM hX)
  have HPG := Lib.hid (fun (k : Nat) (h : k < R.length) (g gb : Nat) w' hM => page_calls g gb bs R[k].pc (hok2.item k h).pc0 (by have := (hok2.item k h).pc1; omega) ((hok2.item k h).page h1).2.2 w' hM)
  have HIT := Lib.hid (fun (k : Nat) (h : k < R.length) => item_facts (hok2.item k h) h1)
  have HGO := Lib.hid (fun (k : Nat) (h : k + 1 < R.length) => goes_facts hok2 h1 k h)
  have HFW := Lib.hid hFW
  have HS := Lib.hid hS
  have HWE := Lib.hid hW
  have HBX := Lib.hid hbx
  have hR32 : R.length ≤ 32 := by omega
  have hl4 : ¬ (1024 : Int) < bs.length := by omega
  have ht4 : ¬ (100 : Int) < ts.length := by omega
  clear hright hmem hpl hml hrow hok h0 h2 hF hR hT hS hW hbx hFW hRW hTW hway
  unfold WayAt at HS
  generalize hlen : bs.length = len at *
  generalize htlen : ts.length = tn at *
  clear hlen htlen hok2 h1
  go_enter Tryd.func7, Tryd.ntmps7
  go_wp2_with (go_at_call 8; refine (HRi.out _).mono ?_; rintro e w' ⟨rfl, rfl⟩)
  rw [HWE.out]
  have hcells := HS.out _ (Below.refl _ _)
  go_wp2_with (first
    | (go_at_call 13; refine (HM.out _ (Below.refl _ _)).mono ?_; rintro e w1 ⟨g, gb, rfl, hr1, hb1⟩; have HB1 := Lib.hid hb1; have HR1 := Lib.hid hr1; obtain ⟨s0, s1, s2⟩ := HS.out _ hb1; clear hb1 hr1)
    | (go_at_call 15; refine (HRo.out g gb w1 HB1.out HR1.out).mono ?_; rintro e w2 ⟨v2, rfl, ho2, hb2⟩; obtain ⟨a2, c2, hv2⟩ := ho2.slice; subst hv2; have HB2 := Lib.hid (bl_then HB1.out hb2); have HR2 := Lib.hid (HR1.out.below hb2); have HO2 := Lib.hid ho2; clear ho2 hb2)
    | (go_at_call 21; refine (HPGS.out g gb _ a2 c2 w2 HR2.out HO2.out).mono ?_; rintro e w3 ⟨v3, P, rfl, ho3, hri, hme, hb3⟩; obtain ⟨a3, c3, hv3⟩ := ho3.slice; subst hv3; have HB3 := Lib.hid (bl_then HB2.out hb3); have HR3 := Lib.hid (HR2.out.below hb3); have HL3 := Lib.hid (HO2.out.below hb3); have HO3 := Lib.hid ho3; have HRI := Lib.hid hri; have HME := Lib.hid hme; clear ho3 hri hme hb3))
  have HMD := Lib.hid (MetAt.made w3)
  have HK0 := Lib.hid (bl_alloc (Below.refl w3.heap.size w3) (.cells (madeCells #[.bool false] 16) 4))
  clear hcells s0 s1 s2
  go_loopw [9] (fun iv wr => GoesRel R w3 iv wr) (fun iv _ => R.length - (intOf iv).toNat)
  case atStart => exact ⟨0, Nat.zero_le _, rfl, HK0.out, by rw [List.take_zero, hits_nil]; exact HMD.out⟩
  case round =>
    obtain ⟨k, hk, rfl, hb, hmet⟩ := hrel
    by_cases hlt : k < R.length
    · have hL := HL3.out.below hb
      obtain ⟨gx, rfl, hgB, hgl, c0, c1, c2', c3', c4, c5, c6, c7⟩ := hL.eight k hlt
      have hts := take_one R k hlt
      obtain ⟨pn, hone⟩ := HIT.out k hlt
      have hpx := fun w' (hb' : Below wr.heap.size wr w') => HPG.out k hlt g gb w' (HR3.out.below (bl_then hb hb'))
      have hS9 : ∀ w', Below wr.heap.size wr w' → w'.cell? ⟨gx, k * 8, none⟩ = some (.int .u32 R[k].pc) ∧ w'.cell? ⟨gx, k * 8 + 1, none⟩ = some (.int .i64 R[k].i.op) ∧ w'.cell? ⟨gx, k * 8 + 2, none⟩ = some (.int .i64 R[k].i.rd) ∧ w'.cell? ⟨gx, k * 8 + 3, none⟩ = some (.int .i64 R[k].i.rs1) ∧ w'.cell? ⟨gx, k * 8 + 4, none⟩ = some (.int .i64 R[k].i.rs2) ∧ w'.cell? ⟨gx, k * 8 + 5, none⟩ = some (.int .u32 R[k].i.imm) ∧ w'.cell? ⟨gx, k * 8 + 6, none⟩ = some (.int .i64 R[k].i.csr) ∧ w'.cell? ⟨gx, k * 8 + 7, none⟩ = some (.int .u32 R[k].next) := by
        intro w' hb'
        have hg := fun (j : Nat) => hb'.cell (p := ⟨gx, k * 8 + j, none⟩) hgB
        have hg0 := hb'.cell (p := ⟨gx, k * 8, none⟩) hgB
        exact ⟨hg0.trans c0, (hg 1).trans c1, (hg 2).trans c2', (hg 3).trans c3', (hg 4).trans c4, (hg 5).trans c5, (hg 6).trans c6, (hg 7).trans c7⟩
      have hcan := fun w' (hb' : Below wr.heap.size wr w') => can_item R[k] hone.imm0 hone.imm1 w' (HFW.out.below (bl_then (bl_then HB3.out hb) hb'))
      rw [hone.can] at hcan
      rw [hone.page] at hpx
      have hpn := hone.lt
      have hmc := fun w' (hb' : Below wr.heap.size wr w') => (hmet.below hb').cell pn hpn
      have hmf := fun w' (hb' : Below wr.heap.size wr w') => (hmet.below hb').free pn
      have hrel' : ∀ w', Below wr.heap.size wr w' → GoesRel R w3 (.int .i64 ((k : Int) + 1)) (w'.setCell ⟨w3.heap.size, pn, none⟩ (.bool true)) := by
        intro w' hb'
        refine ⟨k + 1, by omega, by simp, (bl_then hb hb').setCell (Nat.le_refl _) _, ?_⟩
        exact ((hmet.below hb').set pn).congr fun j _ => hits_take R k R[k] pn hts hone.page j
      by_cases hlast : k + 1 < R.length
      · obtain ⟨g1, g2, g3, g4⟩ := HGO.out k hlast
        have hmay := fun w' => may_item R[k] R[k].next hone.pc0 hone.pc1 hone.imm0 hone.imm1 g3 g4 w'
        rw [g2] at hmay
        obtain ⟨gx', hgx', hgB', _, d0, _⟩ := hL.eight (k + 1) hlast
        obtain rfl : gx = gx' := by simpa using hgx'
        rw [← g1] at d0
        have hS10 : ∀ w', Below wr.heap.size wr w' → w'.cell? ⟨gx, (k + 1) * 8, none⟩ = some (.int .u32 R[k].next) := fun w' hb' => (hb'.cell (p := ⟨gx, (k + 1) * 8, none⟩) hgB').trans d0
        have HCAN := Lib.hid hcan
        have HMAY := Lib.hid hmay
        have HPX := Lib.hid hpx
        have HT := Lib.hid (fun w' hb' => (⟨(hS9 w' hb').1, (hS9 w' hb').2.1, (hS9 w' hb').2.2.1, (hS9 w' hb').2.2.2.1, (hS9 w' hb').2.2.2.2.1, (hS9 w' hb').2.2.2.2.2.1, (hS9 w' hb').2.2.2.2.2.2.1, (hS9 w' hb').2.2.2.2.2.2.2, hS10 w' hb'⟩ : _ ∧ _ ∧ _ ∧ _ ∧ _ ∧ _ ∧ _ ∧ _ ∧ _))
        have HMC := Lib.hid hmc
        have HMF := Lib.hid hmf
        have HREL := Lib.hid hrel'
        clear hcan hmay hpx hS9 hS10 hmc hmf hrel' hmet hb hL hts hone g1 g2 g3 g4 d0 c0 c1 c2' c3' c4 c5 c6 c7 hgx'
        generalize R[k] = x at *
        have hq1 : decide ((k : Int) + 1 < (R.length : Int)) = true := decide_eq_true (by omega)
        have hwr : IntKind.i64.wrap ((k : Int) + 1) = (k : Int) + 1 := by rw [IntKind.wrap_i64]; omega
        have hk0 : (0 : Int) ≤ (k : Int) := Int.natCast_nonneg _
        have hk1 : (0 : Int) ≤ (k : Int) + 1 := by omega
        have hk2 : (k : Int) < (R.length : Int) := by omega
        have hk3 : (k : Int) + 1 < (R.length : Int) := by omega
        have hk4 : ((k : Int) + 1).toNat = k + 1 := by omega
        unfold itmV at HMAY
        go_wp2
        go_region_held3 (fun w' => w'.cell? ⟨gx, k * 8, none⟩ = some (.int .u32 x.pc) ∧ w'.cell? ⟨gx, k * 8 + 1, none⟩ = some (.int .i64 x.i.op) ∧ w'.cell? ⟨gx, k * 8 + 2, none⟩ = some (.int .i64 x.i.rd) ∧ w'.cell? ⟨gx, k * 8 + 3, none⟩ = some (.int .i64 x.i.rs1) ∧ w'.cell? ⟨gx, k * 8 + 4, none⟩ = some (.int .i64 x.i.rs2) ∧ w'.cell? ⟨gx, k * 8 + 5, none⟩ = some (.int .u32 x.i.imm) ∧ w'.cell? ⟨gx, k * 8 + 6, none⟩ = some (.int .i64 x.i.csr) ∧ w'.cell? ⟨gx, k * 8 + 7, none⟩ = some (.int .u32 x.next) ∧ w'.cell? ⟨gx, (k + 1) * 8, none⟩ = some (.int .u32 x.next))
          (first| exact HT.out _ HB5.out | exact HT.out _ HB4.out | exact HT.out _ (bl_drew (Below.refl _ _)) | exact HT.out _ (Below.refl _ _))
          ((first
            | (go_at_call 22; refine (HCAN.out _ (bl_drew (Below.refl wr.heap.size wr))).mono ?_; rintro e w4 ⟨rfl, hb4⟩; have HB4 := Lib.hid (bl_then (bl_drew (Below.refl wr.heap.size wr)) hb4); clear hb4)
            | (go_at_call 23; refine (HMAY.out _).mono ?_; rintro e w5 ⟨rfl, hb5⟩; have HB5 := Lib.hid (bl_then HB4.out hb5); clear hb5)
            | (go_at_call 24; refine (HPX.out _ HB5.out).mono ?_; rintro e w' ⟨rfl, rfl⟩)))

        have z0 := (HT.out _ HB5.out).1
        have z1 := HMC.out _ HB5.out
        have z2 := HMF.out _ HB5.out
        go_wp2_with (go_at_call 24; refine (HPX.out _ HB5.out).mono ?_; rintro e w' ⟨rfl, rfl⟩)
        go_roundw
        case rel => exact HREL.out _ HB5.out
        case measure => simp [intOf]; omega
      · have hlast' : k + 1 = R.length := by omega
        have HCAN := Lib.hid hcan
        have HPX := Lib.hid hpx
        have HT := Lib.hid hS9
        have HMC := Lib.hid hmc
        have HMF := Lib.hid hmf
        have HREL := Lib.hid hrel'
        clear hcan hpx hS9 hmc hmf hrel' hmet hb hL hts hone c0 c1 c2' c3' c4 c5 c6 c7
        generalize R[k] = x at *
        have hq1 : decide ((k : Int) + 1 < (R.length : Int)) = false := decide_eq_false (by omega)
        have hwr : IntKind.i64.wrap ((k : Int) + 1) = (k : Int) + 1 := by rw [IntKind.wrap_i64]; omega
        have hk0 : (0 : Int) ≤ (k : Int) := Int.natCast_nonneg _
        have hk2 : (k : Int) < (R.length : Int) := by omega
        have hk3 : ¬ (k : Int) + 1 < (R.length : Int) := by omega
        go_wp2
        refine wp_region_held_drew (S := fun w' => w'.cell? ⟨gx, k * 8, none⟩ = some (.int .u32 x.pc) ∧ w'.cell? ⟨gx, k * 8 + 1, none⟩ = some (.int .i64 x.i.op) ∧ w'.cell? ⟨gx, k * 8 + 2, none⟩ = some (.int .i64 x.i.rd) ∧ w'.cell? ⟨gx, k * 8 + 3, none⟩ = some (.int .i64 x.i.rs1) ∧ w'.cell? ⟨gx, k * 8 + 4, none⟩ = some (.int .i64 x.i.rs2) ∧ w'.cell? ⟨gx, k * 8 + 5, none⟩ = some (.int .u32 x.i.imm) ∧ w'.cell? ⟨gx, k * 8 + 6, none⟩ = some (.int .i64 x.i.csr) ∧ w'.cell? ⟨gx, k * 8 + 7, none⟩ = some (.int .u32 x.next)) (by kernel_rfl) (HT.out _ (bl_drew (Below.refl _ _))) (fun hHeld => ?_)
        refine takeH (i := 0) (v := ?v0) rfl (by kernel_rfl) (by kernel_rfl) (by kernel_rfl) (fun _ _ _ h => h) (by rfl) ?hy0 (by assumption) ?rest0
        case hy0 => (intro w9 hSw; (try dsimp only at hSw); go_simp; try with_reducible rfl)
        try simp only [Act.put, List.setIfInBounds_toArray, List.set_cons_zero, List.set_cons_succ]
        refine takeH (i := 1) (v := ?v1) rfl (by kernel_rfl) (by kernel_rfl) (by kernel_rfl) (fun _ _ _ h => h) (by rfl) ?hy1 (by assumption) ?rest1
        case hy1 => (intro w9 hSw; (try dsimp only at hSw); go_simp; try with_reducible rfl)
        try simp only [Act.put, List.setIfInBounds_toArray, List.set_cons_zero, List.set_cons_succ]
        refine takeH (i := 2) (v := ?v2) rfl (by kernel_rfl) (by kernel_rfl) (by kernel_rfl) (fun _ _ _ h => h) (by rfl) ?hy2 (by assumption) ?rest2
        case hy2 => (intro w9 hSw; (try dsimp only at hSw); go_simp; try with_reducible rfl)
        try simp only [Act.put, List.setIfInBounds_toArray, List.set_cons_zero, List.set_cons_succ]
        refine takeH (i := 3) (v := ?v3) rfl (by kernel_rfl) (by kernel_rfl) (by kernel_rfl) (fun _ _ _ h => h) (by rfl) ?hy3 (by assumption) ?rest3
        case hy3 => (intro w9 hSw; (try dsimp only at hSw); go_simp; try with_reducible rfl)
        try simp only [Act.put, List.setIfInBounds_toArray, List.set_cons_zero, List.set_cons_succ]
        refine takeH (i := 4) (v := ?v4) rfl (by kernel_rfl) (by kernel_rfl) (by kernel_rfl) (fun _ _ _ h => h) (by rfl) ?hy4 (by assumption) ?rest4
        case hy4 => (intro w9 hSw; (try dsimp only at hSw); go_simp; try with_reducible rfl)
        try simp only [Act.put, List.setIfInBounds_toArray, List.set_cons_zero, List.set_cons_succ]
        refine readyH (i := 5) rfl (by kernel_rfl) (fun K hK => ?_)
        go_simp
        go_at_call 22
        refine (HCAN.out _ (bl_drew (Below.refl wr.heap.size wr))).mono ?_
        rintro e w4 ⟨rfl, hb4⟩
        have HB4 := Lib.hid (bl_then (bl_drew (Below.refl wr.heap.size wr)) hb4)
        clear hb4
        refine hK.out _ _ (HT.out _ HB4.out) (fun hHeld => ?_)
        clear hK K
        try simp only [Act.put, List.setIfInBounds_toArray, List.set_cons_zero, List.set_cons_succ]
        refine takeH (i := 6) (v := ?v6) rfl (by kernel_rfl) (by kernel_rfl) (by kernel_rfl) (fun _ _ _ h => h) (by rfl) ?hy6 (by assumption) ?rest6
        case hy6 => (intro w9 hSw; (try dsimp only at hSw); go_simp; try with_reducible rfl)
        try simp only [Act.put, List.setIfInBounds_toArray, List.set_cons_zero, List.set_cons_succ]
        refine takeH (i := 7) (v := ?v7) rfl (by kernel_rfl) (by kernel_rfl) (by kernel_rfl) (fun _ _ _ h => h) (by rfl) ?hy7 (by assumption) ?rest7
        case hy7 => (intro w9 hSw; (try dsimp only at hSw); go_simp; try with_reducible rfl)
        try simp only [Act.put, List.setIfInBounds_toArray, List.set_cons_zero, List.set_cons_succ]
        refine takeH (i := 8) (v := ?v8) rfl (by kernel_rfl) (by kernel_rfl) (by kernel_rfl) (fun _ _ _ h => h) (by rfl) ?hy8 (by assumption) ?rest8
        case hy8 => (intro w9 hSw; (try dsimp only at hSw); go_simp; try with_reducible rfl)
        try simp only [Act.put, List.setIfInBounds_toArray, List.set_cons_zero, List.set_cons_succ]
        refine takeH (i := 9) (v := ?v9) rfl (by kernel_rfl) (by kernel_rfl) (by kernel_rfl) (fun _ _ _ h => h) (by rfl) ?hy9 (by assumption) ?rest9
        case hy9 => (intro w9 hSw; (try dsimp only at hSw); go_simp; try with_reducible rfl)
        try simp only [Act.put, List.setIfInBounds_toArray, List.set_cons_zero, List.set_cons_succ]
        refine takeH (i := 10) (v := ?v10) rfl (by kernel_rfl) (by kernel_rfl) (by kernel_rfl) (fun _ _ _ h => h) (by rfl) ?hy10 (by assumption) ?rest10
        case hy10 => (intro w9 hSw; (try dsimp only at hSw); go_simp; try with_reducible rfl)
        try simp only [Act.put, List.setIfInBounds_toArray, List.set_cons_zero, List.set_cons_succ]
        refine takeH (i := 11) (v := ?v11) rfl (by kernel_rfl) (by kernel_rfl) (by kernel_rfl) (fun _ _ _ h => h) (by rfl) ?hy11 (by assumption) ?rest11
        case hy11 => (intro w9 hSw; (try dsimp only at hSw); go_simp; try with_reducible rfl)
        try simp only [Act.put, List.setIfInBounds_toArray, List.set_cons_zero, List.set_cons_succ]
        refine takeH (i := 12) (v := ?v12) rfl (by kernel_rfl) (by kernel_rfl) (by kernel_rfl) (fun _ _ _ h => h) (by rfl) ?hy12 (by assumption) ?rest12
        case hy12 => (intro w9 hSw; (try dsimp only at hSw); go_simp; try with_reducible rfl)
        try simp only [Act.put, List.setIfInBounds_toArray, List.set_cons_zero, List.set_cons_succ]
        refine takeH (i := 13) (v := ?v13) rfl (by kernel_rfl) (by kernel_rfl) (by kernel_rfl) (fun _ _ _ h => h) (by rfl) ?hy13 (by assumption) ?rest13
        case hy13 => (intro w9 hSw; (try dsimp only at hSw); go_simp; try with_reducible rfl)
        try simp only [Act.put, List.setIfInBounds_toArray, List.set_cons_zero, List.set_cons_succ]
        refine skipH (i := 14) rfl (by kernel_rfl) (by kernel_rfl) (by kernel_rfl) (fun _ _ _ h => h) (by rfl) (by assumption) ?_
        try simp only [Act.put, List.setIfInBounds_toArray, List.set_cons_zero, List.set_cons_succ]
        refine skipH (i := 15) rfl (by kernel_rfl) (by kernel_rfl) (by kernel_rfl) (fun _ _ _ h => h) (by rfl) (by assumption) ?_
        try simp only [Act.put, List.setIfInBounds_toArray, List.set_cons_zero, List.set_cons_succ]
        refine skipH (i := 16) rfl (by kernel_rfl) (by kernel_rfl) (by kernel_rfl) (fun _ _ _ h => h) (by rfl) (by assumption) ?_
        try simp only [Act.put, List.setIfInBounds_toArray, List.set_cons_zero, List.set_cons_succ]
        refine skipH (i := 17) rfl (by kernel_rfl) (by kernel_rfl) (by kernel_rfl) (fun _ _ _ h => h) (by rfl) (by assumption) ?_
        try simp only [Act.put, List.setIfInBounds_toArray, List.set_cons_zero, List.set_cons_succ]
        refine skipH (i := 18) rfl (by kernel_rfl) (by kernel_rfl) (by kernel_rfl) (fun _ _ _ h => h) (by rfl) (by assumption) ?_
        try simp only [Act.put, List.setIfInBounds_toArray, List.set_cons_zero, List.set_cons_succ]
        refine skipH (i := 19) rfl (by kernel_rfl) (by kernel_rfl) (by kernel_rfl) (fun _ _ _ h => h) (by rfl) (by assumption) ?_
        try simp only [Act.put, List.setIfInBounds_toArray, List.set_cons_zero, List.set_cons_succ]
        refine skipH (i := 20) rfl (by kernel_rfl) (by kernel_rfl) (by kernel_rfl) (fun _ _ _ h => h) (by rfl) (by assumption) ?_
        try simp only [Act.put, List.setIfInBounds_toArray, List.set_cons_zero, List.set_cons_succ]
        refine skipH (i := 21) rfl (by kernel_rfl) (by kernel_rfl) (by kernel_rfl) (fun _ _ _ h => h) (by rfl) (by assumption) ?_
        try simp only [Act.put, List.setIfInBounds_toArray, List.set_cons_zero, List.set_cons_succ]
        refine skipH (i := 22) rfl (by kernel_rfl) (by kernel_rfl) (by kernel_rfl) (fun _ _ _ h => h) (by rfl) (by assumption) ?_
        try simp only [Act.put, List.setIfInBounds_toArray, List.set_cons_zero, List.set_cons_succ]
        refine skipH (i := 23) rfl (by kernel_rfl) (by kernel_rfl) (by kernel_rfl) (fun _ _ _ h => h) (by rfl) (by assumption) ?_
        try simp only [Act.put, List.setIfInBounds_toArray, List.set_cons_zero, List.set_cons_succ]
        refine skipH (i := 24) rfl (by kernel_rfl) (by kernel_rfl) (by kernel_rfl) (fun _ _ _ h => h) (by rfl) (by assumption) ?_
        try simp only [Act.put, List.setIfInBounds_toArray, List.set_cons_zero, List.set_cons_succ]
        refine skipH (i := 25) rfl (by kernel_rfl) (by kernel_rfl) (by kernel_rfl) (fun _ _ _ h => h) (by rfl) (by assumption) ?_
        try simp only [Act.put, List.setIfInBounds_toArray, List.set_cons_zero, List.set_cons_succ]
        refine skipH (i := 26) rfl (by kernel_rfl) (by kernel_rfl) (by kernel_rfl) (fun _ _ _ h => h) (by rfl) (by assumption) ?_
        try simp only [Act.put, List.setIfInBounds_toArray, List.set_cons_zero, List.set_cons_succ]
        refine skipH (i := 27) rfl (by kernel_rfl) (by kernel_rfl) (by kernel_rfl) (fun _ _ _ h => h) (by rfl) (by assumption) ?_
        try simp only [Act.put, List.setIfInBounds_toArray, List.set_cons_zero, List.set_cons_succ]
        refine skipH (i := 28) rfl (by kernel_rfl) (by kernel_rfl) (by kernel_rfl) (fun _ _ _ h => h) (by rfl) (by assumption) ?_
        try simp only [Act.put, List.setIfInBounds_toArray, List.set_cons_zero, List.set_cons_succ]
        refine skipH (i := 29) rfl (by kernel_rfl) (by kernel_rfl) (by kernel_rfl) (fun _ _ _ h => h) (by rfl) (by assumption) ?_
        try simp only [Act.put, List.setIfInBounds_toArray, List.set_cons_zero, List.set_cons_succ]
        refine skipH (i := 30) rfl (by kernel_rfl) (by kernel_rfl) (by kernel_rfl) (fun _ _ _ h => h) (by rfl) (by assumption) ?_
        try simp only [Act.put, List.setIfInBounds_toArray, List.set_cons_zero, List.set_cons_succ]
        refine skipH (i := 31) rfl (by kernel_rfl) (by kernel_rfl) (by kernel_rfl) (fun _ _ _ h => h) (by rfl) (by assumption) ?_
        try simp only [Act.put, List.setIfInBounds_toArray, List.set_cons_zero, List.set_cons_succ]
        refine skipH (i := 32) rfl (by kernel_rfl) (by kernel_rfl) (by kernel_rfl) (fun _ _ _ h => h) (by rfl) (by assumption) ?_
        try simp only [Act.put, List.setIfInBounds_toArray, List.set_cons_zero, List.set_cons_succ]
        refine skipH (i := 33) rfl (by kernel_rfl) (by kernel_rfl) (by kernel_rfl) (fun _ _ _ h => h) (by rfl) (by assumption) ?_
        try simp only [Act.put, List.setIfInBounds_toArray, List.set_cons_zero, List.set_cons_succ]
        refine skipH (i := 34) rfl (by kernel_rfl) (by kernel_rfl) (by kernel_rfl) (fun _ _ _ h => h) (by rfl) (by assumption) ?_
        try simp only [Act.put, List.setIfInBounds_toArray, List.set_cons_zero, List.set_cons_succ]
        refine skipH (i := 35) rfl (by kernel_rfl) (by kernel_rfl) (by kernel_rfl) (fun _ _ _ h => h) (by rfl) (by assumption) ?_
        try simp only [Act.put, List.setIfInBounds_toArray, List.set_cons_zero, List.set_cons_succ]
        refine skipH (i := 36) rfl (by kernel_rfl) (by kernel_rfl) (by kernel_rfl) (fun _ _ _ h => h) (by rfl) (by assumption) ?_
        try simp only [Act.put, List.setIfInBounds_toArray, List.set_cons_zero, List.set_cons_succ]
        refine skipH (i := 37) rfl (by kernel_rfl) (by kernel_rfl) (by kernel_rfl) (fun _ _ _ h => h) (by rfl) (by assumption) ?_
        try simp only [Act.put, List.setIfInBounds_toArray, List.set_cons_zero, List.set_cons_succ]
        refine skipH (i := 38) rfl (by kernel_rfl) (by kernel_rfl) (by kernel_rfl) (fun _ _ _ h => h) (by rfl) (by assumption) ?_
        try simp only [Act.put, List.setIfInBounds_toArray, List.set_cons_zero, List.set_cons_succ]
        refine takeH (i := 39) (v := ?v39) rfl (by kernel_rfl) (by kernel_rfl) (by kernel_rfl) (fun _ _ _ h => h) (by rfl) ?hy39 (by assumption) ?rest39
        case hy39 => (intro w9 hSw; (try dsimp only at hSw); go_simp; try with_reducible rfl)
        try simp only [Act.put, List.setIfInBounds_toArray, List.set_cons_zero, List.set_cons_succ]
        refine takeH (i := 40) (v := ?v40) rfl (by kernel_rfl) (by kernel_rfl) (by kernel_rfl) (fun _ _ _ h => h) (by rfl) ?hy40 (by assumption) ?rest40
        case hy40 => (intro w9 hSw; (try dsimp only at hSw); go_simp; try with_reducible rfl)
        try simp only [Act.put, List.setIfInBounds_toArray, List.set_cons_zero, List.set_cons_succ]
        refine takeH (i := 41) (v := ?v41) rfl (by kernel_rfl) (by kernel_rfl) (by kernel_rfl) (fun _ _ _ h => h) (by rfl) ?hy41 (by assumption) ?rest41
        case hy41 => (intro w9 hSw; (try dsimp only at hSw); go_simp; try with_reducible rfl)
        try simp only [Act.put, List.setIfInBounds_toArray, List.set_cons_zero, List.set_cons_succ]
        refine takeH (i := 42) (v := ?v42) rfl (by kernel_rfl) (by kernel_rfl) (by kernel_rfl) (fun _ _ _ h => h) (by rfl) ?hy42 (by assumption) ?rest42
        case hy42 => (intro w9 hSw; (try dsimp only at hSw); go_simp; try with_reducible rfl)
        try simp only [Act.put, List.setIfInBounds_toArray, List.set_cons_zero, List.set_cons_succ]
        refine takeH (i := 43) (v := ?v43) rfl (by kernel_rfl) (by kernel_rfl) (by kernel_rfl) (fun _ _ _ h => h) (by rfl) ?hy43 (by assumption) ?rest43
        case hy43 => (intro w9 hSw; (try dsimp only at hSw); go_simp; try with_reducible rfl)
        try simp only [Act.put, List.setIfInBounds_toArray, List.set_cons_zero, List.set_cons_succ]
        refine takeH (i := 44) (v := ?v44) rfl (by kernel_rfl) (by kernel_rfl) (by kernel_rfl) (fun _ _ _ h => h) (by rfl) ?hy44 (by assumption) ?rest44
        case hy44 => (intro w9 hSw; (try dsimp only at hSw); go_simp; try with_reducible rfl)
        try simp only [Act.put, List.setIfInBounds_toArray, List.set_cons_zero, List.set_cons_succ]
        refine takeH (i := 45) (v := ?v45) rfl (by kernel_rfl) (by kernel_rfl) (by kernel_rfl) (fun _ _ _ h => h) (by rfl) ?hy45 (by assumption) ?rest45
        case hy45 => (intro w9 hSw; (try dsimp only at hSw); go_simp; try with_reducible rfl)
        try simp only [Act.put, List.setIfInBounds_toArray, List.set_cons_zero, List.set_cons_succ]
        refine takeH (i := 46) (v := ?v46) rfl (by kernel_rfl) (by kernel_rfl) (by kernel_rfl) (fun _ _ _ h => h) (by rfl) ?hy46 (by assumption) ?rest46
        case hy46 => (intro w9 hSw; (try dsimp only at hSw); go_simp; try with_reducible rfl)
        try simp only [Act.put, List.setIfInBounds_toArray, List.set_cons_zero, List.set_cons_succ]
        refine takeH (i := 47) (v := ?v47) rfl (by kernel_rfl) (by kernel_rfl) (by kernel_rfl) (fun _ _ _ h => h) (by rfl) ?hy47 (by assumption) ?rest47
        case hy47 => (intro w9 hSw; (try dsimp only at hSw); go_simp; try with_reducible rfl)
        try simp only [Act.put, List.setIfInBounds_toArray, List.set_cons_zero, List.set_cons_succ]
        refine readyH (i := 48) rfl (by kernel_rfl) (fun K hK => ?_)
        go_simp
        go_at_call 24
        refine (HPX.out _ HB4.out).mono ?_
        rintro e w' ⟨rfl, rfl⟩
        refine hK.out _ _ (HT.out _ HB4.out) (fun hHeld => ?_)
        clear hK K
        try simp only [Act.put, List.setIfInBounds_toArray, List.set_cons_zero, List.set_cons_succ]
        refine takeH (i := 49) (v := ?v49) rfl (by kernel_rfl) (by kernel_rfl) (by kernel_rfl) (fun _ _ _ h => h) (by rfl) ?hy49 (by assumption) ?rest49
        case hy49 => (intro w9 hSw; (try dsimp only at hSw); go_simp; try with_reducible rfl)
        try simp only [Act.put, List.setIfInBounds_toArray, List.set_cons_zero, List.set_cons_succ]
        refine takeH (i := 50) (v := ?v50) rfl (by kernel_rfl) (by kernel_rfl) (by kernel_rfl) (fun _ _ _ h => h) (by rfl) ?hy50 (by assumption) ?rest50
        case hy50 => (intro w9 hSw; (try dsimp only at hSw); go_simp; try with_reducible rfl)
        try simp only [Act.put, List.setIfInBounds_toArray, List.set_cons_zero, List.set_cons_succ]
        refine wpAnyH_done (by kernel_rfl) ?_ _
        have z0 := (HT.out _ HB4.out).1
        have z1 := HMC.out _ HB4.out
        have z2 := HMF.out _ HB4.out
        go_wp2_with (go_at_call 24; refine (HPX.out _ HB4.out).mono ?_; rintro e w' ⟨rfl, rfl⟩)
        go_roundw
        case rel => exact HREL.out _ HB4.out
        case measure => simp [intOf]; omega
    · obtain rfl : k = R.length := by omega
      rw [List.take_length] at hmet
      have HMET := Lib.hid hmet
      have HO := Lib.hid (HO3.out.below hb)
      have HAW := Lib.hid (awake_calls wr (HFW.out.below (bl_then HB3.out hb)))
      have HBE := Lib.hid (bl_then HB3.out hb)
      have hpl := (HO.out.len_le).2
      have hrng : ∀ x ∈ P, 0 ≤ x ∧ x < 16 := by
        intro x hx
        obtain ⟨y, hy, rfl⟩ := (HME.out x).1 hx
        obtain ⟨j, hj, rfl⟩ := List.mem_iff_getElem.1 hy
        obtain ⟨pn, ho⟩ := HIT.out j hj
        rw [ho.page]
        have := ho.lt
        omega
      have hmem : ∀ i : Nat, hitsS R i = decide ((i : Int) ∈ P) := by
        intro i
        unfold hitsS
        rw [decide_eq_decide]
        exact (HME.out (i : Int)).symm
      have HRG := Lib.hid hrng
      have HMM := Lib.hid hmem
      have hml : maxLen = 9223372036854775807 := rfl
      have hpl' : (P.length : Int) ≤ 9223372036854775807 := by omega
      clear hmet hb hrng hmem
      have HRI' := HRI
      generalize hw3 : w3.heap.size = gm at *
      go_wp2
      go_loop [10, 11] (fun nv iv => CountRel P nv iv) (fun _ iv => 16 - (intOf iv).toNat)
      case atStart => exact ⟨0, 0, rfl, rfl, by omega, Nat.zero_le _, fun k h => by have := HRG.out P[k] (List.getElem_mem h); constructor <;> intro h' <;> omega⟩
      case round =>
        obtain ⟨n, i, rfl, rfl, hi, hn, hlow⟩ := hrel
        by_cases hlt : i < 16
        · have hc := HMET.out.cell i hlt
          have hi16 : (i : Int) < 16 := by omega
          have hi0 : (0 : Int) ≤ (i : Int) := Int.natCast_nonneg _
          have hn0 : (0 : Int) ≤ (n : Int) := Int.natCast_nonneg _
          obtain ⟨r1, r2, r3⟩ := rise_count P HRI.out HRG.out i n hn hlow
          have hmi := HMM.out i
          by_cases hin : (i : Int) ∈ P
          · rw [hmi, decide_eq_true hin] at hc
            obtain ⟨q1, q2⟩ := r1 hin
            have q3 := q2 q1
            obtain ⟨gp, rfl, hgp, hgp', d0⟩ := HO.out.z_cell n q1
            rw [show P.getD n 0 = (i : Int) by rw [List.getD_eq_getElem?_getD, List.getElem?_eq_getElem q1]; simpa using q3] at d0
            have hnl : (n : Int) < (P.length : Int) := by omega
            have HR2 := Lib.hid (r2 hin)
            clear r1 r2 r3 hlow hmi hin q2 q3
            go_wp2
            go_round
            case rel => exact ⟨n + 1, i + 1, by go_num, by go_num, by omega, by omega, HR2.out⟩
            case measure => simp [intOf]; omega
          · rw [hmi, decide_eq_false hin] at hc
            have HR3 := Lib.hid (r3 hin)
            clear r1 r2 r3 hlow hmi hin
            go_wp2
            go_round
            case rel => exact ⟨n, i + 1, rfl, by go_num, by omega, hn, HR3.out⟩
            case measure => simp [intOf]; omega
        · obtain rfl : i = 16 := by omega
          obtain rfl : n = P.length := by
            by_cases h : n < P.length
            · have h1 := (hlow n h).2 (by have := HRG.out P[n] (List.getElem_mem h); omega)
              omega
            · omega
          clear hlow
          go_wp2_with (go_at_call 9; refine HAW.out.mono ?_; rintro e w7 ⟨rfl, hb7⟩; have HB7 := Lib.hid (bl_then HBE.out hb7); clear hb7)
          go_ret
          exact ⟨rfl, HBX.out.trans (HB7.out.mono HBX.out.size)⟩
set_option maxHeartbeats 1600000 in
theorem goes_small (a : Option Addr) (len c : Nat) (pc most : Int) (ta : Option Addr) (tn tc : Nat) (hl : (len : Int) ≤ 9223372036854775807) (htl : (tn : Int) ≤ 9223372036854775807) (hn : ¬ (64 ≤ len ∧ len ≤ 1024 ∧ len % 64 = 0 ∧ tn ≤ 100)) (w : World) (hF : FormsAt w) :
    Calls Tryd.prog 7 #[.slice a len c, .agg #[.int .u32 pc, .slice ta tn tc, .int .i64 most]] w fun e w' => e = .returned (.bool true) ∧ Below w.heap.size w w' := by
  have hright := fun w' => rright_calls (len : Int) (by omega) w'
  have hbx := bl_alloc (Below.refl w.heap.size w) (.cells #[.int .u32 pc, .slice ta tn tc, .int .i64 most] 37)
  have haw := awake_calls _ (hF.below hbx)
  have HA := Lib.hid haw
  have HBX := Lib.hid hbx
  clear haw hF hbx
  cases hok : sizeOk (len : Int)
  · rw [hok] at hright
    have HRi := Lib.hid hright
    clear hright hok hn
    go_enter Tryd.func7, Tryd.ntmps7
    go_wp2_with (first | (go_at_call 8; refine (HRi.out _).mono ?_; rintro e w' ⟨rfl, rfl⟩) | (go_at_call 9; refine HA.out.mono ?_; rintro e w1 ⟨rfl, hb1⟩))
    go_ret
    exact ⟨rfl, HBX.out.trans (hb1.mono HBX.out.size)⟩
  · rw [hok] at hright
    unfold sizeOk at hok
    simp only [decide_eq_true_eq] at hok
    have HRi := Lib.hid hright
    by_cases hbig : (1024 : Int) < len
    · clear hright hok hn
      go_enter Tryd.func7, Tryd.ntmps7
      go_wp2_with (first | (go_at_call 8; refine (HRi.out _).mono ?_; rintro e w' ⟨rfl, rfl⟩) | (go_at_call 9; refine HA.out.mono ?_; rintro e w1 ⟨rfl, hb1⟩))
      go_ret
      exact ⟨rfl, HBX.out.trans (hb1.mono HBX.out.size)⟩
    · have hbig2 : (100 : Int) < tn := by omega
      clear hright hok hn
      go_enter Tryd.func7, Tryd.ntmps7
      go_wp2_with (first | (go_at_call 8; refine (HRi.out _).mono ?_; rintro e w' ⟨rfl, rfl⟩) | (go_at_call 9; refine HA.out.mono ?_; rintro e w1 ⟨rfl, hb1⟩))
      go_ret
      exact ⟨rfl, HBX.out.trans (hb1.mono HBX.out.size)⟩
end Go.Proofs.YtnbbhgpflanhaaaDoor
