/- Walks: the item at an address. -/
import Derived.Test.YtnbbhgpflanhaaaDoorScanB
namespace Go.Proofs.YtnbbhgpflanhaaaDoor
open Go.RowKit
set_option maxRecDepth 100000
set_option linter.unusedVariables false

theorem imm_range (w f : Int) (h0 : 0 ≤ w) (h1 : w ≤ 4294967295) : 0 ≤ immS w f ∧ immS w f ≤ 4294967295 := by
  unfold immS ext
  repeat' split
  all_goals omega
theorem dec_imm (w : Int) (h0 : 0 ≤ w) (h1 : w ≤ 4294967295) : 0 ≤ (decS w).imm ∧ (decS w).imm ≤ 4294967295 := by
  unfold decS
  split
  · simp
  · exact imm_range w _ h0 h1
def itmV (x : Itm) : Value := .agg #[.int .u32 x.pc, .int .i64 x.i.op, .int .i64 x.i.rd, .int .i64 x.i.rs1, .int .i64 x.i.rs2, .int .u32 x.i.imm, .int .i64 x.i.csr, .int .u32 x.next]
def nextS (pc : Int) (i : Ins) : Int := if i.op = 3 then (pc + i.imm) % 4294967296 else if i.op = 4 then 0 else (pc + 4) % 4294967296
theorem next_3 (pc : Int) (i : Ins) (h : (i.op == 3) = true) : nextS pc i = (pc + i.imm) % 4294967296 := by unfold nextS; rw [if_pos (by simpa using h)]
theorem next_4 (pc : Int) (i : Ins) (h3 : (i.op == 3) = false) (h : (i.op == 4) = true) : nextS pc i = 0 := by unfold nextS; rw [if_neg (by simpa using h3), if_pos (by simpa using h)]
theorem next_o (pc : Int) (i : Ins) (h3 : (i.op == 3) = false) (h : (i.op == 4) = false) : nextS pc i = (pc + 4) % 4294967296 := by unfold nextS; rw [if_neg (by simpa using h3), if_neg (by simpa using h)]
def AtPost (w : World) (pc v er : Int) (e : Ending) (w' : World) : Prop :=
  e = .returned (.tuple #[itmV ⟨pc, decS v, nextS pc (decS v)⟩, .bool (er == 0 && canS (decS v))]) ∧ Below w.heap.size w w'
set_option maxHeartbeats 8000000 in
theorem sat_of (pm : Option Addr) (pc v er nx : Int) (i : Ins) (cv : Bool) (p0 : 0 ≤ pc) (p1 : pc ≤ 4294967295) (i0 : 0 ≤ i.imm) (i1 : i.imm ≤ 4294967295) (w : World) (hF : FormsAt w)
    (HL : Hid (∀ w', Below w.heap.size w w' → Calls Tryd.prog 70 #[.pointer pm, .int .u32 pc, .int .i64 4] w' fun e w'' => e = .returned (.tuple #[.int .u32 v, .int .i64 er]) ∧ w' = w''))
    (HD : Hid (∀ w', FormsAt w' → Calls Tryd.prog 71 #[.int .u32 v] w' fun e w'' => e = .returned (insV i) ∧ Below w'.heap.size w' w''))
    (HC : Hid (∀ w', FormsAt w' → Calls Tryd.prog 22 #[.agg #[.int .i64 i.op, .int .i64 i.rd, .int .i64 i.rs1, .int .i64 i.rs2, .int .u32 i.imm, .int .i64 i.csr]] w' fun e w'' => e = .returned (.bool cv) ∧ Below w'.heap.size w' w''))
    (h3 : (i.op == 3) = false) (h4 : (i.op == 4) = false) (hx : nx = (pc + 4) % 4294967296) (he : (er == 0) = false) :
    Calls Tryd.prog 46 #[.pointer pm, .int .u32 pc] w fun e w' => e = .returned (.tuple #[itmV ⟨pc, i, nx⟩, .bool false]) ∧ Below w.heap.size w w' := by
  subst hx
  go_enter Tryd.func46, Tryd.ntmps46
  go_wp2_with (first
    | (go_at_call 70; refine (HL.out _ (bl_alloc (Below.refl _ _) _)).mono ?_; rintro e w' ⟨rfl, rfl⟩)
    | (go_at_call 71; refine (HD.out _ (hF.below (bl_alloc (Below.refl _ _) _))).mono ?_; rintro e w1 ⟨rfl, hb1⟩; simp only [insV]; obtain ⟨hc1, hf1⟩ := bcell hb1; have hz1 : w.heap.size < w1.heap.size := (by have := hb1.size; simp at this; omega)))
  first
  | (go_region_with fail)
  | skip
  all_goals
    go_wp2
    obtain ⟨hcT, _⟩ := bcell hb1
    have c0 := hcT w.heap.size 0 (by simp)
    have c1 := hcT w.heap.size 1 (by simp)
    have c2 := hcT w.heap.size 2 (by simp)
    have c3 := hcT w.heap.size 3 (by simp)
    have c4 := hcT w.heap.size 4 (by simp)
    have c5 := hcT w.heap.size 5 (by simp)
    have c6 := hcT w.heap.size 6 (by simp)
    have c7 := hcT w.heap.size 7 (by simp)
    simp at c0 c1 c2 c3 c4 c5 c6 c7
    clear HL HD HC hc1 hf1 hcT
    refine bodyPost_ret (v := .tuple #[itmV ⟨pc, i, _⟩, .bool false]) ?_ rfl ⟨rfl, ?_⟩
    · simp [results, Tryd.results46, go_sem, itmV, c0, c1, c2, c3, c4, c5, c6, c7, hz1]
    · refine bl_drew (bl_alloc ?_ _)
      iterate 8 refine bl_set ?_ (Nat.le_refl _) _
      exact bl_then (bl_alloc (Below.refl _ _) _) hb1
set_option maxHeartbeats 8000000 in
theorem sat_ot (pm : Option Addr) (pc v er nx : Int) (i : Ins) (cv : Bool) (p0 : 0 ≤ pc) (p1 : pc ≤ 4294967295) (i0 : 0 ≤ i.imm) (i1 : i.imm ≤ 4294967295) (w : World) (hF : FormsAt w)
    (HL : Hid (∀ w', Below w.heap.size w w' → Calls Tryd.prog 70 #[.pointer pm, .int .u32 pc, .int .i64 4] w' fun e w'' => e = .returned (.tuple #[.int .u32 v, .int .i64 er]) ∧ w' = w''))
    (HD : Hid (∀ w', FormsAt w' → Calls Tryd.prog 71 #[.int .u32 v] w' fun e w'' => e = .returned (insV i) ∧ Below w'.heap.size w' w''))
    (HC : Hid (∀ w', FormsAt w' → Calls Tryd.prog 22 #[.agg #[.int .i64 i.op, .int .i64 i.rd, .int .i64 i.rs1, .int .i64 i.rs2, .int .u32 i.imm, .int .i64 i.csr]] w' fun e w'' => e = .returned (.bool cv) ∧ Below w'.heap.size w' w''))
    (h3 : (i.op == 3) = false) (h4 : (i.op == 4) = false) (hx : nx = (pc + 4) % 4294967296) (he : (er == 0) = true) :
    Calls Tryd.prog 46 #[.pointer pm, .int .u32 pc] w fun e w' => e = .returned (.tuple #[itmV ⟨pc, i, nx⟩, .bool cv]) ∧ Below w.heap.size w w' := by
  subst hx
  go_enter Tryd.func46, Tryd.ntmps46
  go_wp2_with (first
    | (go_at_call 70; refine (HL.out _ (bl_alloc (Below.refl _ _) _)).mono ?_; rintro e w' ⟨rfl, rfl⟩)
    | (go_at_call 71; refine (HD.out _ (hF.below (bl_alloc (Below.refl _ _) _))).mono ?_; rintro e w1 ⟨rfl, hb1⟩; simp only [insV]; obtain ⟨hc1, hf1⟩ := bcell hb1; have hz1 : w.heap.size < w1.heap.size := (by have := hb1.size; simp at this; omega)))
  first
  | (go_region_with (go_at_call 22; refine (HC.out _ (by exact hF.below (bl_drew (bl_alloc (bl_then (bl_alloc (Below.refl _ _) _) hb1) _)))).mono ?_; rintro e w2 ⟨rfl, hb2⟩; obtain ⟨hc2, hf2⟩ := bcell hb2; have hz2 : w1.heap.size < w2.heap.size := (by have := hb2.size; simp at this; omega); have hz3 : w.heap.size < w2.heap.size := (by omega)))
  | skip
  all_goals
    go_wp2
    have hT := bl_then hb1 (bl_then (bl_drew (bl_alloc (Below.refl w1.heap.size w1) _)) hb2)
    obtain ⟨hcT, _⟩ := bcell hT
    have c0 := hcT w.heap.size 0 (by simp)
    have c1 := hcT w.heap.size 1 (by simp)
    have c2 := hcT w.heap.size 2 (by simp)
    have c3 := hcT w.heap.size 3 (by simp)
    have c4 := hcT w.heap.size 4 (by simp)
    have c5 := hcT w.heap.size 5 (by simp)
    have c6 := hcT w.heap.size 6 (by simp)
    have c7 := hcT w.heap.size 7 (by simp)
    simp at c0 c1 c2 c3 c4 c5 c6 c7
    clear HL HD HC hc1 hf1 hc2 hf2 hcT
    refine bodyPost_ret (v := .tuple #[itmV ⟨pc, i, _⟩, .bool cv]) ?_ rfl ⟨rfl, ?_⟩
    · simp [results, Tryd.results46, go_sem, itmV, c0, c1, c2, c3, c4, c5, c6, c7]
    · iterate 8 refine bl_set ?_ (Nat.le_refl _) _
      exact bl_then (bl_alloc (Below.refl _ _) _) hT
set_option maxHeartbeats 8000000 in
theorem sat_jf (pm : Option Addr) (pc v er nx : Int) (i : Ins) (cv : Bool) (p0 : 0 ≤ pc) (p1 : pc ≤ 4294967295) (i0 : 0 ≤ i.imm) (i1 : i.imm ≤ 4294967295) (w : World) (hF : FormsAt w)
    (HL : Hid (∀ w', Below w.heap.size w w' → Calls Tryd.prog 70 #[.pointer pm, .int .u32 pc, .int .i64 4] w' fun e w'' => e = .returned (.tuple #[.int .u32 v, .int .i64 er]) ∧ w' = w''))
    (HD : Hid (∀ w', FormsAt w' → Calls Tryd.prog 71 #[.int .u32 v] w' fun e w'' => e = .returned (insV i) ∧ Below w'.heap.size w' w''))
    (HC : Hid (∀ w', FormsAt w' → Calls Tryd.prog 22 #[.agg #[.int .i64 i.op, .int .i64 i.rd, .int .i64 i.rs1, .int .i64 i.rs2, .int .u32 i.imm, .int .i64 i.csr]] w' fun e w'' => e = .returned (.bool cv) ∧ Below w'.heap.size w' w''))
    (h3 : (i.op == 3) = true) (hx : nx = (pc + i.imm) % 4294967296) (he : (er == 0) = false) :
    Calls Tryd.prog 46 #[.pointer pm, .int .u32 pc] w fun e w' => e = .returned (.tuple #[itmV ⟨pc, i, nx⟩, .bool false]) ∧ Below w.heap.size w w' := by
  subst hx
  go_enter Tryd.func46, Tryd.ntmps46
  go_wp2_with (first
    | (go_at_call 70; refine (HL.out _ (bl_alloc (Below.refl _ _) _)).mono ?_; rintro e w' ⟨rfl, rfl⟩)
    | (go_at_call 71; refine (HD.out _ (hF.below (bl_alloc (Below.refl _ _) _))).mono ?_; rintro e w1 ⟨rfl, hb1⟩; simp only [insV]; obtain ⟨hc1, hf1⟩ := bcell hb1; have hz1 : w.heap.size < w1.heap.size := (by have := hb1.size; simp at this; omega)))
  first
  | (go_region_with fail)
  | skip
  all_goals
    go_wp2
    obtain ⟨hcT, _⟩ := bcell hb1
    have c0 := hcT w.heap.size 0 (by simp)
    have c1 := hcT w.heap.size 1 (by simp)
    have c2 := hcT w.heap.size 2 (by simp)
    have c3 := hcT w.heap.size 3 (by simp)
    have c4 := hcT w.heap.size 4 (by simp)
    have c5 := hcT w.heap.size 5 (by simp)
    have c6 := hcT w.heap.size 6 (by simp)
    have c7 := hcT w.heap.size 7 (by simp)
    simp at c0 c1 c2 c3 c4 c5 c6 c7
    clear HL HD HC hc1 hf1 hcT
    refine bodyPost_ret (v := .tuple #[itmV ⟨pc, i, _⟩, .bool false]) ?_ rfl ⟨rfl, ?_⟩
    · simp [results, Tryd.results46, go_sem, itmV, c0, c1, c2, c3, c4, c5, c6, c7, hz1]
    · refine bl_drew (bl_alloc ?_ _)
      iterate 8 refine bl_set ?_ (Nat.le_refl _) _
      exact bl_then (bl_alloc (Below.refl _ _) _) hb1
set_option maxHeartbeats 8000000 in
theorem sat_jt (pm : Option Addr) (pc v er nx : Int) (i : Ins) (cv : Bool) (p0 : 0 ≤ pc) (p1 : pc ≤ 4294967295) (i0 : 0 ≤ i.imm) (i1 : i.imm ≤ 4294967295) (w : World) (hF : FormsAt w)
    (HL : Hid (∀ w', Below w.heap.size w w' → Calls Tryd.prog 70 #[.pointer pm, .int .u32 pc, .int .i64 4] w' fun e w'' => e = .returned (.tuple #[.int .u32 v, .int .i64 er]) ∧ w' = w''))
    (HD : Hid (∀ w', FormsAt w' → Calls Tryd.prog 71 #[.int .u32 v] w' fun e w'' => e = .returned (insV i) ∧ Below w'.heap.size w' w''))
    (HC : Hid (∀ w', FormsAt w' → Calls Tryd.prog 22 #[.agg #[.int .i64 i.op, .int .i64 i.rd, .int .i64 i.rs1, .int .i64 i.rs2, .int .u32 i.imm, .int .i64 i.csr]] w' fun e w'' => e = .returned (.bool cv) ∧ Below w'.heap.size w' w''))
    (h3 : (i.op == 3) = true) (hx : nx = (pc + i.imm) % 4294967296) (he : (er == 0) = true) :
    Calls Tryd.prog 46 #[.pointer pm, .int .u32 pc] w fun e w' => e = .returned (.tuple #[itmV ⟨pc, i, nx⟩, .bool cv]) ∧ Below w.heap.size w w' := by
  subst hx
  go_enter Tryd.func46, Tryd.ntmps46
  go_wp2_with (first
    | (go_at_call 70; refine (HL.out _ (bl_alloc (Below.refl _ _) _)).mono ?_; rintro e w' ⟨rfl, rfl⟩)
    | (go_at_call 71; refine (HD.out _ (hF.below (bl_alloc (Below.refl _ _) _))).mono ?_; rintro e w1 ⟨rfl, hb1⟩; simp only [insV]; obtain ⟨hc1, hf1⟩ := bcell hb1; have hz1 : w.heap.size < w1.heap.size := (by have := hb1.size; simp at this; omega)))
  first
  | (go_region_with (go_at_call 22; refine (HC.out _ (by exact hF.below (bl_drew (bl_alloc (bl_then (bl_alloc (Below.refl _ _) _) hb1) _)))).mono ?_; rintro e w2 ⟨rfl, hb2⟩; obtain ⟨hc2, hf2⟩ := bcell hb2; have hz2 : w1.heap.size < w2.heap.size := (by have := hb2.size; simp at this; omega); have hz3 : w.heap.size < w2.heap.size := (by omega)))
  | skip
  all_goals
    go_wp2
    have hT := bl_then hb1 (bl_then (bl_drew (bl_alloc (Below.refl w1.heap.size w1) _)) hb2)
    obtain ⟨hcT, _⟩ := bcell hT
    have c0 := hcT w.heap.size 0 (by simp)
    have c1 := hcT w.heap.size 1 (by simp)
    have c2 := hcT w.heap.size 2 (by simp)
    have c3 := hcT w.heap.size 3 (by simp)
    have c4 := hcT w.heap.size 4 (by simp)
    have c5 := hcT w.heap.size 5 (by simp)
    have c6 := hcT w.heap.size 6 (by simp)
    have c7 := hcT w.heap.size 7 (by simp)
    simp at c0 c1 c2 c3 c4 c5 c6 c7
    clear HL HD HC hc1 hf1 hc2 hf2 hcT
    refine bodyPost_ret (v := .tuple #[itmV ⟨pc, i, _⟩, .bool cv]) ?_ rfl ⟨rfl, ?_⟩
    · simp [results, Tryd.results46, go_sem, itmV, c0, c1, c2, c3, c4, c5, c6, c7]
    · iterate 8 refine bl_set ?_ (Nat.le_refl _) _
      exact bl_then (bl_alloc (Below.refl _ _) _) hT
set_option maxHeartbeats 8000000 in
theorem sat_rf (pm : Option Addr) (pc v er nx : Int) (i : Ins) (cv : Bool) (p0 : 0 ≤ pc) (p1 : pc ≤ 4294967295) (i0 : 0 ≤ i.imm) (i1 : i.imm ≤ 4294967295) (w : World) (hF : FormsAt w)
    (HL : Hid (∀ w', Below w.heap.size w w' → Calls Tryd.prog 70 #[.pointer pm, .int .u32 pc, .int .i64 4] w' fun e w'' => e = .returned (.tuple #[.int .u32 v, .int .i64 er]) ∧ w' = w''))
    (HD : Hid (∀ w', FormsAt w' → Calls Tryd.prog 71 #[.int .u32 v] w' fun e w'' => e = .returned (insV i) ∧ Below w'.heap.size w' w''))
    (HC : Hid (∀ w', FormsAt w' → Calls Tryd.prog 22 #[.agg #[.int .i64 i.op, .int .i64 i.rd, .int .i64 i.rs1, .int .i64 i.rs2, .int .u32 i.imm, .int .i64 i.csr]] w' fun e w'' => e = .returned (.bool cv) ∧ Below w'.heap.size w' w''))
    (h3 : (i.op == 3) = false) (h4 : (i.op == 4) = true) (hx : nx = 0) (he : (er == 0) = false) :
    Calls Tryd.prog 46 #[.pointer pm, .int .u32 pc] w fun e w' => e = .returned (.tuple #[itmV ⟨pc, i, nx⟩, .bool false]) ∧ Below w.heap.size w w' := by
  subst hx
  go_enter Tryd.func46, Tryd.ntmps46
  go_wp2_with (first
    | (go_at_call 70; refine (HL.out _ (bl_alloc (Below.refl _ _) _)).mono ?_; rintro e w' ⟨rfl, rfl⟩)
    | (go_at_call 71; refine (HD.out _ (hF.below (bl_alloc (Below.refl _ _) _))).mono ?_; rintro e w1 ⟨rfl, hb1⟩; simp only [insV]; obtain ⟨hc1, hf1⟩ := bcell hb1; have hz1 : w.heap.size < w1.heap.size := (by have := hb1.size; simp at this; omega)))
  first
  | (go_region_with fail)
  | skip
  all_goals
    go_wp2
    obtain ⟨hcT, _⟩ := bcell hb1
    have c0 := hcT w.heap.size 0 (by simp)
    have c1 := hcT w.heap.size 1 (by simp)
    have c2 := hcT w.heap.size 2 (by simp)
    have c3 := hcT w.heap.size 3 (by simp)
    have c4 := hcT w.heap.size 4 (by simp)
    have c5 := hcT w.heap.size 5 (by simp)
    have c6 := hcT w.heap.size 6 (by simp)
    have c7 := hcT w.heap.size 7 (by simp)
    simp at c0 c1 c2 c3 c4 c5 c6 c7
    clear HL HD HC hc1 hf1 hcT
    refine bodyPost_ret (v := .tuple #[itmV ⟨pc, i, _⟩, .bool false]) ?_ rfl ⟨rfl, ?_⟩
    · simp [results, Tryd.results46, go_sem, itmV, c0, c1, c2, c3, c4, c5, c6, c7, hz1]
    · refine bl_drew (bl_alloc ?_ _)
      iterate 8 refine bl_set ?_ (Nat.le_refl _) _
      exact bl_then (bl_alloc (Below.refl _ _) _) hb1
set_option maxHeartbeats 8000000 in
theorem sat_rt (pm : Option Addr) (pc v er nx : Int) (i : Ins) (cv : Bool) (p0 : 0 ≤ pc) (p1 : pc ≤ 4294967295) (i0 : 0 ≤ i.imm) (i1 : i.imm ≤ 4294967295) (w : World) (hF : FormsAt w)
    (HL : Hid (∀ w', Below w.heap.size w w' → Calls Tryd.prog 70 #[.pointer pm, .int .u32 pc, .int .i64 4] w' fun e w'' => e = .returned (.tuple #[.int .u32 v, .int .i64 er]) ∧ w' = w''))
    (HD : Hid (∀ w', FormsAt w' → Calls Tryd.prog 71 #[.int .u32 v] w' fun e w'' => e = .returned (insV i) ∧ Below w'.heap.size w' w''))
    (HC : Hid (∀ w', FormsAt w' → Calls Tryd.prog 22 #[.agg #[.int .i64 i.op, .int .i64 i.rd, .int .i64 i.rs1, .int .i64 i.rs2, .int .u32 i.imm, .int .i64 i.csr]] w' fun e w'' => e = .returned (.bool cv) ∧ Below w'.heap.size w' w''))
    (h3 : (i.op == 3) = false) (h4 : (i.op == 4) = true) (hx : nx = 0) (he : (er == 0) = true) :
    Calls Tryd.prog 46 #[.pointer pm, .int .u32 pc] w fun e w' => e = .returned (.tuple #[itmV ⟨pc, i, nx⟩, .bool cv]) ∧ Below w.heap.size w w' := by
  subst hx
  go_enter Tryd.func46, Tryd.ntmps46
  go_wp2_with (first
    | (go_at_call 70; refine (HL.out _ (bl_alloc (Below.refl _ _) _)).mono ?_; rintro e w' ⟨rfl, rfl⟩)
    | (go_at_call 71; refine (HD.out _ (hF.below (bl_alloc (Below.refl _ _) _))).mono ?_; rintro e w1 ⟨rfl, hb1⟩; simp only [insV]; obtain ⟨hc1, hf1⟩ := bcell hb1; have hz1 : w.heap.size < w1.heap.size := (by have := hb1.size; simp at this; omega)))
  first
  | (go_region_with (go_at_call 22; refine (HC.out _ (by exact hF.below (bl_drew (bl_alloc (bl_then (bl_alloc (Below.refl _ _) _) hb1) _)))).mono ?_; rintro e w2 ⟨rfl, hb2⟩; obtain ⟨hc2, hf2⟩ := bcell hb2; have hz2 : w1.heap.size < w2.heap.size := (by have := hb2.size; simp at this; omega); have hz3 : w.heap.size < w2.heap.size := (by omega)))
  | skip
  all_goals
    go_wp2
    have hT := bl_then hb1 (bl_then (bl_drew (bl_alloc (Below.refl w1.heap.size w1) _)) hb2)
    obtain ⟨hcT, _⟩ := bcell hT
    have c0 := hcT w.heap.size 0 (by simp)
    have c1 := hcT w.heap.size 1 (by simp)
    have c2 := hcT w.heap.size 2 (by simp)
    have c3 := hcT w.heap.size 3 (by simp)
    have c4 := hcT w.heap.size 4 (by simp)
    have c5 := hcT w.heap.size 5 (by simp)
    have c6 := hcT w.heap.size 6 (by simp)
    have c7 := hcT w.heap.size 7 (by simp)
    simp at c0 c1 c2 c3 c4 c5 c6 c7
    clear HL HD HC hc1 hf1 hc2 hf2 hcT
    refine bodyPost_ret (v := .tuple #[itmV ⟨pc, i, _⟩, .bool cv]) ?_ rfl ⟨rfl, ?_⟩
    · simp [results, Tryd.results46, go_sem, itmV, c0, c1, c2, c3, c4, c5, c6, c7]
    · iterate 8 refine bl_set ?_ (Nat.le_refl _) _
      exact bl_then (bl_alloc (Below.refl _ _) _) hT
set_option maxHeartbeats 3200000 in
theorem sat_calls (pm : Option Addr) (pc v er : Int) (p0 : 0 ≤ pc) (p1 : pc ≤ 4294967295) (v0 : 0 ≤ v) (v1 : v ≤ 4294967295) (w : World) (hF : FormsAt w)
    (hload : ∀ w', Below w.heap.size w w' → Calls Tryd.prog 70 #[.pointer pm, .int .u32 pc, .int .i64 4] w' fun e w'' => e = .returned (.tuple #[.int .u32 v, .int .i64 er]) ∧ w' = w'') :
    Calls Tryd.prog 46 #[.pointer pm, .int .u32 pc] w (AtPost w pc v er) := by
  have hd := fun w' h => decode_calls v v0 v1 w' h
  have hi := dec_imm v v0 v1
  have hpost : ∀ e w', e = .returned (.tuple #[itmV ⟨pc, decS v, nextS pc (decS v)⟩, .bool (er == 0 && canS (decS v))]) ∧ Below w.heap.size w w' → AtPost w pc v er e w' := fun e w' h => h
  refine Calls.mono ?_ hpost
  clear hpost
  generalize decS v = i at *
  obtain ⟨i0, i1⟩ := hi
  have hcan := fun w' h => can_calls i.op i.rd i.rs1 i.rs2 i.imm i.csr i0 i1 w' h
  generalize hcv : canS ⟨i.op, i.rd, i.rs1, i.rs2, i.imm, i.csr⟩ = cv at *
  clear hcv
  have HD := Lib.hid hd
  have HL := Lib.hid hload
  have HC := Lib.hid hcan
  clear hd hload hcan
  cases h3 : i.op == 3
  · cases h4 : i.op == 4
    · cases he : er == 0
      · rw [Bool.false_and]; exact sat_of pm pc v er _ i cv p0 p1 i0 i1 w hF HL HD HC h3 h4 (next_o pc i h3 h4) he
      · rw [Bool.true_and]; exact sat_ot pm pc v er _ i cv p0 p1 i0 i1 w hF HL HD HC h3 h4 (next_o pc i h3 h4) he
    · cases he : er == 0
      · rw [Bool.false_and]; exact sat_rf pm pc v er _ i cv p0 p1 i0 i1 w hF HL HD HC h3 h4 (next_4 pc i h3 h4) he
      · rw [Bool.true_and]; exact sat_rt pm pc v er _ i cv p0 p1 i0 i1 w hF HL HD HC h3 h4 (next_4 pc i h3 h4) he
  · cases he : er == 0
    · rw [Bool.false_and]; exact sat_jf pm pc v er _ i cv p0 p1 i0 i1 w hF HL HD HC h3 (next_3 pc i h3) he
    · rw [Bool.true_and]; exact sat_jt pm pc v er _ i cv p0 p1 i0 i1 w hF HL HD HC h3 (next_3 pc i h3) he
end Go.Proofs.YtnbbhgpflanhaaaDoor
