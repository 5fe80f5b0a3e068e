import Derived.Test.YtnbbhgpflanhaaaDoorWalkA
import Derived.Lib.Hide
namespace Go.Proofs.YtnbbhgpflanhaaaDoor
open Go.RowKit
set_option maxRecDepth 100000
set_option linter.unusedVariables false

/-- the table of forms, as it lies in memory -/
def FormsAt (w : World) : Prop := ∀ i : Nat, i < 58 → w.cell? ⟨0, i, none⟩ = some (.int .i64 (formS i))
theorem FormsAt.below {w w' : World} (h : FormsAt w) (hb : Below w.heap.size w w') : FormsAt w' := fun i hi =>
  (hb.cell (World.block_lt_of_cell? w _ (h i hi))).trans (h i hi)

set_option maxHeartbeats 800000 in
theorem form_calls (op : Int) (w : World) (hF : FormsAt w) :
    Calls Tryd.prog 66 #[.int .i64 op] w fun e w' => e = .returned (.tuple #[.int .i64 (if 0 ≤ op ∧ op < 58 then formS op else 0), .int .i64 (if 0 ≤ op ∧ op < 58 then 0 else 9)]) ∧ w = w' := by
  by_cases h : 0 ≤ op ∧ op < 58
  · rw [if_pos h, if_pos h]
    obtain ⟨h0, h1⟩ := h
    obtain ⟨n, rfl⟩ := Int.eq_ofNat_of_zero_le h0
    have hc := hF n (by omega)
    clear hF
    go_enter Tryd.func66, Tryd.ntmps66
    go_wp2
    go_ret2
    exact ⟨rfl, rfl⟩
  · rw [if_neg h, if_neg h]
    clear hF
    by_cases h0 : 0 ≤ op
    · have h1 : ¬ op < 58 := by omega
      clear h
      go_enter Tryd.func66, Tryd.ntmps66
      go_wp2
      go_ret2
      exact ⟨rfl, rfl⟩
    · clear h
      go_enter Tryd.func66, Tryd.ntmps66
      go_wp2
      go_ret2
      exact ⟨rfl, rfl⟩
theorem formS_range (op : Int) : formS op = 0 ∨ formS op = 1 ∨ formS op = 2 ∨ formS op = 3 ∨ formS op = 4 ∨ formS op = 5 ∨ formS op = 6 ∨ formS op = 7 ∨ formS op = 8 ∨ formS op = 9 := by
  unfold formS
  repeat' split
  all_goals simp
def topS (x v : Int) : Int := if 2147483648 ≤ x then v else 0
theorem imm_top20 (x : Int) (h0 : 0 ≤ x) (h1 : x ≤ 4294967295) : wrap32 (wrap32 x / 2147483648 * 1048576) % 4294967296 = topS x 4293918720 := by
  unfold wrap32 topS; split <;> omega
theorem imm_top12 (x : Int) (h0 : 0 ≤ x) (h1 : x ≤ 4294967295) : wrap32 (wrap32 x / 2147483648 * 4096) % 4294967296 = topS x 4294963200 := by
  unfold wrap32 topS; split <;> omega
theorem imm_top11 (x : Int) (h0 : 0 ≤ x) (h1 : x ≤ 4294967295) : wrap32 (wrap32 x / 2147483648 * 2048) % 4294967296 = topS x 4294965248 := by
  unfold wrap32 topS; split <;> omega
theorem top_calls (x n v : Int) (h0 : 0 ≤ x) (h1 : x ≤ 4294967295) (hn : (n = 20 ∧ v = 4293918720) ∨ (n = 12 ∧ v = 4294963200) ∨ (n = 11 ∧ v = 4294965248)) (w : World) :
    Calls Tryd.prog 125 #[.int .u32 x, .int .u64 n] w fun e w' => e = .returned (.int .u32 (topS x v)) ∧ w = w' := by
  rcases hn with ⟨rfl, rfl⟩ | ⟨rfl, rfl⟩ | ⟨rfl, rfl⟩
  · go_enter Tryd.func125, Tryd.ntmps125
    go_wp2
    go_ret
    exact ⟨ret_u32 (imm_top20 x h0 h1), rfl⟩
  · go_enter Tryd.func125, Tryd.ntmps125
    go_wp2
    go_ret
    exact ⟨ret_u32 (imm_top12 x h0 h1), rfl⟩
  · go_enter Tryd.func125, Tryd.ntmps125
    go_wp2
    go_ret
    exact ⟨ret_u32 (imm_top11 x h0 h1), rfl⟩
theorem number_J (x : Int) (h0 : 0 ≤ x) (h1 : x ≤ 4294967295) : bits .or .u32 (bits .or .u32 (bits .or .u32 (topS x 4293918720) (x / 4096 % 256 * 4096)) (x / 1048576 % 2 * 2048)) (x / 2097152 % 1024 * 2) = immS x 2 := by
  simp only [immS, ext, topS]
  by_cases h : 2147483648 ≤ x
  · rw [if_pos h, or_join 20 4293918720 (x / 4096 % 256 * 4096) (by omega) (by omega) (by omega) (by omega) (by omega) (by omega),
      or_join 12 (4293918720 + x / 4096 % 256 * 4096) (x / 1048576 % 2 * 2048) (by omega) (by omega) (by omega) (by omega) (by omega) (by omega),
      or_join 11 (4293918720 + x / 4096 % 256 * 4096 + x / 1048576 % 2 * 2048) (x / 2097152 % 1024 * 2) (by omega) (by omega) (by omega) (by omega) (by omega) (by omega)]
    simp
    omega
  · rw [if_neg h, or_join 20 0 (x / 4096 % 256 * 4096) (by omega) (by omega) (by omega) (by omega) (by omega) (by omega),
      or_join 12 (0 + x / 4096 % 256 * 4096) (x / 1048576 % 2 * 2048) (by omega) (by omega) (by omega) (by omega) (by omega) (by omega),
      or_join 11 (0 + x / 4096 % 256 * 4096 + x / 1048576 % 2 * 2048) (x / 2097152 % 1024 * 2) (by omega) (by omega) (by omega) (by omega) (by omega) (by omega)]
    simp
    omega
theorem number_B (x : Int) (h0 : 0 ≤ x) (h1 : x ≤ 4294967295) : bits .or .u32 (bits .or .u32 (bits .or .u32 (topS x 4294963200) (x / 128 % 2 * 2048)) (x / 33554432 % 64 * 32)) (x / 256 % 16 * 2) = immS x 4 := by
  simp only [immS, ext, topS]
  by_cases h : 2147483648 ≤ x
  · rw [if_pos h, or_join 12 4294963200 (x / 128 % 2 * 2048) (by omega) (by omega) (by omega) (by omega) (by omega) (by omega),
      or_join 11 (4294963200 + x / 128 % 2 * 2048) (x / 33554432 % 64 * 32) (by omega) (by omega) (by omega) (by omega) (by omega) (by omega),
      or_join 5 (4294963200 + x / 128 % 2 * 2048 + x / 33554432 % 64 * 32) (x / 256 % 16 * 2) (by omega) (by omega) (by omega) (by omega) (by omega) (by omega)]
    simp
    omega
  · rw [if_neg h, or_join 12 0 (x / 128 % 2 * 2048) (by omega) (by omega) (by omega) (by omega) (by omega) (by omega),
      or_join 11 (0 + x / 128 % 2 * 2048) (x / 33554432 % 64 * 32) (by omega) (by omega) (by omega) (by omega) (by omega) (by omega),
      or_join 5 (0 + x / 128 % 2 * 2048 + x / 33554432 % 64 * 32) (x / 256 % 16 * 2) (by omega) (by omega) (by omega) (by omega) (by omega) (by omega)]
    simp
    omega
theorem number_S (x : Int) (h0 : 0 ≤ x) (h1 : x ≤ 4294967295) : bits .or .u32 (bits .or .u32 (topS x 4294965248) (x / 33554432 % 64 * 32)) (x / 128 % 32) = immS x 5 := by
  simp only [immS, ext, topS]
  by_cases h : 2147483648 ≤ x
  · rw [if_pos h, or_join 11 4294965248 (x / 33554432 % 64 * 32) (by omega) (by omega) (by omega) (by omega) (by omega) (by omega),
      or_join 5 (4294965248 + x / 33554432 % 64 * 32) (x / 128 % 32) (by omega) (by omega) (by omega) (by omega) (by omega) (by omega)]
    simp
    omega
  · rw [if_neg h, or_join 11 0 (x / 33554432 % 64 * 32) (by omega) (by omega) (by omega) (by omega) (by omega) (by omega),
      or_join 5 (0 + x / 33554432 % 64 * 32) (x / 128 % 32) (by omega) (by omega) (by omega) (by omega) (by omega) (by omega)]
    simp
    omega
theorem number_I (x : Int) (h0 : 0 ≤ x) (h1 : x ≤ 4294967295) : wrap32 x / 1048576 % 4294967296 = immS x 3 := by
  simp [immS, ext, wrap32]
  omega
set_option maxHeartbeats 1600000 in
theorem number_calls (x f : Int) (h0 : 0 ≤ x) (h1 : x ≤ 4294967295)  (w : World) :
    Calls Tryd.prog 122 #[.int .u32 x, .int .i64 f] w fun e w' => e = .returned (.int .u32 (immS x f)) ∧ w = w' := by
  go_enter Tryd.func122, Tryd.ntmps122
  go_wp2_with (first
    | (go_at_call 116; refine (field_calls _ _ _ h0 h1 (by omega) (by omega) (by omega) _).mono ?_; rintro e w' ⟨rfl, rfl⟩)
    | (go_at_call 125; refine (top_calls _ _ _ h0 h1 (by first | exact .inl ⟨rfl, rfl⟩ | exact .inr (.inl ⟨rfl, rfl⟩) | exact .inr (.inr ⟨rfl, rfl⟩)) _).mono ?_; rintro e w' ⟨rfl, rfl⟩))
  all_goals go_ret
  all_goals refine ⟨ret_u32 ?_, rfl⟩
  all_goals first
    | (rw [show f = 1 by simpa using ‹(f == 1) = true›, andNot_fff x h0 h1]; simp [immS])
    | (rw [show f = 2 by simpa using ‹(f == 2) = true›, number_J x h0 h1])
    | (rw [show f = 3 by simpa using ‹(f == 3) = true›, number_I x h0 h1])
    | (rw [show f = 4 by simpa using ‹(f == 4) = true›, number_B x h0 h1])
    | (rw [show f = 5 by simpa using ‹(f == 5) = true›, number_S x h0 h1])
    | (rw [show f = 7 by simpa using ‹(f == 7) = true›]; simp [immS])
    | (rw [show f = 9 by simpa using ‹(f == 9) = true›]; simp [immS])
    | (unfold immS; simp_all)

def insV (i : Ins) : Value := .agg #[.int .i64 i.op, .int .i64 i.rd, .int .i64 i.rs1, .int .i64 i.rs2, .int .u32 i.imm, .int .i64 i.csr]
theorem bl_alloc {w W : World} (h : Below w.heap.size w W) (o : Obj) : Below w.heap.size w (W.alloc o) := h.alloc h.size o
theorem bl_drew {w W : World} (h : Below w.heap.size w W) : Below w.heap.size w W.drew := h.drew
theorem bl_drewN {w W : World} (h : Below w.heap.size w W) (n : Nat) : Below w.heap.size w (W.drewN n) := below_drewN h n
theorem bl_set {w W : World} (h : Below w.heap.size w W) {p : Addr} (hp : w.heap.size ≤ p.block) (u : Value) : Below w.heap.size w (W.setCell p u) := h.setCell hp u
theorem bcell {W w1 : World} (hb : Below W.heap.size W w1) : (∀ b o, b < W.heap.size → w1.cell? ⟨b, o, none⟩ = W.cell? ⟨b, o, none⟩) ∧ (∀ b o, b < W.heap.size → w1.frozen? ⟨b, o, none⟩ = W.frozen? ⟨b, o, none⟩) :=
  ⟨fun b o h => hb.cell (p := ⟨b, o, none⟩) h, fun b o h => hb.frozen (p := ⟨b, o, none⟩) h⟩
theorem bl_then {w W W' : World} (h : Below w.heap.size w W) (k : Below W.heap.size W W') : Below w.heap.size w W' := h.trans (k.mono h.size)
set_option maxHeartbeats 1600000 in
theorem laid_calls (x op : Int) (h0 : 0 ≤ x) (h1 : x ≤ 4294967295) (k0 : 0 ≤ op) (k1 : op < 58) (w : World) (hF : FormsAt w) :
    Calls Tryd.prog 104 #[.int .u32 x, .int .i64 op] w fun e w' => e = .returned (insV (laidS x op)) ∧ Below w.heap.size w w' := by
  have hf := fun w' (h : FormsAt w') => form_calls op w' h
  simp only [if_pos (show 0 ≤ op ∧ op < 58 from ⟨k0, k1⟩)] at hf
  have hfin : insV (laidS x op) = .agg #[.int .i64 op, .int .i64 (if hasRd (formS op) then x / 128 % 32 else 0), .int .i64 (if 3 ≤ formS op ∧ formS op ≤ 8 then x / 32768 % 32 else 0),
    .int .i64 (if 4 ≤ formS op ∧ formS op ≤ 6 then x / 1048576 % 32 else 0), .int .u32 (immS x (formS op)), .int .i64 (if 8 ≤ formS op then x / 1048576 else 0)] := rfl
  rw [hfin]
  clear hfin
  rcases formS_range op with h | h | h | h | h | h | h | h | h | h
  all_goals
    rw [h]
    simp only [h] at hf
    have HF := Lib.hid hf
    clear hf h
    simp [hasRd]
    go_enter Tryd.func104, Tryd.ntmps104
    go_wp2_with (first
      | (go_at_call 66; refine (HF.out _ (hF.below (by repeat (first | exact Below.refl _ _ | apply bl_alloc)))).mono ?_; rintro e w' ⟨rfl, rfl⟩)
      | (go_at_call 116; refine (field_calls _ _ _ h0 h1 (by omega) (by omega) (by omega) _).mono ?_; rintro e w' ⟨rfl, rfl⟩)
      | (go_at_call 122; refine (number_calls _ _ h0 h1 _).mono ?_; rintro e w' ⟨rfl, rfl⟩))
    refine bodyPost_ret ?_ rfl ⟨rfl, bl_alloc (bl_alloc (Below.refl _ _) _) _⟩
    simp [results, Tryd.results104, go_sem]

end Go.Proofs.YtnbbhgpflanhaaaDoor
