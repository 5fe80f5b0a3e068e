/- Walks: numbers of bytes, and what a memory has. -/
import Derived.Test.YtnbbhgpflanhaaaDoorWalkB
namespace Go.Proofs.YtnbbhgpflanhaaaDoor
open Go.RowKit
set_option maxRecDepth 100000
set_option linter.unusedVariables false

/-- the number of bytes, the lowest first -/
def numS : List Int → Int
  | [] => 0
  | b :: t => b + 256 * numS t
def Bytes (xs : List Int) : Prop := ∀ x ∈ xs, 0 ≤ x ∧ x ≤ 255
theorem numS_snoc (l : List Int) (b : Int) : numS (l ++ [b]) = numS l + b * 256 ^ l.length := by
  induction l with
  | nil => simp [numS]
  | cons a t ih =>
    simp only [List.cons_append, numS, ih, List.length_cons, Int.pow_succ]
    generalize (256 : Int) ^ t.length = p
    rw [Int.mul_add, Int.mul_comm p 256, ← Int.mul_assoc b, Int.mul_comm b 256, Int.mul_assoc 256 b, Int.add_assoc]
theorem numS_range (l : List Int) (h : Bytes l) : 0 ≤ numS l ∧ numS l < 256 ^ l.length := by
  induction l with
  | nil => simp [numS]
  | cons a t ih =>
    have ha := h a (by simp)
    have ht := ih (fun x hx => h x (by simp [hx]))
    simp only [numS, List.length_cons, Int.pow_succ]
    generalize (256 : Int) ^ t.length = p at *
    omega
theorem or_comm32 (x y : Int) : bits .or .u32 x y = bits .or .u32 y x := by
  simp only [bits, BitVec.or_comm]
theorem or_join2 (i : Nat) (x y : Int) (h0 : 0 ≤ x) (hx : x % 2 ^ i = 0) (h1 : x < 4294967296) (k0 : 0 ≤ y) (k1 : y < 2 ^ i) (k2 : y < 4294967296) :
    bits .or .u32 y x = y + x := by rw [or_comm32, or_join i x y h0 hx h1 k0 k1 k2, Int.add_comm]
/-- one byte more -/
theorem num_step (l : List Int) (b : Int) (h : Bytes (l ++ [b])) (hl : l.length < 4) :
    bits .or .u32 (numS l) (b * 2 ^ (8 * l.length) % 4294967296) = numS (l ++ [b]) := by
  have hb := h b (by simp)
  have hr := numS_range l (fun x hx => h x (by simp [hx]))
  rw [numS_snoc]
  obtain ⟨b0, b1⟩ := hb
  obtain ⟨r0, r1⟩ := hr
  generalize hk : l.length = k at *
  obtain rfl | rfl | rfl | rfl : k = 0 ∨ k = 1 ∨ k = 2 ∨ k = 3 := by omega
  · have e : b * 2 ^ (8 * 0) % 4294967296 = b := by omega
    rw [e, or_join2 0 b (numS l) (by omega) (by omega) (by omega) (by omega) (by omega) (by omega)]
    omega
  · have e : b * 2 ^ (8 * 1) % 4294967296 = b * 256 := by omega
    rw [e, or_join2 8 (b * 256) (numS l) (by omega) (by omega) (by omega) (by omega) (by omega) (by omega)]
    omega
  · have e : b * 2 ^ (8 * 2) % 4294967296 = b * 65536 := by omega
    rw [e, or_join2 16 (b * 65536) (numS l) (by omega) (by omega) (by omega) (by omega) (by omega) (by omega)]
    omega
  · have e : b * 2 ^ (8 * 3) % 4294967296 = b * 16777216 := by omega
    rw [e, or_join2 24 (b * 16777216) (numS l) (by omega) (by omega) (by omega) (by omega) (by omega) (by omega)]
    omega
theorem width_true (n : Int) (h : n = 1 ∨ n = 2 ∨ n = 4) (w : World) : Calls Tryd.prog 115 #[.int .i64 n] w fun e w' => e = .returned (.bool true) ∧ w = w' := by
  rcases h with rfl | rfl | rfl
  all_goals
    go_enter Tryd.func115, Tryd.ntmps115
    go_wp2
    go_ret
    exact ⟨rfl, rfl⟩
set_option maxHeartbeats 800000 in
theorem wnumber_calls (g off c : Nat) (xs : List Int) (w : World) (hx : Bytes xs) (hn : xs.length = 1 ∨ xs.length = 2 ∨ xs.length = 4)
    (hc : ∀ i : Nat, i < xs.length → w.cell? ⟨g, off + i, none⟩ = some (.int .u8 (xs.getD i 0))) :
    Calls Tryd.prog 102 #[.slice (some ⟨g, off, none⟩) xs.length c] w fun e w' => e = .returned (.tuple #[.int .u32 (numS xs), .int .i64 0]) ∧ w = w' := by
  have h1 : 1 ≤ xs.length := by omega
  have h4 : xs.length ≤ 4 := by omega
  have HC := Lib.hid hc
  have hw := fun w' => width_true xs.length (by omega) w'
  have HW := Lib.hid hw
  clear hc hw hn
  go_enter Tryd.func102, Tryd.ntmps102
  go_wp2_with (go_at_call 115; refine (HW.out _).mono ?_; rintro e w' ⟨rfl, rfl⟩)
  go_loop [4, 12] (fun n i => ∃ k : Nat, k ≤ xs.length ∧ i = .int .i64 k ∧ n = .int .u32 (numS (xs.take k))) (fun _ i => xs.length - (intOf i).toNat)
  case atStart => exact ⟨0, Nat.zero_le _, rfl, rfl⟩
  case round =>
    obtain ⟨k, hk, rfl, rfl⟩ := hrel
    by_cases hlt : k < xs.length
    · have hcell := HC.out k hlt
      have hb := hx (xs.getD k 0) (by rw [List.getD_eq_getElem?_getD, List.getElem?_eq_getElem hlt]; simp)
      obtain ⟨hb0, hb1⟩ := hb
      have hr := numS_range (xs.take k) (fun x hxx => hx x (List.mem_of_mem_take hxx))
      have hts : xs.take (k + 1) = xs.take k ++ [xs.getD k 0] := by
        rw [List.take_succ_eq_append_getElem hlt, List.getD_eq_getElem?_getD, List.getElem?_eq_getElem hlt]; simp
      have hst := num_step (xs.take k) (xs.getD k 0) (by rw [← hts]; exact fun x hxx => hx x (List.mem_of_mem_take hxx)) (by rw [List.length_take]; omega)
      rw [List.length_take, Nat.min_eq_left hk, ← hts] at hst
      have HST := Lib.hid hst
      clear hst hts hr
      generalize xs.getD k 0 = b at *
      go_wp2
      go_round
      case rel => exact ⟨k + 1, by omega, by go_num, by rw [← HST.out]⟩
      case measure => simp [intOf]; omega
    · obtain rfl : k = xs.length := by omega
      go_wp2
      go_ret2
      exact ⟨rfl, rfl⟩

/-- a memory's bytes, as they lie -/
structure RamAt (w : World) (g gb : Nat) (bs : List Int) : Prop where
  hdr : w.cell? ⟨g, 0, none⟩ = some (.slice (some ⟨gb, 0, none⟩) bs.length bs.length)
  cells : ∀ i : Nat, i < bs.length → w.cell? ⟨gb, i, none⟩ = some (.int .u8 (bs.getD i 0))
  bytes : Bytes bs
  most : bs.length ≤ 65536
theorem RamAt.below {w w' : World} {g gb : Nat} {bs : List Int} (h : RamAt w g gb bs) (hb : Below w.heap.size w w') : RamAt w' g gb bs :=
  ⟨(hb.cell (World.block_lt_of_cell? w _ h.hdr)).trans h.hdr, fun i hi => (hb.cell (World.block_lt_of_cell? w _ (h.cells i hi))).trans (h.cells i hi), h.bytes, h.most⟩
def hasS (len : Nat) (pc n : Int) : Bool := decide (1 ≤ n ∧ n ≤ len ∧ 2147483648 ≤ pc ∧ pc - 2147483648 ≤ len - n)
set_option maxHeartbeats 800000 in
theorem has_calls (g gb : Nat) (bs : List Int) (pc n : Int) (h0 : 0 ≤ pc) (h1 : pc ≤ 4294967295) (hn : 1 ≤ n ∧ n ≤ 1048576) (w : World) (hR : RamAt w g gb bs) :
    Calls Tryd.prog 44 #[.pointer (some ⟨g, 0, none⟩), .int .u32 pc, .int .i64 n] w fun e w' => e = .returned (.bool (hasS bs.length pc n)) ∧ w = w' := by
  have hc := hR.hdr
  have hm := hR.most
  obtain ⟨n0, n1⟩ := hn
  clear hR
  generalize bs.length = len at *
  by_cases c1 : n ≤ len
  · by_cases c2 : 2147483648 ≤ pc
    · go_enter Tryd.func44, Tryd.ntmps44
      go_wp2
      go_ret
      refine ⟨ret_bool ?_, rfl⟩
      unfold hasS
      rw [decide_eq_decide]
      omega
    · go_enter Tryd.func44, Tryd.ntmps44
      go_wp2
      go_ret
      refine ⟨ret_bool ?_, rfl⟩
      simp [hasS]
      omega
  · go_enter Tryd.func44, Tryd.ntmps44
    go_wp2
    go_ret
    refine ⟨ret_bool ?_, rfl⟩
    simp [hasS]
    omega
theorem has_nil (pc n : Int) (w : World) :
    Calls Tryd.prog 44 #[.pointer none, .int .u32 pc, .int .i64 n] w fun e w' => e = .returned (.bool false) ∧ w = w' := by
  go_enter Tryd.func44, Tryd.ntmps44
  go_wp2
  go_ret
  exact ⟨rfl, rfl⟩
def askS (len : Nat) (pc n : Int) : Int := if pc % n ≠ 0 then 5 else if hasS len pc n then 0 else 6
set_option maxHeartbeats 800000 in
theorem asked_calls (g gb : Nat) (bs : List Int) (pc n : Int) (h0 : 0 ≤ pc) (h1 : pc ≤ 4294967295) (hn : n = 1 ∨ n = 2 ∨ n = 4) (w : World) (hR : RamAt w g gb bs) :
    Calls Tryd.prog 101 #[.pointer (some ⟨g, 0, none⟩), .int .u32 pc, .int .i64 n] w fun e w' => e = .returned (.int .i64 (askS bs.length pc n)) ∧ w = w' := by
  unfold askS
  have hh := fun w' (h : RamAt w' g gb bs) => has_calls g gb bs pc n h0 h1 (by omega) w' h
  generalize hasS bs.length pc n = t at *
  have HH := Lib.hid hh
  clear hh
  by_cases c : pc % n = 0
  · rw [if_neg (by simpa using c)]
    rcases hn with rfl | rfl | rfl
    all_goals
      cases t
      all_goals
        go_enter Tryd.func101, Tryd.ntmps101
        go_wp2_with (go_at_call 44; refine (HH.out _ hR).mono ?_; rintro e w' ⟨rfl, rfl⟩)
        go_ret
        exact ⟨rfl, rfl⟩
  · rw [if_pos (by simpa using c)]
    rcases hn with rfl | rfl | rfl
    · exfalso; omega
    all_goals
      go_enter Tryd.func101, Tryd.ntmps101
      go_wp2_with (go_at_call 44; refine (HH.out _ hR).mono ?_; rintro e w' ⟨rfl, rfl⟩)
      go_ret
      exact ⟨rfl, rfl⟩
theorem add_at (gb k : Nat) : (⟨gb, 0, none⟩ : Addr).add k = ⟨gb, k, none⟩ := by
  unfold Addr.add; split <;> simp_all
set_option maxHeartbeats 800000 in
theorem at_calls (g gb : Nat) (bs : List Int) (k n : Nat) (hk : k + n ≤ bs.length) (hn : 1 ≤ n) (w : World) (hR : RamAt w g gb bs) :
    Calls Tryd.prog 45 #[.pointer (some ⟨g, 0, none⟩), .int .u32 (2147483648 + k), .int .i64 n] w fun e w' => e = .returned (.slice (some ⟨gb, k, none⟩) n n) ∧ w = w' := by
  have hc := hR.hdr
  have hm := hR.most
  clear hR
  generalize bs.length = len at *
  have ha := add_at gb k
  have hnk : ¬ len = k := by omega
  go_enter Tryd.func45, Tryd.ntmps45
  go_wp2
  simp only [Nat.add_sub_cancel_left]
  go_ret
  exact ⟨rfl, rfl⟩
theorem load_nil (pc n : Int) (w : World) :
    Calls Tryd.prog 70 #[.pointer none, .int .u32 pc, .int .i64 n] w fun e w' => e = .returned (.tuple #[.int .u32 0, .int .i64 2]) ∧ w = w' := by
  go_enter Tryd.func70, Tryd.ntmps70
  go_wp2
  go_ret2
  exact ⟨rfl, rfl⟩
/-- the bytes from k on -/
def cutS (bs : List Int) (k n : Nat) : List Int := (bs.drop k).take n
theorem cutS_length (bs : List Int) (k n : Nat) (h : k + n ≤ bs.length) : (cutS bs k n).length = n := by simp [cutS]; omega
theorem cutS_getD (bs : List Int) (k n i : Nat) (h : i < n) : (cutS bs k n).getD i 0 = bs.getD (k + i) 0 := by
  simp [cutS, List.getD_eq_getElem?_getD, h, List.getElem?_drop]
theorem cutS_bytes (bs : List Int) (k n : Nat) (h : Bytes bs) : Bytes (cutS bs k n) := fun x hx => h x (List.mem_of_mem_drop (List.mem_of_mem_take hx))
set_option maxHeartbeats 800000 in
theorem load_bad (g gb : Nat) (bs : List Int) (pc n : Int) (h0 : 0 ≤ pc) (h1 : pc ≤ 4294967295) (hn : n = 1 ∨ n = 2 ∨ n = 4) (w : World) (hR : RamAt w g gb bs) (hk : (askS bs.length pc n == 0) = false) :
    Calls Tryd.prog 70 #[.pointer (some ⟨g, 0, none⟩), .int .u32 pc, .int .i64 n] w fun e w' => e = .returned (.tuple #[.int .u32 0, .int .i64 (askS bs.length pc n)]) ∧ w = w' := by
  have hh := fun w' (h : RamAt w' g gb bs) => asked_calls g gb bs pc n h0 h1 hn w' h
  generalize askS bs.length pc n = t at *
  have HH := Lib.hid hh
  clear hh
  go_enter Tryd.func70, Tryd.ntmps70
  go_wp2_with (go_at_call 101; refine (HH.out _ hR).mono ?_; rintro e w' ⟨rfl, rfl⟩)
  go_ret2
  exact ⟨rfl, rfl⟩
set_option maxHeartbeats 800000 in
theorem load_ok (g gb : Nat) (bs : List Int) (k n : Nat) (h1 : (2147483648 : Int) + k ≤ 4294967295) (hn : n = 1 ∨ n = 2 ∨ n = 4) (hkn : k + n ≤ bs.length) (w : World) (hR : RamAt w g gb bs) (hk : askS bs.length (2147483648 + k) n = 0) :
    Calls Tryd.prog 70 #[.pointer (some ⟨g, 0, none⟩), .int .u32 (2147483648 + k), .int .i64 n] w fun e w' => e = .returned (.tuple #[.int .u32 (numS (cutS bs k n)), .int .i64 0]) ∧ w = w' := by
  have hh := fun w' (h : RamAt w' g gb bs) => asked_calls g gb bs (2147483648 + k) n (by omega) h1 (by omega) w' h
  rw [hk] at hh
  have HH := Lib.hid hh
  have hl := cutS_length bs k n hkn
  have hnum := fun w' (h : RamAt w' g gb bs) => wnumber_calls gb k n (cutS bs k n) w' (cutS_bytes bs k n h.bytes) (by omega) (fun i hi => by
    rw [cutS_getD bs k n i (by omega)]; exact h.cells _ (by omega))
  rw [hl] at hnum
  generalize numS (cutS bs k n) = v at *
  have HN := Lib.hid hnum
  have hat := fun w' (h : RamAt w' g gb bs) => at_calls g gb bs k n hkn (by omega) w' h
  have HA := Lib.hid hat
  clear hh hl hnum hat hk hkn
  go_enter Tryd.func70, Tryd.ntmps70
  go_wp2_with (first
    | (go_at_call 101; refine (HH.out _ hR).mono ?_; rintro e w' ⟨rfl, rfl⟩)
    | (go_at_call 45; refine (HA.out _ hR).mono ?_; rintro e w' ⟨rfl, rfl⟩)
    | (go_at_call 102; refine (HN.out _ hR).mono ?_; rintro e w' ⟨rfl, rfl⟩))
  go_ret2
  exact ⟨rfl, rfl⟩
end Go.Proofs.YtnbbhgpflanhaaaDoor
