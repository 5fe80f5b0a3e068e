/- Walks: a memory made, and filled. -/
import Derived.Test.YtnbbhgpflanhaaaDoorRamA
import Derived.Laws.CopyOwn
import Derived.Deep.OwnRows
namespace Go.Proofs.YtnbbhgpflanhaaaDoor
open Go.RowKit
set_option maxRecDepth 100000
set_option linter.unusedVariables false

theorem info_u8 : (Tryd.prog.info? 5).map (fun i => (i.zero, i.size, i.bytes)) = some (some (.int .u8 0), 1, 1) := by kernel_rfl
theorem info_bool : (Tryd.prog.info? 4).map (fun i => (i.zero, i.size, i.bytes)) = some (some (.bool false), 1, 1) := by kernel_rfl
theorem info_u64 : (Tryd.prog.info? 114).map (fun i => (i.zero, i.size, i.bytes)) = some (some (.int .u64 0), 1, 8) := by kernel_rfl
/-- a memory of noughts, new -/
structure NewRam (w w' : World) (n : Nat) (g gb gw gg : Nat) : Prop where
  hdr : w'.heap[g]? = some (.cells #[.slice (some ⟨gb, 0, none⟩) n n, .slice (some ⟨gw, 0, none⟩) (n / 64) (n / 64), .slice (some ⟨gg, 0, none⟩) (n / 64) (n / 64)] 89 (0, 0))
  byt : w'.heap[gb]? = some (.cells (madeCells #[.int .u8 0] n) 5 (0, 0))
  wat : w'.heap[gw]? = some (.cells (madeCells #[.bool false] (n / 64)) 4 (0, 0))
  gen : w'.heap[gg]? = some (.cells (madeCells #[.int .u64 0] (n / 64)) 114 (0, 0))
  new : w.heap.size ≤ g ∧ w.heap.size ≤ gb ∧ w.heap.size ≤ gw ∧ w.heap.size ≤ gg
  ne : g ≠ gb ∧ g ≠ gw ∧ g ≠ gg ∧ gb ≠ gw ∧ gb ≠ gg ∧ gw ≠ gg
  below : Below w.heap.size w w'
def NewPost (w : World) (n : Nat) (e : Ending) (w' : World) : Prop :=
  ∃ g gb gw gg, e = .returned (.tuple #[.pointer (some ⟨g, 0, none⟩), .int .i64 0]) ∧ NewRam w w' n g gb gw gg
theorem push_last {α : Type} (h : Array α) (a : α) (n : Nat) (hn : n = h.size) : (h.push a)[n]? = some a := by subst hn; simp
theorem push_old {α : Type} (h : Array α) (a : α) (n : Nat) (hn : n ≠ h.size) : (h.push a)[n]? = h[n]? := by
  rw [Array.getElem?_push, if_neg (by omega)]
theorem four_new (w : World) (a b c d : Obj) : ((((w.alloc a).alloc b).alloc c).alloc d).heap[w.heap.size]? = some a ∧ ((((w.alloc a).alloc b).alloc c).alloc d).heap[w.heap.size + 1]? = some b ∧
    ((((w.alloc a).alloc b).alloc c).alloc d).heap[w.heap.size + 1 + 1]? = some c ∧ ((((w.alloc a).alloc b).alloc c).alloc d).heap[w.heap.size + 1 + 1 + 1]? = some d := by
  show ((((w.heap.push a).push b).push c).push d)[w.heap.size]? = _ ∧ ((((w.heap.push a).push b).push c).push d)[w.heap.size + 1]? = _ ∧ ((((w.heap.push a).push b).push c).push d)[w.heap.size + 1 + 1]? = _ ∧ ((((w.heap.push a).push b).push c).push d)[w.heap.size + 1 + 1 + 1]? = _
  refine ⟨?_, ?_, ?_, ?_⟩
  · rw [push_old _ _ _ (by simp only [Array.size_push]; omega), push_old _ _ _ (by simp only [Array.size_push]; omega), push_old _ _ _ (by simp only [Array.size_push]; omega), push_last _ _ _ rfl]
  · rw [push_old _ _ _ (by simp only [Array.size_push]; omega), push_old _ _ _ (by simp only [Array.size_push]; omega), push_last _ _ _ (by simp only [Array.size_push])]
  · rw [push_old _ _ _ (by simp only [Array.size_push]; omega), push_last _ _ _ (by simp only [Array.size_push])]
  · rw [push_last _ _ _ (by simp only [Array.size_push])]
set_option maxHeartbeats 1600000 in
theorem new_calls (n : Nat) (h0 : 64 ≤ n) (h1 : n ≤ 65536) (h2 : n % 64 = 0) (w : World) :
    Calls Tryd.prog 25 #[.int .i64 n] w (NewPost w n) := by
  have hb := fun W => run_make_row' (P := Tryd.prog) 22 5 (.int .u8 0) 1 Tryd.underlying22 info_u8 rfl .i64 .i64 n (by omega) (by omega) W
  have hw := fun W => run_make_row' (P := Tryd.prog) 35 4 (.bool false) 1 Tryd.underlying35 info_bool rfl .i64 .i64 (n / 64) (by omega) (by omega) W
  have hg := fun W => run_make_row' (P := Tryd.prog) 87 114 (.int .u64 0) 8 Tryd.underlying87 info_u64 rfl .i64 .i64 (n / 64) (by omega) (by omega) W
  have e1 : (((n / 64 : Nat) : Int)) = (n : Int) / 64 := by omega
  rw [e1] at hw hg
  have m1 : ((n : Int) % 64 != 0) = false := by rw [bne_eq_false_iff_eq]; omega
  have m2 : decide ((n : Int) < 64) = false := by simp; omega
  have m3 : decide ((65536 : Int) < n) = false := by simp; omega
  clear e1
  go_enter Tryd.func25, Tryd.ntmps25
  go_wp2
  go_region
  all_goals
    go_wp2
    go_ret2
  all_goals
    refine ⟨_, _, _, _, rfl, ⟨(four_new w _ _ _ _).2.2.2, ?_, ?_, ?_, ⟨by omega, by omega, by omega, by omega⟩, ⟨by omega, by omega, by omega, by omega, by omega, by omega⟩, bl_drew (bl_alloc (bl_alloc (bl_alloc (bl_alloc (Below.refl _ _) _) _) _) _)⟩⟩
    all_goals first | exact (four_new w _ _ _ _).1 | exact (four_new w _ _ _ _).2.1 | exact (four_new w _ _ _ _).2.2.1

/-- bytes that are read -/
structure ReadsB (w : World) (ad : Addr) (bs : List Int) : Prop where
  cells : ∀ i : Nat, i < bs.length → w.cell? (ad.add i) = some (.int .u8 (bs.getD i 0))
  bytes : Bytes bs
theorem ReadsB.below {w w' : World} {ad : Addr} {bs : List Int} (h : ReadsB w ad bs) (hb : Below w.heap.size w w') : ReadsB w' ad bs :=
  ⟨fun i hi => (hb.cell (World.block_lt_of_cell? w _ (h.cells i hi))).trans (h.cells i hi), h.bytes⟩
def u8s (bs : List Int) : List Value := bs.map fun x => .int .u8 x
theorem u8s_length (bs : List Int) : (u8s bs).length = bs.length := by simp [u8s]
theorem u8s_get (bs : List Int) (j : Nat) (v : Value) (h : (u8s bs)[j]? = some v) : j < bs.length ∧ v = .int .u8 (bs.getD j 0) := by
  simp only [u8s, List.getElem?_map, Option.map_eq_some_iff] at h
  obtain ⟨x, hx, rfl⟩ := h
  refine ⟨(List.getElem?_eq_some_iff.1 hx).1, ?_⟩
  simp [List.getD_eq_getElem?_getD, hx]
set_option maxHeartbeats 1600000 in
theorem fill_calls (g gb c n : Nat) (ad : Addr) (bs : List Int) (cur : Array Value) (w : World) (hlen : 1 ≤ bs.length ∧ bs.length ≤ n ∧ n ≤ 65536) (hcur : cur.size = n)
    (hdr : w.cell? ⟨g, 0, none⟩ = some (.slice (some ⟨gb, 0, none⟩) n n)) (hblk : w.heap[gb]? = some (.cells cur 5 (0, 0))) (hR : ReadsB w ad bs) :
    Calls Tryd.prog 26 #[.pointer (some ⟨g, 0, none⟩), .int .u32 2147483648, .slice (some ad) bs.length c] w fun e w' =>
      e = .returned (.int .i64 0) ∧ w.setRow gb (u8s bs ++ cur.toList.drop bs.length).toArray = w' := by
  have hcp := run_copy_row (P := Tryd.prog) w 22 22 3 5 gb 0 bs.length bs.length ad bs.length c cur 5 (u8s bs) Tryd.underlying22 (by rw [show (Tryd.prog.info? 5).map (·.size) = some 1 by kernel_rfl]) hblk
    (by rw [u8s_length]; simp) (fun j v h => by obtain ⟨hj, rfl⟩ := u8s_get bs j v h; exact hR.cells j hj) (by rw [u8s_length, hcur]; omega) (fun v hv => by simp only [u8s, List.mem_map] at hv; obtain ⟨x, _, rfl⟩ := hv; rfl)
  have e1 : (cur.toList.take 0 ++ u8s bs ++ cur.toList.drop (0 + (u8s bs).length)).toArray = (u8s bs ++ cur.toList.drop bs.length).toArray := by
    rw [u8s_length, Nat.zero_add]; simp
  rw [e1] at hcp
  obtain ⟨l1, l2, l3⟩ := hlen
  have n1 : ((bs.length : Int) == 0) = false := beq_eq_false_iff_ne.2 (by omega)
  generalize (u8s bs ++ cur.toList.drop bs.length).toArray = arr at *
  clear hR hblk e1 hcur
  generalize (goInt (u8s bs).length) = gi at *
  generalize bs.length = len at *
  go_enter Tryd.func26, Tryd.ntmps26
  go_wp2
  go_ret
  exact ⟨rfl, rfl⟩
theorem noughts (n : Nat) : (madeCells #[Value.int .u8 0] n).toList = u8s (List.replicate n 0) := by
  apply List.ext_getElem
  · simp [madeCells, u8s]
  · intro i h1 h2
    simp [madeCells, u8s, Nat.mod_one]
/-- a new memory, filled -/
theorem NewRam.filled {w w' : World} {n g gb gw gg : Nat} (h : NewRam w w' n g gb gw gg) (bs : List Int) (hb : Bytes bs) (hl : bs.length ≤ n) (hn : n ≤ 65536) :
    RamAt (w'.setRow gb (u8s bs ++ (madeCells #[.int .u8 0] n).toList.drop bs.length).toArray) g gb (bs ++ List.replicate (n - bs.length) 0) := by
  have hlen : (bs ++ List.replicate (n - bs.length) (0 : Int)).length = n := by simp; omega
  rw [noughts]
  have e : (u8s bs ++ (u8s (List.replicate n 0)).drop bs.length) = u8s (bs ++ List.replicate (n - bs.length) 0) := by simp [u8s]
  rw [e]
  generalize hxs : bs ++ List.replicate (n - bs.length) (0 : Int) = xs at *
  have hrow := setRow_heap w' gb _ (u8s xs).toArray _ _ h.byt
  refine ⟨?_, fun i hi => ?_, ?_, by omega⟩
  · have := setRow_other w' gb g (u8s xs).toArray h.ne.1
    simp only [World.cell?, this, h.hdr, hlen]
    rfl
  · simp only [World.cell?, hrow]
    simp [u8s, List.getD_eq_getElem?_getD, List.getElem?_eq_getElem hi]
  · intro x hx
    rw [← hxs, List.mem_append] at hx
    rcases hx with hx | hx
    · exact hb x hx
    · have := (List.mem_replicate.1 hx).2; omega
theorem bl_setRow {w W : World} (h : Below w.heap.size w W) {g : Nat} (hg : w.heap.size ≤ g) (cs : Array Value) : Below w.heap.size w (W.setRow g cs) := below_setRow h hg cs
end Go.Proofs.YtnbbhgpflanhaaaDoor
