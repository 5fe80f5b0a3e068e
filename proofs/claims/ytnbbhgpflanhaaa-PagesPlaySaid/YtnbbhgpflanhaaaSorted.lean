/- The library's sorting of a map's keys, over the index's maps. -/
import Derived.Test.YtnbbhgpflanhaaaLay
import Derived.Test.YtnbbhgpflanhaaaMapsA
namespace Go.Proofs.Ytnbbhgpflanhaaa
open Go.RowKit Go.Maps Go.Sort Go.Shelf
set_option linter.unusedVariables false
set_option maxRecDepth 100000
theorem sortsA (m : Nat) : AnyZI.SortsIn Try.prog Try.sortedA_ren Fence.wide m :=
  ⟨fun blk off cap ss W hH hblk hsz => callsIn_wide.2 (AnyM.slices_Sort_int Try.sortA blk off cap ss W hH hblk hsz),
   fun p cap W => callsIn_wide.2 (AnyM.slices_Sort_int_none Try.sortA p cap W)⟩
/-- a list of a call's own, rising, of just a set's numbers -/
def RisePost (w : World) (S : Int → Prop) (e : Ending) (w' : World) : Prop :=
  ∃ v zs, e = .returned v ∧ w'.ownsRow w.heap.size 3 1 v zs.length (zs.map (Value.int .i64)) ∧ Rise zs ∧ (∀ x, x ∈ zs ↔ S x) ∧ Below w.heap.size w w' ∧ (zs = [] → v = .slice none 0 0)
theorem rise_sort {zs ss : List Int} (hz : Rise zs) (hp : ss.Perm zs) : ss.mergeSort (fun x y => decide (x ≤ y)) = zs := by
  have tr : ∀ a b c : Int, decide (a ≤ b) = true → decide (b ≤ c) = true → decide (a ≤ c) = true := fun a b c h1 h2 => by simp only [decide_eq_true_eq] at *; omega
  have to : ∀ a b : Int, (decide (a ≤ b) || decide (b ≤ a)) = true := fun a b => by simp only [Bool.or_eq_true, decide_eq_true_eq]; omega
  refine List.Perm.eq_of_pairwise (le := fun a b => a ≤ b) (fun a b _ _ h1 h2 => by omega) ((List.pairwise_mergeSort tr to ss).imp (fun h => by simpa using h)) (hz.imp (fun h => by omega)) ((List.mergeSort_perm ss _).trans hp)
theorem keysA_calls (mb : Option Nat) (W : World) : Calls Try.prog 31 #[.map mb] W fun e w' => e = .returned (.func (.func 35) #[] #[.pointer (some ⟨W.heap.size, 0, none⟩)]) ∧ w' = W.alloc (.cells #[.map mb] 54) :=
  (callsIn_wide (n := 5)).1 (AnyZI.keys_in Try.keysA Fence.wide 5 trivial rfl mb W)
theorem keysB_calls (mb : Option Nat) (W : World) : Calls Try.prog 29 #[.map mb] W fun e w' => e = .returned (.func (.func 34) #[] #[.pointer (some ⟨W.heap.size, 0, none⟩)]) ∧ w' = W.alloc (.cells #[.map mb] 46) :=
  (callsIn_wide (n := 5)).1 (AnyZI.keys_in Try.keysB Fence.wide 5 trivial rfl mb W)
theorem perm_keys {w : World} {R : Value → Option (DataW Unit × List MemPlace)} {b n : Nat} {E : DataW Unit} (h : w.ownsMap Try.prog 3 R b n E) {zs : List Int} (hz : Rise zs) (hm : ∀ x, x ∈ zs ↔ Maps.has E (key x) = true) : zs.Perm (intKeys E) := by
  obtain ⟨es, rfl, hp, hk⟩ := h.canon keyed
  obtain ⟨es', he', hko⟩ := h.keysOf
  obtain rfl : es = es' := by simpa using he'
  refine perm_intKeys (Maps.apart_of_rising hp) (fun p hp => ?_) hz.nodup hm
  obtain ⟨v, hv⟩ := hko p hp
  obtain ⟨x, _, hx, _⟩ := Maps.keyOf_i64 Try.underlying3 hv
  exact ⟨x, hx⟩
set_option maxHeartbeats 1000000 in
theorem sortedA_calls (b n : Nat) (S : Int → Prop) (w : World) (h : SetAt w b n S) (hn : n ≤ 1000000000000) :
    Calls Try.prog 28 #[.func (.func 35) #[] #[.pointer (some ⟨w.heap.size, 0, none⟩)]] (w.alloc (.cells #[.map (some b)] 54)) (RisePost (w.alloc (.cells #[.map (some b)] 54)) S) := by
  obtain ⟨E, hown, hE⟩ := h
  have hsz := hown.size_le
  have hbl := hown.lt
  have hseq : SeqGives Fence.wide 2 Try.prog 35 #[.pointer (some ⟨w.heap.size, 0, none⟩)] encZ (fun ss => ss.Perm (intKeys E)) (Maps.size E) (w.alloc (.cells #[.map (some b)] 54)) :=
    AnyZI.keys_gives (ρ := Try.keysA_ren) { Try.keysA with } Fence.wide _ trivial rfl (by omega) w.heap.size b n E _ (by simp) (by simp) (by
      obtain ⟨es, clock, hb, Ft, hs, hD⟩ := hown
      exact ⟨es, clock, (Below.heap_alloc _ _ b hbl).trans hb, Ft, hs, hD⟩)
  have cS := AnyZI.sorted_in Try.sortedA Fence.wide 5 trivial trivial trivial trivial rfl (by omega) (sortsA _) (enters_of Try.func33 (by kernel_rfl) rfl) 35 #[.pointer (some ⟨w.heap.size, 0, none⟩)] trivial (enters_of Try.func35 (by kernel_rfl) rfl) _ (Maps.size E) (by simp only [maxLen]; omega) (by omega) _ hseq
  obtain ⟨zs, z1, z2, z3, z4⟩ := owns_keys hown
  have hp := perm_keys hown z1 z2
  refine ((callsIn_wide (n := 5)).1 cS).mono ?_
  rintro e w' ⟨v, ss, rfl, hS, hrow, hnil, hb⟩
  have hs : ss.mergeSort (fun x y => decide (x ≤ y)) = zs := rise_sort z1 (hS.trans hp.symm)
  rw [hs, show ss.length = zs.length from (hS.trans hp.symm).length_eq] at hrow
  refine ⟨v, zs, rfl, hrow, z1, fun x => (z2 x).trans (hE x), hb, fun h => hnil.2 ?_⟩
  rw [h] at hp
  exact (hS.trans hp.symm).eq_nil
set_option maxHeartbeats 1000000 in
theorem sortedB_calls (b n : Nat) (T : Int → Option Nat) (w : World) (h : TabAt w b n T) (hn : n ≤ 1000000000000) :
    Calls Try.prog 28 #[.func (.func 34) #[] #[.pointer (some ⟨w.heap.size, 0, none⟩)]] (w.alloc (.cells #[.map (some b)] 46)) (RisePost (w.alloc (.cells #[.map (some b)] 46)) (fun x => (T x).isSome = true)) := by
  obtain ⟨E, hown, hE⟩ := h
  have hsz := hown.size_le
  have hbl := hown.lt
  have hseq : SeqGives Fence.wide 2 Try.prog 34 #[.pointer (some ⟨w.heap.size, 0, none⟩)] encZ (fun ss => ss.Perm (intKeys E)) (Maps.size E) (w.alloc (.cells #[.map (some b)] 46)) :=
    AnyZI.keys_gives (ρ := Try.keysB_ren) { Try.keysB with } Fence.wide _ trivial rfl (by omega) w.heap.size b n E _ (by simp) (by simp) (by
      obtain ⟨es, clock, hb, Ft, hs, hD⟩ := hown
      exact ⟨es, clock, (Below.heap_alloc _ _ b hbl).trans hb, Ft, hs, hD⟩)
  have cS := AnyZI.sorted_in Try.sortedA Fence.wide 5 trivial trivial trivial trivial rfl (by omega) (sortsA _) (enters_of Try.func33 (by kernel_rfl) rfl) 34 #[.pointer (some ⟨w.heap.size, 0, none⟩)] trivial (enters_of Try.func34 (by kernel_rfl) rfl) _ (Maps.size E) (by simp only [maxLen]; omega) (by omega) _ hseq
  obtain ⟨zs, z1, z2, z3, z4⟩ := owns_keys hown
  have hp := perm_keys hown z1 z2
  refine ((callsIn_wide (n := 5)).1 cS).mono ?_
  rintro e w' ⟨v, ss, rfl, hS, hrow, hnil, hb⟩
  have hs : ss.mergeSort (fun x y => decide (x ≤ y)) = zs := rise_sort z1 (hS.trans hp.symm)
  rw [hs, show ss.length = zs.length from (hS.trans hp.symm).length_eq] at hrow
  refine ⟨v, zs, rfl, hrow, z1, fun x => (z2 x).trans (by rw [(hE x).1]), hb, fun h => hnil.2 ?_⟩
  rw [h] at hp
  exact (hS.trans hp.symm).eq_nil
set_option maxHeartbeats 1000000 in
theorem sortedN_calls (w : World) :
    Calls Try.prog 28 #[.func (.func 35) #[] #[.pointer (some ⟨w.heap.size, 0, none⟩)]] (w.alloc (.cells #[.map none] 54)) (RisePost (w.alloc (.cells #[.map none] 54)) (fun _ => False)) := by
  have hseq : SeqGives Fence.wide 2 Try.prog 35 #[.pointer (some ⟨w.heap.size, 0, none⟩)] encZ (fun ss : List Int => ss = []) 0 (w.alloc (.cells #[.map none] 54)) :=
    AnyZI.keys_gives_nil (ρ := Try.keysA_ren) { Try.keysA with } Fence.wide _ trivial rfl w.heap.size _ (by simp) (by simp)
  have cS := AnyZI.sorted_in Try.sortedA Fence.wide 5 trivial trivial trivial trivial rfl (by omega) (sortsA _) (enters_of Try.func33 (by kernel_rfl) rfl) 35 #[.pointer (some ⟨w.heap.size, 0, none⟩)] trivial (enters_of Try.func35 (by kernel_rfl) rfl) _ 0 (Nat.zero_le _) (by omega) _ hseq
  refine ((callsIn_wide (n := 5)).1 cS).mono ?_
  rintro e w' ⟨v, ss, rfl, rfl, hrow, hnil, hb⟩
  rw [show ([] : List Int).mergeSort (fun x y => decide (x ≤ y)) = [] by simp] at hrow
  exact ⟨v, [], rfl, hrow, List.Pairwise.nil, fun x => by simp, hb, fun _ => hnil.2 rfl⟩
end Go.Proofs.Ytnbbhgpflanhaaa
