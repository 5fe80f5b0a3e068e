/- Walks: a table of sets, put into and taken from. -/
import Derived.Test.YtnbbhgpflanhaaaSorted
import Derived.WalkSpells
import Derived.Carry
namespace Go.Proofs.Ytnbbhgpflanhaaa
open Go.RowKit
set_option linter.unusedVariables false
set_option linter.unusedSimpArgs false
set_option maxRecDepth 100000
/-- outside of F all that was there is as it was -/
structure Kept (F : Nat → Prop) (w w' : World) : Prop where
  os : w'.os = w.os
  tape : w'.tape = w.tape
  output : w'.output = w.output
  size : w.heap.size ≤ w'.heap.size
  block : ∀ b, b < w.heap.size → ¬ F b → w'.heap[b]? = w.heap[b]?
theorem Kept.refl (F : Nat → Prop) (w : World) : Kept F w w := ⟨rfl, rfl, rfl, Nat.le_refl _, fun _ _ _ => rfl⟩
theorem Kept.trans {F G : Nat → Prop} {a b c : World} (h : Kept F a b) (k : Kept G b c) (hG : ∀ x, G x → F x ∨ a.heap.size ≤ x) : Kept F a c :=
  ⟨k.os.trans h.os, k.tape.trans h.tape, k.output.trans h.output, Nat.le_trans h.size k.size, fun i hi hF => (k.block i (Nat.lt_of_lt_of_le hi h.size) (fun hg => by rcases hG i hg with h1 | h1; exact hF h1; omega)).trans (h.block i hi hF)⟩
theorem Kept.of_below {F : Nat → Prop} {w w' : World} (h : Below w.heap.size w w') : Kept F w w' := ⟨h.os, h.tape, h.output, h.size, fun b hb _ => h.block b hb⟩
theorem Kept.of_grown {F : Nat → Prop} {w w' : World} {b : Nat} (h : w.grownBy w' (some b)) (hb : F b) : Kept F w w' := ⟨h.os, h.tape, h.output, h.size, fun i hi hF => h.block i hi (fun e => hF (by cases e; exact hb))⟩
theorem Kept.mono {F G : Nat → Prop} {w w' : World} (h : Kept F w w') (hF : ∀ b, F b → G b) : Kept G w w' := ⟨h.os, h.tape, h.output, h.size, fun b hb hG => h.block b hb (fun hf => hG (hF b hf))⟩
theorem Kept.below {F : Nat → Prop} {B : Nat} {w w' : World} (h : Kept F w w') (hB : B ≤ w.heap.size) (hF : ∀ b, F b → B ≤ b) : Below B w w' := ⟨h.os, h.tape, h.output, h.size, fun b hb => h.block b (by omega) (fun hf => by have := hF b hf; omega)⟩
/-- a table of sets: S k n says that n is in k's -/
structure Half (w : World) (bm c : Nat) (S : Int → Int → Prop) (F : Nat → Prop) (T : Int → Option Nat) : Prop where
  tab : TabAt w bm c T
  sets : ∀ k b, T k = some b → SetAt w b c (S k)
  inF : ∀ k b, T k = some b → F b
  top : F bm
  ne : ∀ k, T k ≠ some bm
  inj : ∀ k k' b, T k = some b → T k' = some b → k = k'
  some_ : ∀ k b, T k = some b → ∃ n, S k n
  none_ : ∀ k, T k = none → ∀ n, ¬ S k n
  lt : ∀ b, F b → b < w.heap.size
theorem Half.move {w w' : World} {bm c : Nat} {S : Int → Int → Prop} {F : Nat → Prop} {T : Int → Option Nat} (h : Half w bm c S F T) (hb : ∀ b, F b → w'.heap[b]? = w.heap[b]?) (hs : w.heap.size ≤ w'.heap.size) : Half w' bm c S F T :=
  ⟨h.tab.move (hb _ h.top), fun k b hk => (h.sets k b hk).move (hb _ (h.inF k b hk)), h.inF, h.top, h.ne, h.inj, h.some_, h.none_, fun b hf => Nat.lt_of_lt_of_le (h.lt b hf) hs⟩
theorem Half.mono {w : World} {bm c c' : Nat} {S : Int → Int → Prop} {F : Nat → Prop} {T : Int → Option Nat} (h : Half w bm c S F T) (hc : c ≤ c') : Half w bm c' S F T :=
  ⟨h.tab.mono hc, fun k b hk => (h.sets k b hk).mono hc, h.inF, h.top, h.ne, h.inj, h.some_, h.none_, h.lt⟩
theorem Half.congr {w : World} {bm c : Nat} {S S' : Int → Int → Prop} {F : Nat → Prop} {T : Int → Option Nat} (h : Half w bm c S F T) (hS : ∀ k n, S k n ↔ S' k n) : Half w bm c S' F T :=
  ⟨h.tab, fun k b hk => (h.sets k b hk).congr (hS k), h.inF, h.top, h.ne, h.inj, fun k b hk => by obtain ⟨n, hn⟩ := h.some_ k b hk; exact ⟨n, (hS k n).1 hn⟩, fun k hk n hn => h.none_ k hk n ((hS k n).2 hn), h.lt⟩
theorem Half.made (w : World) : Half (w.alloc (.map #[] 0)) w.heap.size 0 (fun _ _ => False) (fun b => b = w.heap.size) (fun _ => none) :=
  ⟨TabAt.made w, (fun k b h => by cases h), (fun k b h => by cases h), rfl, (fun k h => by cases h), (fun k k' b h => by cases h), (fun k b h => by cases h), (fun k _ n h => h), (fun b hb => by simp [hb])⟩
theorem Half.dom {w : World} {bm c : Nat} {S : Int → Int → Prop} {F : Nat → Prop} {T : Int → Option Nat} (h : Half w bm c S F T) (k : Int) : (T k).isSome = true ↔ ∃ n, S k n := by
  cases hT : T k with
  | none => simp; exact h.none_ k hT
  | some b => simp; exact h.some_ k b hT
/-- sorted -/
theorem sorted_calls (b n : Nat) (S : Int → Prop) (w : World) (h : SetAt w b n S) (hn : n ≤ 1000000000000) : Calls Try.prog 26 #[.map (some b)] w (RisePost w S) := by
  have hs := sortedA_calls b n S w h hn
  have H := Lib.hid hs
  clear hs h
  go_enter Try.func26, Try.ntmps26
  go_wp2_with (first | (go_at_call 31; refine (keysA_calls _ _).mono ?_; rintro e w' ⟨rfl, rfl⟩) | (go_at_call 28; refine H.out.mono ?_; rintro e w1 ⟨v, zs, rfl, h1, h2, h3, h4, h5⟩))
  go_ret
  exact ⟨v, zs, rfl, ownsRow_base_a h1 (by simp), h2, h3, ((Below.refl _ w).alloc (Nat.le_refl _) _).trans (h4.mono (by simp)), h5⟩
theorem sorted_nil (w : World) : Calls Try.prog 26 #[.map none] w (RisePost w (fun _ => False)) := by
  have hs := sortedN_calls w
  have H := Lib.hid hs
  clear hs
  go_enter Try.func26, Try.ntmps26
  go_wp2_with (first | (go_at_call 31; refine (keysA_calls _ _).mono ?_; rintro e w' ⟨rfl, rfl⟩) | (go_at_call 28; refine H.out.mono ?_; rintro e w1 ⟨v, zs, rfl, h1, h2, h3, h4, h5⟩))
  go_ret
  exact ⟨v, zs, rfl, ownsRow_base_a h1 (by simp), h2, h3, ((Below.refl _ w).alloc (Nat.le_refl _) _).trans (h4.mono (by simp)), h5⟩
/-- of a table: what is in k's set -/
theorem half_sorted {w : World} {bm c : Nat} {S : Int → Int → Prop} {F : Nat → Prop} {T : Int → Option Nat} (h : Half w bm c S F T) (hc : c ≤ 100000) (k : Int) : Calls Try.prog 26 #[.map (T k)] w (RisePost w (S k)) := by
  cases hT : T k with
  | none => exact (sorted_nil w).mono fun e w' ⟨v, zs, h1, h2, h3, h4, h5⟩ => ⟨v, zs, h1, h2, h3, fun x => (h4 x).trans (by simp [h.none_ k hT x]), h5⟩
  | some b => exact sorted_calls b c (S k) w (h.sets k b hT) (by omega)
/-- put -/
def PutPost (w : World) (bm c : Nat) (S : Int → Int → Prop) (F : Nat → Prop) (e : Ending) (w' : World) : Prop :=
  e = .returned (.tuple #[]) ∧ ∃ F' T', Half w' bm c S F' T' ∧ Kept F w w' ∧ ∀ b, F' b → F b ∨ w.heap.size ≤ b
theorem put_calls {w : World} {bm c : Nat} {S : Int → Int → Prop} {F : Nat → Prop} {T : Int → Option Nat} (h : Half w bm c S F T) (hc : c ≤ 100000) {k n : Int} (hk : IntOk k) (hn : IntOk n) :
    Calls Try.prog 23 #[.map (some bm), .int .i64 k, .int .i64 n] w (PutPost w bm (c + 1) (fun a b => S a b ∨ (a = k ∧ b = n)) F) := by
  have hml : maxLen = 9223372036854775807 := rfl
  have hg0 := h.tab.get hk
  cases hT : T k with
  | some b =>
    rw [hT] at hg0
    obtain ⟨w1, hr1, hs1, hgr1⟩ := (h.sets k b hT).put (by omega) hn
    have hq := fun W => run_eql_map_nil (P := Try.prog) W 54 3 3 (some b) Try.underlying54
    have hfin : PutPost w bm (c + 1) (fun a b => S a b ∨ (a = k ∧ b = n)) F (.returned (.tuple #[])) w1 := by
      have hbF := h.inF k b hT
      have hmv : ∀ b', b' < w.heap.size → b' ≠ b → w1.heap[b']? = w.heap[b']? := fun b' hb' hne => hgr1.block b' hb' (fun e => hne (by cases e; rfl))
      refine ⟨rfl, F, T, ⟨(h.tab.move (hmv bm h.tab.lt (fun e => h.ne k (by rw [e]; exact hT)))).mono (by omega), fun k' b' hk' => ?_, h.inF, h.top, h.ne, h.inj, fun k' b' hk' => ?_, fun k' hk' n' hn' => ?_, fun b' hb' => Nat.lt_of_lt_of_le (h.lt b' hb') hgr1.size⟩, Kept.of_grown hgr1 hbF, fun b' hb' => .inl hb'⟩
      · by_cases e : k' = k
        · subst e
          rw [hT] at hk'
          cases hk'
          exact hs1.congr (fun x => by simp)
        · have hne : b' ≠ b := fun e' => e (h.inj _ _ _ (by rw [hk', e']) hT)
          exact (((h.sets k' b' hk').move (hmv b' (h.lt b' (h.inF k' b' hk')) hne)).mono (by omega)).congr (fun x => by simp [e])
      · obtain ⟨m, hm⟩ := h.some_ k' b' hk'; exact ⟨m, .inl hm⟩
      · rcases hn' with hn' | ⟨rfl, _⟩
        · exact h.none_ k' hk' n' hn'
        · rw [hT] at hk'; cases hk'
    have HF := Lib.hid hfin
    clear hfin h hs1 hgr1 hk hn
    go_enter Try.func23, Try.ntmps23
    go_wp2
    go_end0
    exact HF.out
  | none =>
    rw [hT] at hg0
    have hq := fun W => run_eql_map_nil (P := Try.prog) W 54 3 3 none Try.underlying54
    have hmm := @run_makeMap Try.prog
    have hlt := h.tab.lt
    obtain ⟨w2, hr2, ht2, hgr2⟩ := (h.tab.move (Below.heap_alloc w (.map #[] 0) bm hlt)).put (by omega) hk w.heap.size
    have hg2 := ht2.get hk
    simp only [if_true] at hg2
    have hs0 : SetAt w2 w.heap.size 0 (fun _ => False) := (SetAt.made w).move (hgr2.block _ (by simp) (fun e => by simp at e; omega))
    obtain ⟨w3, hr3, hs3, hgr3⟩ := hs0.put (by omega) hn
    have hfin : PutPost w bm (c + 1) (fun a b => S a b ∨ (a = k ∧ b = n)) F (.returned (.tuple #[])) w3 := by
      have hsz2 := hgr2.size
      have hsz3 := hgr3.size
      simp at hsz2
      have hmv : ∀ b', b' < w.heap.size → b' ≠ bm → w3.heap[b']? = w.heap[b']? := fun b' hb' hne =>
        ((hgr3.block b' (by omega) (fun e => by simp at e; omega)).trans (hgr2.block b' (by simp; omega) (fun e => hne (by simpa using e)))).trans (Below.heap_alloc _ _ _ hb')
      refine ⟨rfl, (fun b => F b ∨ b = w.heap.size), (fun y => if y = k then some w.heap.size else T y), ⟨ht2.move (hgr3.block bm (by omega) (fun e => by simp at e; omega)), fun k' b' hk' => ?_, fun k' b' hk' => ?_, .inl h.top, fun k' e => ?_, fun k1 k2 b' h1 h2 => ?_, fun k' b' hk' => ?_, fun k' hk' n' hn' => ?_, fun b' hb' => ?_⟩, ?_, fun b' hb' => ?_⟩
      · by_cases e : k' = k
        · subst e
          simp at hk'
          subst hk'
          exact (hs3.mono (by omega)).congr (fun x => by simp [h.none_ k' hT x])
        · simp only [if_neg e] at hk'
          exact (((h.sets k' b' hk').move (hmv b' (h.lt b' (h.inF k' b' hk')) (fun e' => h.ne k' (by rw [hk', e'])))).mono (by omega)).congr (fun x => by simp [e])
      · by_cases e : k' = k
        · subst e
          simp at hk'
          exact .inr hk'.symm
        · simp only [if_neg e] at hk'
          exact .inl (h.inF k' b' hk')
      · by_cases e' : k' = k
        · simp only [if_pos e'] at e
          simp at e
          omega
        · simp only [if_neg e'] at e
          exact h.ne k' e
      · by_cases e1 : k1 = k
        · by_cases e2 : k2 = k
          · rw [e1, e2]
          · simp only [if_pos e1, if_neg e2] at h1 h2
            simp at h1
            have := h.lt b' (h.inF k2 b' h2)
            omega
        · by_cases e2 : k2 = k
          · simp only [if_neg e1, if_pos e2] at h1 h2
            simp at h2
            have := h.lt b' (h.inF k1 b' h1)
            omega
          · simp only [if_neg e1, if_neg e2] at h1 h2
            exact h.inj k1 k2 b' h1 h2
      · by_cases e : k' = k
        · exact ⟨n, .inr ⟨e, rfl⟩⟩
        · simp only [if_neg e] at hk'
          obtain ⟨m, hm⟩ := h.some_ k' b' hk'
          exact ⟨m, .inl hm⟩
      · by_cases e : k' = k
        · simp [e] at hk'
        · simp only [if_neg e] at hk'
          rcases hn' with hn' | ⟨e', _⟩
          · exact h.none_ k' hk' n' hn'
          · exact e e'
      · rcases hb' with hb' | rfl
        · have := h.lt b' hb'; omega
        · omega
      · have k1 : Kept F w (w.alloc (.map #[] 0)) := Kept.of_below ((Below.refl _ _).alloc (Nat.le_refl _) _)
        have k2 : Kept F (w.alloc (.map #[] 0)) w2 := Kept.of_grown hgr2 h.top
        have k3 : Kept (fun b => b = w.heap.size) w2 w3 := Kept.of_grown hgr3 rfl
        exact (k1.trans k2 (fun x hx => .inl hx)).trans k3 (fun x hx => .inr (by omega))
      · rcases hb' with hb' | rfl
        · exact .inl hb'
        · exact .inr (Nat.le_refl _)
    have HF := Lib.hid hfin
    clear hfin h hs0 hs3 hgr2 hgr3 ht2 hk hn hlt
    go_enter Try.func23, Try.ntmps23
    go_wp2
    go_end0
    exact HF.out
/-- take -/
def TakePost (w : World) (bm c : Nat) (S : Int → Int → Prop) (F : Nat → Prop) (e : Ending) (w' : World) : Prop :=
  e = .returned (.tuple #[]) ∧ ∃ T', Half w' bm c S F T' ∧ Kept F w w'
theorem take_calls {w : World} {bm c : Nat} {S : Int → Int → Prop} {F : Nat → Prop} {T : Int → Option Nat} (h : Half w bm c S F T) {k n : Int} (hk : IntOk k) (hn : IntOk n) (hS : S k n) :
    Calls Try.prog 25 #[.map (some bm), .int .i64 k, .int .i64 n] w (TakePost w bm c (fun a b => S a b ∧ ¬ (a = k ∧ b = n)) F) := by
  have hg0 := h.tab.get hk
  cases hT : T k with
  | none => exact absurd hS (h.none_ k hT n)
  | some b =>
    rw [hT] at hg0
    obtain ⟨w1, hr1, hs1, hgr1⟩ := (h.sets k b hT).del hn 0
    have hbF := h.inF k b hT
    have hmv : ∀ b', b' < w.heap.size → b' ≠ b → w1.heap[b']? = w.heap[b']? := fun b' hb' hne => hgr1.block b' hb' (fun e => hne (by cases e; rfl))
    have ht1 := h.tab.move (hmv bm h.tab.lt (fun e => h.ne k (by rw [e]; exact hT)))
    have hg1 := ht1.get hk
    rw [hT] at hg1
    obtain ⟨m, hr2, hm⟩ := hs1.len 3
    obtain ⟨zs, z1, z2, z3, z4⟩ := hs1.rise
    have hmz := hm zs z1 z2
    by_cases h0 : m = 0
    · obtain ⟨w2, hr3, ht3, hgr3⟩ := ht1.del hk 0
      have hno : ∀ x, S k x → x = n := fun x hx => by
        by_cases e : x = n
        · exact e
        · have := (z2 x).2 ⟨hx, e⟩
          rw [List.length_eq_zero_iff.1 (hmz.symm.trans h0)] at this
          cases this
      have hfin : TakePost w bm c (fun a b => S a b ∧ ¬ (a = k ∧ b = n)) F (.returned (.tuple #[])) w2 := by
        have hsz1 := hgr1.size
        have hsz3 := hgr3.size
        have hmv2 : ∀ b', b' < w.heap.size → b' ≠ b → b' ≠ bm → w2.heap[b']? = w.heap[b']? := fun b' hb' hne hne' => (hgr3.block b' (by omega) (fun e => hne' (by cases e; rfl))).trans (hmv b' hb' hne)
        refine ⟨rfl, (fun y => if y = k then none else T y), ⟨ht3, fun k' b' hk' => ?_, fun k' b' hk' => ?_, h.top, fun k' e => ?_, fun k1 k2 b' h1 h2 => ?_, fun k' b' hk' => ?_, fun k' hk' n' hn' => ?_, fun b' hb' => by have := h.lt b' hb'; omega⟩, (Kept.of_grown hgr1 hbF).trans (Kept.of_grown hgr3 h.top) (fun x hx => .inl hx)⟩
        · by_cases e : k' = k
          · simp [e] at hk'
          · simp only [if_neg e] at hk'
            exact ((h.sets k' b' hk').move (hmv2 b' (h.lt b' (h.inF k' b' hk')) (fun e' => e (h.inj _ _ _ (by rw [hk', e']) hT)) (fun e' => h.ne k' (by rw [hk', e'])))).congr (fun x => by simp [e])
        · by_cases e : k' = k
          · simp [e] at hk'
          · simp only [if_neg e] at hk'
            exact h.inF k' b' hk'
        · by_cases e' : k' = k
          · simp [e'] at e
          · simp only [if_neg e'] at e
            exact h.ne k' e
        · by_cases e1 : k1 = k
          · simp [e1] at h1
          · by_cases e2 : k2 = k
            · simp [e2] at h2
            · simp only [if_neg e1, if_neg e2] at h1 h2
              exact h.inj k1 k2 b' h1 h2
        · by_cases e : k' = k
          · simp [e] at hk'
          · simp only [if_neg e] at hk'
            obtain ⟨m, hm⟩ := h.some_ k' b' hk'
            exact ⟨m, hm, fun e' => e e'.1⟩
        · by_cases e : k' = k
          · subst e
            exact hn'.2 ⟨rfl, hno n' hn'.1⟩
          · simp only [if_neg e] at hk'
            exact h.none_ k' hk' n' hn'.1
      have HF := Lib.hid hfin
      subst h0
      clear hfin h hs1 ht1 ht3 hgr1 hgr3 hk hn hm hmz z1 z2 z3 z4 hno
      go_enter Try.func25, Try.ntmps25
      go_wp2
      go_end0
      exact HF.out
    · have hfin : TakePost w bm c (fun a b => S a b ∧ ¬ (a = k ∧ b = n)) F (.returned (.tuple #[])) w1 := by
        refine ⟨rfl, T, ⟨ht1, fun k' b' hk' => ?_, h.inF, h.top, h.ne, h.inj, fun k' b' hk' => ?_, fun k' hk' n' hn' => h.none_ k' hk' n' hn'.1, fun b' hb' => Nat.lt_of_lt_of_le (h.lt b' hb') hgr1.size⟩, Kept.of_grown hgr1 hbF⟩
        · by_cases e : k' = k
          · subst e
            rw [hT] at hk'
            cases hk'
            exact hs1.congr (fun x => by simp)
          · have hne : b' ≠ b := fun e' => e (h.inj _ _ _ (by rw [hk', e']) hT)
            exact ((h.sets k' b' hk').move (hmv b' (h.lt b' (h.inF k' b' hk')) hne)).congr (fun x => by simp [e])
        · by_cases e : k' = k
          · subst e
            obtain ⟨x, hx⟩ : ∃ x, x ∈ zs := by
              cases zs with
              | nil => exact absurd hmz h0
              | cons y t => exact ⟨y, by simp⟩
            have := (z2 x).1 hx
            exact ⟨x, this.1, fun e' => this.2 e'.2⟩
          · obtain ⟨m, hm⟩ := h.some_ k' b' hk'
            exact ⟨m, hm, fun e' => e e'.1⟩
      have HF := Lib.hid hfin
      have h0' : ((m : Int) == 0) = false := by rw [beq_eq_false_iff_ne]; omega
      clear hfin h hs1 ht1 hgr1 hk hn hm hmz z1 z2 z3 z4 h0
      go_enter Try.func25, Try.ntmps25
      go_wp2
      go_end0
      exact HF.out
end Go.Proofs.Ytnbbhgpflanhaaa
