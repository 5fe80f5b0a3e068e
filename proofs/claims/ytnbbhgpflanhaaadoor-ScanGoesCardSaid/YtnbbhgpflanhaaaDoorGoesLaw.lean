/- The plain law of a path's items: each can be translated, and goes on where the next one is; the pages that they have. No program in sight. -/
import Derived.Test.YtnbbhgpflanhaaaDoorPathAlong
import Derived.Lib.SlicesCompact
namespace Go.Proofs.YtnbbhgpflanhaaaDoor
open Go.RowKit
set_option linter.unusedVariables false
/-- may an item go on at an address? -/
def mayS (x : Itm) (next : Int) : Bool :=
  if next % 4 ≠ 0 then false else if x.i.op = 4 then true else if x.i.op = 3 then decide (next = (x.pc + x.i.imm) % 4294967296)
  else if isBranch x.i.op then decide (next = (x.pc + 4) % 4294967296) || decide (next = (x.pc + x.i.imm) % 4294967296) else decide (next = (x.pc + 4) % 4294967296)
def pageS (pc : Int) : Int := (pc - 2147483648) / 64
/-- what is known of an item of a row -/
structure ItemOk (len : Nat) (x : Itm) : Prop where
  can : canS x.i = true
  pc0 : 2147483648 ≤ x.pc
  pc1 : x.pc + 4 ≤ 2147483648 + len
  imm0 : 0 ≤ x.i.imm
  imm1 : x.i.imm ≤ 4294967295
/-- what is known of a row's items -/
structure RowOk (len : Nat) (R : List Itm) : Prop where
  item : ∀ k (h : k < R.length), ItemOk len R[k]
  goes : ∀ k (h : k + 1 < R.length), R[k].next = R[k + 1].pc ∧ mayS R[k] R[k].next = true
theorem okS_ask {bs : List Int} {pc : Int} (h : okS bs pc = true) : pc % 4 = 0 ∧ hasS bs.length pc 4 = true ∧ canS (decS (wordS bs pc)) = true := by
  unfold okS askS at h
  simp only [Bool.and_eq_true, beq_iff_eq] at h
  obtain ⟨h1, h2⟩ := h
  by_cases c1 : pc % 4 = 0
  · by_cases c2 : hasS bs.length pc 4 = true
    · exact ⟨c1, c2, h2⟩
    · simp [c1, c2] at h1
  · simp [c1] at h1
theorem on_item (x : Itm) (ts : List Bool) : (onS false x ts).2.1.pc = x.pc ∧ (onS false x ts).2.1.i = x.i := by
  unfold onS
  by_cases hb : isBranch x.i.op = true
  · rw [if_pos hb]
    cases ts with
    | nil => exact ⟨rfl, rfl⟩
    | cons t r =>
      cases t
      · exact ⟨rfl, rfl⟩
      · by_cases h4 : x.i.imm % 4 = 0
        · simp [h4]
        · simp [h4]
  · rw [if_neg hb]; exact ⟨rfl, rfl⟩
theorem item_ok {bs : List Int} (hB : Bytes bs) {p : Int} (ts : List Bool) (h : okS bs p = true) : ItemOk bs.length (onS false (itemS bs p) ts).2.1 := by
  obtain ⟨h1, h2, h3⟩ := okS_ask h
  obtain ⟨e1, e2⟩ := on_item (itemS bs p) ts
  have hw := word_range bs hB p
  have hi := dec_imm (wordS bs p) hw.1 hw.2
  unfold hasS at h2
  simp only [decide_eq_true_eq] at h2
  refine ⟨by rw [e2]; exact h3, by rw [e1]; show 2147483648 ≤ p; omega, by rw [e1]; show p + 4 ≤ 2147483648 + (bs.length : Int); omega, by rw [e2]; exact hi.1, by rw [e2]; exact hi.2⟩
theorem may_of (x : Itm) (en : x.next = nextS x.pc x.i) (hp : x.pc % 4 = 0) (ts : List Bool) (hn : (onS false x ts).2.1.next % 4 = 0) : mayS (onS false x ts).2.1 (onS false x ts).2.1.next = true := by
  obtain ⟨pc, i, next⟩ := x
  simp only [] at en hp
  subst en
  have plain : ∀ (h4 : ¬ i.op = 4), ¬ i.op = 3 → nextS pc i = (pc + 4) % 4294967296 := fun h4 h3 => next_o _ _ (beq_eq_false_iff_ne.2 h3) (beq_eq_false_iff_ne.2 h4)
  by_cases hb : isBranch i.op = true
  · have hb' := hb
    unfold isBranch at hb'
    simp only [decide_eq_true_eq] at hb'
    have e3 : ¬ i.op = 3 := by omega
    have e4 : ¬ i.op = 4 := by omega
    have en := plain e4 e3
    have stay : mayS ⟨pc, i, nextS pc i⟩ (nextS pc i) = true := by
      unfold mayS
      rw [en, if_neg (by simp only [ne_eq, Decidable.not_not]; omega), if_neg e4, if_neg e3, if_pos hb]
      simp
    cases ts with
    | nil =>
      have off : onS false ⟨pc, i, nextS pc i⟩ [] = (false, ⟨pc, i, nextS pc i⟩, []) := by simp [onS, hb]
      rw [off] at hn ⊢
      exact stay
    | cons t r =>
      cases t
      · have off : onS false ⟨pc, i, nextS pc i⟩ (false :: r) = (true, ⟨pc, i, nextS pc i⟩, r) := by simp [onS, hb]
        rw [off] at hn ⊢
        exact stay
      · by_cases h4 : i.imm % 4 = 0
        · have off : onS false ⟨pc, i, nextS pc i⟩ (true :: r) = (true, ⟨pc, i, (pc + i.imm) % 4294967296⟩, r) := by simp [onS, hb, h4]
          rw [off] at hn ⊢
          unfold mayS
          simp only [] at hn ⊢
          rw [if_neg (by simp only [ne_eq, Decidable.not_not]; exact hn), if_neg e4, if_neg e3, if_pos hb]
          simp
        · have off : onS false ⟨pc, i, nextS pc i⟩ (true :: r) = (false, ⟨pc, i, nextS pc i⟩, r) := by simp [onS, hb, h4]
          rw [off] at hn ⊢
          exact stay
  · have off : onS false ⟨pc, i, nextS pc i⟩ ts = (decide (i.op ≠ 4), ⟨pc, i, nextS pc i⟩, ts) := by unfold onS; rw [if_neg hb]; rfl
    rw [off] at hn ⊢
    simp only [] at hn ⊢
    unfold mayS
    rw [if_neg (by simpa using hn)]
    by_cases e4 : i.op = 4
    · rw [if_pos e4]
    · rw [if_neg e4]
      by_cases e3 : i.op = 3
      · rw [if_pos e3]
        exact decide_eq_true (next_3 _ _ (beq_iff_eq.2 e3))
      · rw [if_neg e3, if_neg hb]
        exact decide_eq_true (plain e4 e3)
theorem may_on {bs : List Int} {p : Int} (hp : p % 4 = 0) (ts : List Bool) (hn : (onS false (itemS bs p) ts).2.1.next % 4 = 0) : mayS (onS false (itemS bs p) ts).2.1 (onS false (itemS bs p) ts).2.1.next = true :=
  may_of (itemS bs p) rfl hp ts hn
theorem path_ok (bs : List Int) (hB : Bytes bs) : ∀ (n : Nat) (p : Int) (ts : List Bool), RowOk bs.length (pathS bs false n p ts) ∧ (∀ h : 0 < (pathS bs false n p ts).length, (pathS bs false n p ts)[0].pc = p ∧ p % 4 = 0)
  | 0, p, ts => ⟨⟨fun k h => by simp [pathS] at h, fun k h => by simp [pathS] at h⟩, fun h => by simp [pathS] at h⟩
  | n + 1, p, ts => by
    by_cases h : okS bs p = true
    · have hp := (okS_ask h).1
      have hx := item_ok hB ts h
      have hpc := (on_item (itemS bs p) ts).1
      by_cases hg : (onS false (itemS bs p) ts).1 = true
      · have e : pathS bs false (n + 1) p ts = (onS false (itemS bs p) ts).2.1 :: pathS bs false n (onS false (itemS bs p) ts).2.1.next (onS false (itemS bs p) ts).2.2 := by simp [pathS, h, hg]
        have ih := path_ok bs hB n (onS false (itemS bs p) ts).2.1.next (onS false (itemS bs p) ts).2.2
        rw [e]
        have hmay := may_on (bs := bs) hp ts
        generalize pathS bs false n (onS false (itemS bs p) ts).2.1.next (onS false (itemS bs p) ts).2.2 = T at *
        refine ⟨⟨fun k hk => ?_, fun k hk => ?_⟩, fun _ => ⟨hpc, hp⟩⟩
        · cases k with
          | zero => exact hx
          | succ k => simpa using ih.1.item k (by simpa using hk)
        · cases k with
          | zero =>
            have hT : 0 < T.length := by simpa using hk
            obtain ⟨t1, t2⟩ := ih.2 hT
            exact ⟨by simpa using t1.symm, hmay t2⟩
          | succ k => simpa using ih.1.goes k (by simpa using hk)
      · have e : pathS bs false (n + 1) p ts = [(onS false (itemS bs p) ts).2.1] := by simp [pathS, h, hg]
        rw [e]
        refine ⟨⟨fun k hk => ?_, fun k hk => by simp at hk⟩, fun _ => ⟨hpc, hp⟩⟩
        obtain rfl : k = 0 := by simpa using hk
        exact hx
    · have e : pathS bs false (n + 1) p ts = [] := by simp [pathS, h]
      rw [e]
      exact ⟨⟨fun k hk => by simp at hk, fun k hk => by simp at hk⟩, fun hk => by simp at hk⟩
theorem ItemOk.page {len : Nat} {x : Itm} (h : ItemOk len x) (hl : len ≤ 1024) : 0 ≤ pageS x.pc ∧ pageS x.pc < 16 ∧ hasS len x.pc 1 = true := by
  have h0 := h.pc0
  have h1 := h.pc1
  refine ⟨?_, ?_, ?_⟩
  · unfold pageS; omega
  · unfold pageS; omega
  · unfold hasS; exact decide_eq_true (by omega)

/-! ### the pages, rising, each once -/
def Rise (zs : List Int) : Prop := zs.Pairwise (· < ·)
theorem get_bang (zs : List Int) (j : Nat) (h : j < zs.length) : zs.toArray[j]! = zs[j] := by simp [h]
theorem compact_rise (zs : List Int) (hz : zs.Pairwise (· ≤ ·)) : ∀ m, m ≤ zs.length → Rise (Lib.compactUpTo zs.toArray m) ∧ (∀ x, x ∈ Lib.compactUpTo zs.toArray m ↔ x ∈ zs.take m)
  | 0, _ => by simp [Lib.compactUpTo, Rise]
  | m + 1, hm => by
    obtain ⟨h1, h2⟩ := compact_rise zs hz m (by omega)
    have hlt : m < zs.length := by omega
    have hts : zs.take (m + 1) = zs.take m ++ [zs[m]] := List.take_succ_eq_append_getElem hlt
    rw [Lib.compactUpTo_succ, hts, get_bang zs m hlt]
    have hle : ∀ x ∈ zs.take m, x ≤ zs[m] := by
      intro x hx
      obtain ⟨i, hi, rfl⟩ := List.mem_iff_getElem.1 hx
      have hi' : i < m := by simp at hi; omega
      rw [List.getElem_take]
      exact List.pairwise_iff_getElem.1 hz i m (by omega) hlt hi'
    by_cases hk : Lib.keeps zs.toArray m = true
    · rw [if_pos hk]
      refine ⟨?_, fun x => by rw [List.mem_append, List.mem_append, h2 x]⟩
      refine List.pairwise_append.2 ⟨h1, List.pairwise_singleton _ _, fun a ha b hb => ?_⟩
      obtain rfl : b = zs[m] := by simpa using hb
      have ha' := (h2 a).1 ha
      have hla := hle a ha'
      unfold Lib.keeps at hk
      simp only [decide_eq_true_eq] at hk
      rcases hk with rfl | hk
      · simp at ha'
      · by_cases h0 : m = 0
        · subst h0; simp at ha'
        · rw [get_bang zs m hlt, get_bang zs (m - 1) (by omega)] at hk
          have hpm : zs[m - 1] ≤ zs[m] := List.pairwise_iff_getElem.1 hz (m - 1) m (by omega) hlt (by omega)
          obtain ⟨i, hi, rfl⟩ := List.mem_iff_getElem.1 ha'
          have hi' : i < m := by simp at hi; omega
          rw [List.getElem_take]
          have hip : zs[i] ≤ zs[m - 1] := by
            by_cases e : i = m - 1
            · subst e; exact Int.le_refl _
            · exact List.pairwise_iff_getElem.1 hz i (m - 1) (by omega) (by omega) (by omega)
          omega
    · rw [if_neg hk, List.append_nil]
      refine ⟨h1, fun x => ?_⟩
      rw [h2 x, List.mem_append]
      constructor
      · exact .inl
      · rintro (h | h)
        · exact h
        · obtain rfl : x = zs[m] := by simpa using h
          unfold Lib.keeps at hk
          simp only [decide_eq_true_eq, not_or, Decidable.not_not] at hk
          obtain ⟨h0, hk⟩ := hk
          rw [get_bang zs m hlt, get_bang zs (m - 1) (by omega)] at hk
          rw [hk]
          exact List.mem_iff_getElem.2 ⟨m - 1, by simp; omega, by rw [List.getElem_take]⟩
theorem compact_sorted (zs : List Int) (hz : zs.Pairwise (· ≤ ·)) : Rise (Lib.compact zs) ∧ ∀ x, x ∈ Lib.compact zs ↔ x ∈ zs := by
  obtain ⟨h1, h2⟩ := compact_rise zs hz zs.length (Nat.le_refl _)
  exact ⟨h1, fun x => by rw [Lib.compact, h2 x, List.take_length]⟩
theorem sort_pages (zs : List Int) : (zs.mergeSort fun x y => decide (x ≤ y)).Pairwise (· ≤ ·) ∧ ∀ x, x ∈ (zs.mergeSort fun x y => decide (x ≤ y)) ↔ x ∈ zs := by
  have tr : ∀ a b c : Int, decide (a ≤ b) = true → decide (b ≤ c) = true → decide (a ≤ c) = true := fun a b c h1 h2 => by simp only [decide_eq_true_eq] at *; omega
  have to : ∀ a b : Int, (decide (a ≤ b) || decide (b ≤ a)) = true := fun a b => by simp only [Bool.or_eq_true, decide_eq_true_eq]; omega
  exact ⟨(List.pairwise_mergeSort tr to zs).imp (fun h => by simpa using h), fun x => (List.mergeSort_perm zs _).mem_iff⟩
/-- a rising list, read along the numbers -/
theorem rise_count (P : List Int) (hP : Rise P) (hb : ∀ x ∈ P, 0 ≤ x ∧ x < 16) (i : Nat) (n : Nat) (hn : n ≤ P.length) (hlow : ∀ k (h : k < P.length), k < n ↔ P[k] < i) :
    ((i : Int) ∈ P → n < P.length ∧ ∀ h : n < P.length, P[n] = i) ∧ ((i : Int) ∈ P → ∀ k (h : k < P.length), k < n + 1 ↔ P[k] < ((i + 1 : Nat) : Int)) ∧ ((i : Int) ∉ P → ∀ k (h : k < P.length), k < n ↔ P[k] < ((i + 1 : Nat) : Int)) := by
  have hlt : ∀ a b (ha : a < P.length) (hb : b < P.length), a < b → P[a] < P[b] := fun a b ha hb hab => List.pairwise_iff_getElem.1 hP a b ha hb hab
  have key : (i : Int) ∈ P → n < P.length ∧ ∀ h : n < P.length, P[n] = i := by
    intro hi
    obtain ⟨j, hj, hji⟩ := List.mem_iff_getElem.1 hi
    have hnj : ¬ j < n := fun h => by have := (hlow j hj).1 h; omega
    have hnl : n < P.length := by omega
    refine ⟨hnl, fun h => ?_⟩
    by_cases e : j = n
    · subst e; exact hji
    · have h1 := hlt n j hnl hj (by omega)
      have h2 : ¬ P[n] < (i : Int) := fun h => by have := (hlow n hnl).2 h; omega
      omega
  refine ⟨key, fun hi k hk => ?_, fun hi k hk => ?_⟩
  · obtain ⟨hnl, hn'⟩ := key hi
    have hni := hn' hnl
    constructor
    · intro h
      by_cases e : k = n
      · subst e; omega
      · have := (hlow k hk).1 (by omega); omega
    · intro h
      by_cases h' : n < k
      · have := hlt n k hnl hk h'; omega
      · omega
  · have hne : P[k] ≠ i := fun e => hi (e ▸ List.getElem_mem hk)
    rw [hlow k hk]
    omega
end Go.Proofs.YtnbbhgpflanhaaaDoor
