/- The index's maps in memory: sets of numbers, and tables of sets. -/
import Derived.Test.YtnbbhgpflanhaaaChecked
import Derived.Maps.OwnSet
import Derived.Maps.Ext
import Derived.Lib.SlKeysI
import Derived.WalkKit
import Derived.Lib.Hide
namespace Go.Proofs.Ytnbbhgpflanhaaa
open Go.RowKit
set_option linter.unusedVariables false

abbrev key (x : Int) : Lit := .int .i64 x
def IntOk (x : Int) : Prop := (Lit.int .i64 x).wf = true
theorem IntOk.mk {x : Int} (h0 : -9223372036854775808 ≤ x) (h1 : x ≤ 9223372036854775807) : IntOk x := by
  simp [IntOk, Lit.wf, IntKind.min, IntKind.max, IntKind.signed, IntKind.bits]; omega
theorem IntOk.le {x : Int} (h : IntOk x) : -9223372036854775808 ≤ x ∧ x ≤ 9223372036854775807 := by
  simp [IntOk, Lit.wf, IntKind.min, IntKind.max, IntKind.signed, IntKind.bits] at h; omega
theorem keyed : Maps.Keyed Try.prog 3 := Maps.int_keyed Try.underlying3
theorem key_of {x : Int} (h : IntOk x) : keyOf Try.prog 3 (.int .i64 x) = some (key x) := Maps.keyOf_int_mk Try.underlying3 h
theorem key_lit (x : Int) : WideAt.IsKeyLit (key x) := by simp [WideAt.IsKeyLit]
theorem key_ne {x y : Int} (h : x ≠ y) : key x ≠ key y := by simpa [key] using h
/-- elements that are maps -/
def mapElem : Value → Option (DataW Unit × List MemPlace)
  | .map none => some (.nil, [])
  | .map (some b) => some (.lit (.int .i64 (b : Int)), [])
  | _ => none
theorem mapElem_inv {v : Value} {z : DataW Unit × List MemPlace} (h : mapElem v = some z) : (v = .map none ∧ z = (.nil, [])) ∨ ∃ b : Nat, v = .map (some b) ∧ z = (.lit (.int .i64 (b : Int)), []) := by
  unfold mapElem at h
  split at h
  · cases h; exact .inl ⟨rfl, rfl⟩
  · cases h; exact .inr ⟨_, rfl, rfl⟩
  · cases h
/-- rising, each once -/
def Rise (zs : List Int) : Prop := zs.Pairwise (· < ·)
theorem Rise.nodup {zs : List Int} (h : Rise zs) : zs.Nodup := h.imp (fun h => by omega)
theorem rise_eq {xs ys : List Int} (hx : Rise xs) (hy : Rise ys) (h : ∀ z, z ∈ xs ↔ z ∈ ys) : xs = ys := by
  have hp : xs.Perm ys := (List.perm_ext_iff_of_nodup hx.nodup hy.nodup).2 h
  exact List.Perm.eq_of_pairwise (le := fun a b => a ≤ b) (fun a b _ _ h1 h2 => by omega) (hx.imp (fun h => by omega)) (hy.imp (fun h => by omega)) hp
/-- a set of numbers -/
def SetAt (w : World) (b n : Nat) (S : Int → Prop) : Prop := ∃ E : DataW Unit, w.ownsMap Try.prog 3 (plainElem Try.prog 3) b n E ∧ ∀ x, Maps.has E (key x) = true ↔ S x
/-- a table of maps -/
def TabAt (w : World) (b n : Nat) (T : Int → Option Nat) : Prop := ∃ E : DataW Unit, w.ownsMap Try.prog 3 mapElem b n E ∧ ∀ x, Maps.has E (key x) = (T x).isSome ∧ ∀ c, T x = some c → ∀ z, E.atKey (key x) z = .lit (.int .i64 (c : Int))
theorem SetAt.mono {w : World} {b n n' : Nat} {S : Int → Prop} (h : SetAt w b n S) (hn : n ≤ n') : SetAt w b n' S := by
  obtain ⟨E, h1, h2⟩ := h; exact ⟨E, h1.mono hn, h2⟩
theorem TabAt.mono {w : World} {b n n' : Nat} {T : Int → Option Nat} (h : TabAt w b n T) (hn : n ≤ n') : TabAt w b n' T := by
  obtain ⟨E, h1, h2⟩ := h; exact ⟨E, h1.mono hn, h2⟩
theorem SetAt.lt {w : World} {b n : Nat} {S : Int → Prop} (h : SetAt w b n S) : b < w.heap.size := by obtain ⟨E, h1, _⟩ := h; exact h1.lt
theorem TabAt.lt {w : World} {b n : Nat} {T : Int → Option Nat} (h : TabAt w b n T) : b < w.heap.size := by obtain ⟨E, h1, _⟩ := h; exact h1.lt
theorem owns_move {w w' : World} {R : Value → Option (DataW Unit × List MemPlace)} {b n : Nat} {E : DataW Unit} (h : w.ownsMap Try.prog 3 R b n E) (hb : w'.heap[b]? = w.heap[b]?) : w'.ownsMap Try.prog 3 R b n E := by
  obtain ⟨es, clock, h1, h2⟩ := h; exact ⟨es, clock, hb.trans h1, h2⟩
theorem SetAt.move {w w' : World} {b n : Nat} {S : Int → Prop} (h : SetAt w b n S) (hb : w'.heap[b]? = w.heap[b]?) : SetAt w' b n S := by
  obtain ⟨E, h1, h2⟩ := h; exact ⟨E, owns_move h1 hb, h2⟩
theorem TabAt.move {w w' : World} {b n : Nat} {T : Int → Option Nat} (h : TabAt w b n T) (hb : w'.heap[b]? = w.heap[b]?) : TabAt w' b n T := by
  obtain ⟨E, h1, h2⟩ := h; exact ⟨E, owns_move h1 hb, h2⟩
theorem SetAt.made (w : World) : SetAt (w.alloc (.map #[] 0)) w.heap.size 0 (fun _ => False) :=
  ⟨.map [], World.ownsMap_made _ _ _ _, fun x => by simp [Maps.has]⟩
theorem TabAt.made (w : World) : TabAt (w.alloc (.map #[] 0)) w.heap.size 0 (fun _ => none) :=
  ⟨.map [], World.ownsMap_made _ _ _ _, fun x => ⟨by simp [Maps.has], fun c h => by cases h⟩⟩
theorem SetAt.congr {w : World} {b n : Nat} {S S' : Int → Prop} (h : SetAt w b n S) (hs : ∀ x, S x ↔ S' x) : SetAt w b n S' := by
  obtain ⟨E, h1, h2⟩ := h; exact ⟨E, h1, fun x => (h2 x).trans (hs x)⟩
/-- one number more -/
theorem SetAt.put {w : World} {b n : Nat} {S : Int → Prop} (h : SetAt w b n S) (hn : n < maxLen) {x : Int} (hx : IntOk x) :
    ∃ w', (Instr.mapUpdate 54 (.map (some b)) (.int .i64 x) (.int .i64 1)).run Try.prog w = .ok () w' ∧ SetAt w' b (n + 1) (fun y => S y ∨ y = x) ∧ w.grownBy w' (some b) := by
  obtain ⟨E, h1, h2⟩ := h
  obtain ⟨w', hrun, ho, hg⟩ := h1.update keyed Try.underlying54 hn (key_of hx) (val := .int .i64 1) (plainElem_int Try.underlying3 (by decide))
  refine ⟨w', hrun, ⟨_, ho, fun y => ?_⟩, hg⟩
  by_cases hy : y = x
  · subst hy
    simp [Maps.has_put_same h1.isMap (key_lit y)]
  · rw [Maps.has_put_other (key_ne hy), h2 y]
    simp [hy]
/-- one number less -/
theorem SetAt.del {w : World} {b n : Nat} {S : Int → Prop} (h : SetAt w b n S) {x : Int} (hx : IntOk x) (ty : TypeId) :
    ∃ w', (Builtin.delete_ #[54, 3] ty #[.map (some b), .int .i64 x]).run Try.prog w = .ok (.tuple #[]) w' ∧ SetAt w' b n (fun y => S y ∧ y ≠ x) ∧ w.grownBy w' (some b) := by
  obtain ⟨E, h1, h2⟩ := h
  obtain ⟨w', hrun, ho, hg⟩ := h1.drop keyed Try.underlying54 (key_of hx) ty
  refine ⟨w', hrun, ⟨_, ho, fun y => ?_⟩, hg.grown⟩
  by_cases hy : y = x
  · subst hy
    simp [Maps.has_del_same]
  · rw [Maps.has_del_other (key_ne hy), h2 y]
    simp [hy]
/-- the keys of an owned map, rising -/
theorem owns_keys {w : World} {R : Value → Option (DataW Unit × List MemPlace)} {b n : Nat} {E : DataW Unit} (h : w.ownsMap Try.prog 3 R b n E) :
    ∃ zs, Rise zs ∧ (∀ x, x ∈ zs ↔ Maps.has E (key x) = true) ∧ zs.length = Maps.size E ∧ ∀ x ∈ zs, IntOk x := by
  obtain ⟨es, rfl, hp, hk⟩ := h.canon keyed
  obtain ⟨es', he', hko⟩ := h.keysOf
  obtain rfl : es = es' := by simpa using he'
  have hint : ∀ p ∈ es, ∃ x, p.1 = key x ∧ IntOk x := fun p hp => by
    obtain ⟨v, hv⟩ := hko p hp
    obtain ⟨x, _, hx, hw⟩ := Maps.keyOf_i64 Try.underlying3 hv
    exact ⟨x, hx, hw⟩
  refine ⟨es.map fun p => intOf p.1, ?_, fun x => ?_, by simp [Maps.size], fun x hx => ?_⟩
  · refine List.pairwise_map.2 (hp.imp_of_mem fun {p q} hp' hq' hlt => ?_)
    obtain ⟨a, ha, _⟩ := hint p hp'
    obtain ⟨c, hc, _⟩ := hint q hq'
    rw [ha, hc] at hlt ⊢
    simpa [Lit.before, intOf, key] using hlt
  · rw [Maps.has_eq, List.any_eq_true, List.mem_map]
    constructor
    · rintro ⟨p, hp', rfl⟩
      obtain ⟨a, ha, _⟩ := hint p hp'
      exact ⟨p, hp', by rw [ha]; simp [Lit.sameKey, intOf]⟩
    · rintro ⟨p, hp', hs⟩
      obtain ⟨a, ha, _⟩ := hint p hp'
      rw [ha] at hs
      exact ⟨p, hp', by rw [ha]; simpa [Lit.sameKey, intOf, key, eq_comm] using hs⟩
  · obtain ⟨p, hp', rfl⟩ := List.mem_map.1 hx
    obtain ⟨a, ha, hw⟩ := hint p hp'
    rw [ha]
    exact hw
theorem owns_size {w : World} {R : Value → Option (DataW Unit × List MemPlace)} {b n : Nat} {E : DataW Unit} (h : w.ownsMap Try.prog 3 R b n E) {zs : List Int} (hz : Rise zs) (hm : ∀ x, x ∈ zs ↔ Maps.has E (key x) = true) : Maps.size E = zs.length := by
  obtain ⟨zs', h1, h2, h3, _⟩ := owns_keys h
  rw [← h3, rise_eq h1 hz (fun x => (h2 x).trans (hm x).symm)]
/-- how many -/
theorem SetAt.len {w : World} {b n : Nat} {S : Int → Prop} (h : SetAt w b n S) (ty : TypeId) : ∃ m : Nat, (Builtin.len_ #[54] ty #[.map (some b)]).run Try.prog w = .ok (.int .i64 m) w ∧ ∀ zs, Rise zs → (∀ x, x ∈ zs ↔ S x) → m = zs.length := by
  obtain ⟨E, h1, h2⟩ := h
  exact ⟨Maps.size E, h1.len Try.underlying54 ty, fun zs hz hm => owns_size h1 hz (fun x => (hm x).trans (h2 x).symm)⟩
theorem SetAt.rise {w : World} {b n : Nat} {S : Int → Prop} (h : SetAt w b n S) : ∃ zs, Rise zs ∧ (∀ x, x ∈ zs ↔ S x) ∧ zs.length ≤ n ∧ ∀ x ∈ zs, IntOk x := by
  obtain ⟨E, h1, h2⟩ := h
  obtain ⟨zs, h3, h4, h5, h6⟩ := owns_keys h1
  exact ⟨zs, h3, fun x => (h4 x).trans (h2 x), by rw [h5]; exact h1.size_le, h6⟩
theorem TabAt.len {w : World} {b n : Nat} {T : Int → Option Nat} (h : TabAt w b n T) (ty : TypeId) : ∃ m : Nat, (Builtin.len_ #[46] ty #[.map (some b)]).run Try.prog w = .ok (.int .i64 m) w ∧ ∀ zs, Rise zs → (∀ x, x ∈ zs ↔ (T x).isSome = true) → m = zs.length := by
  obtain ⟨E, h1, h2⟩ := h
  exact ⟨Maps.size E, h1.len Try.underlying46 ty, fun zs hz hm => owns_size h1 hz (fun x => (hm x).trans (by rw [(h2 x).1]))⟩
theorem TabAt.rise {w : World} {b n : Nat} {T : Int → Option Nat} (h : TabAt w b n T) : ∃ zs, Rise zs ∧ (∀ x, x ∈ zs ↔ (T x).isSome = true) ∧ zs.length ≤ n ∧ ∀ x ∈ zs, IntOk x := by
  obtain ⟨E, h1, h2⟩ := h
  obtain ⟨zs, h3, h4, h5, h6⟩ := owns_keys h1
  exact ⟨zs, h3, fun x => (h4 x).trans (by rw [(h2 x).1]), by rw [h5]; exact h1.size_le, h6⟩
theorem zero_set (w : World) : (zeroValue 54).run Try.prog w = .ok (.map none) w := by kernel_rfl
/-- what a table has -/
theorem TabAt.get {w : World} {b n : Nat} {T : Int → Option Nat} (h : TabAt w b n T) {x : Int} (hx : IntOk x) : (Instr.lookup 46 (.map (some b)) (.int .i64 x) false).run Try.prog w = .ok (.map (T x)) w := by
  obtain ⟨E, h1, h2⟩ := h
  obtain ⟨v, ps, hrun, hv⟩ := h1.lookup keyed Try.underlying46 (zero_set w) (zd := .nil) (zp := []) rfl (key_of hx)
  rw [hrun]
  cases hT : T x with
  | none =>
    have hn : Maps.has E (key x) = false := by rw [(h2 x).1, hT]; rfl
    rw [Maps.atKey_of_not_has hn] at hv
    rcases mapElem_inv hv with ⟨rfl, _⟩ | ⟨c, rfl, hc⟩
    · rfl
    · simp at hc
  | some c =>
    rw [(h2 x).2 c hT] at hv
    rcases mapElem_inv hv with ⟨rfl, hc⟩ | ⟨c', rfl, hc⟩
    · simp at hc
    · simp at hc
      obtain rfl : c = c' := by omega
      rfl
theorem TabAt.put {w : World} {b n : Nat} {T : Int → Option Nat} (h : TabAt w b n T) (hn : n < maxLen) {x : Int} (hx : IntOk x) (c : Nat) :
    ∃ w', (Instr.mapUpdate 46 (.map (some b)) (.int .i64 x) (.map (some c))).run Try.prog w = .ok () w' ∧ TabAt w' b (n + 1) (fun y => if y = x then some c else T y) ∧ w.grownBy w' (some b) := by
  obtain ⟨E, h1, h2⟩ := h
  obtain ⟨w', hrun, ho, hg⟩ := h1.update keyed Try.underlying46 hn (key_of hx) (val := .map (some c)) (d := .lit (.int .i64 (c : Int))) (ps := []) rfl
  refine ⟨w', hrun, ⟨_, ho, fun y => ?_⟩, hg⟩
  by_cases hy : y = x
  · subst hy
    refine ⟨by simp [Maps.has_put_same h1.isMap (key_lit y)], fun c' hc z => ?_⟩
    simp at hc
    subst hc
    exact Maps.atKey_put_same h1.isMap (key_lit y) _ _
  · rw [Maps.has_put_other (key_ne hy)]
    simp only [if_neg hy]
    exact ⟨(h2 y).1, fun c' hc z => by rw [Maps.atKey_put_other (key_ne hy)]; exact (h2 y).2 c' hc z⟩
theorem TabAt.del {w : World} {b n : Nat} {T : Int → Option Nat} (h : TabAt w b n T) {x : Int} (hx : IntOk x) (ty : TypeId) :
    ∃ w', (Builtin.delete_ #[46, 3] ty #[.map (some b), .int .i64 x]).run Try.prog w = .ok (.tuple #[]) w' ∧ TabAt w' b n (fun y => if y = x then none else T y) ∧ w.grownBy w' (some b) := by
  obtain ⟨E, h1, h2⟩ := h
  obtain ⟨w', hrun, ho, hg⟩ := h1.drop keyed Try.underlying46 (key_of hx) ty
  refine ⟨w', hrun, ⟨_, ho, fun y => ?_⟩, hg.grown⟩
  by_cases hy : y = x
  · subst hy
    simp [Maps.has_del_same]
  · rw [Maps.has_del_other (key_ne hy)]
    simp only [if_neg hy]
    exact ⟨(h2 y).1, fun c' hc z => by rw [Maps.atKey_del_other (key_ne hy)]; exact (h2 y).2 c' hc z⟩
end Go.Proofs.Ytnbbhgpflanhaaa
