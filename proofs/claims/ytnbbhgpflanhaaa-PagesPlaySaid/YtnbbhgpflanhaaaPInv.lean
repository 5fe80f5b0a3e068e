/- The index beside the reference's pairs. -/
import Derived.Test.YtnbbhgpflanhaaaPHitI
namespace Go.Proofs.Ytnbbhgpflanhaaa
open Go.RowKit
set_option linter.unusedVariables false
set_option linter.unusedSimpArgs false
set_option maxRecDepth 100000
/-- a step -/
structure St where
  kind : Int
  id : Int
  pv : Value
  zs : List Int
  wv : Value
  bs : List Bool
structure StIn (w : World) (s : St) : Prop where
  row : InRow w s.pv s.zs
  bools : BoolsIn w s.wv s.bs
  idOk : IntOk s.id
  zsOk : ∀ x ∈ s.zs, IntOk x
  zl : (s.zs.length : Int) ≤ 9223372036854775807
  bl : (s.bs.length : Int) ≤ 9223372036854775807
def StepsIn (w : World) (v : Value) (ls : List St) : Prop :=
  (∃ a c, v = .slice a ls.length c) ∧ (ls = [] ∨ ∃ b o c, v = .slice (some ⟨b, o, none⟩) ls.length c ∧ b < w.heap.size ∧ ∀ i (h : i < ls.length), w.cell? ⟨b, o + i * 4, none⟩ = some (.int .i64 ls[i].kind) ∧ w.cell? ⟨b, o + i * 4 + 1, none⟩ = some (.int .i64 ls[i].id) ∧ w.cell? ⟨b, o + i * 4 + 2, none⟩ = some ls[i].pv ∧ w.cell? ⟨b, o + i * 4 + 3, none⟩ = some ls[i].wv ∧ StIn w ls[i])
theorem StIn.below {w w' : World} {s : St} (h : StIn w s) (hb : Below w.heap.size w w') : StIn w' s := ⟨h.row.below hb, h.bools.below hb, h.idOk, h.zsOk, h.zl, h.bl⟩
theorem StepsIn.at_ {w : World} {a : Option Addr} {n c : Nat} {ls : List St} (h : StepsIn w (.slice a n c) ls) (i : Nat) (hi : i < ls.length) : ∃ b o s, a = some ⟨b, o, none⟩ ∧ b < w.heap.size ∧ ls[i]? = some s ∧
    (∀ w', Below w.heap.size w w' → w'.cell? ⟨b, o + i * 4, none⟩ = some (.int .i64 s.kind) ∧ w'.cell? ⟨b, o + i * 4 + 1, none⟩ = some (.int .i64 s.id) ∧ w'.cell? ⟨b, o + i * 4 + 2, none⟩ = some s.pv ∧ w'.cell? ⟨b, o + i * 4 + 3, none⟩ = some s.wv) ∧ StIn w s := by
  obtain ⟨b, o, c', hv, hb, hc⟩ := h.2.resolve_left (fun e => by rw [e] at hi; simp at hi)
  simp only [Value.slice.injEq] at hv
  obtain ⟨h0, h1, h2, h3, h4⟩ := hc i hi
  exact ⟨b, o, ls[i], hv.1, hb, by simp [hi], fun w' hw => ⟨(hw.cell (p := ⟨b, o + i * 4, none⟩) hb).trans h0, (hw.cell (p := ⟨b, o + i * 4 + 1, none⟩) hb).trans h1, (hw.cell (p := ⟨b, o + i * 4 + 2, none⟩) hb).trans h2, (hw.cell (p := ⟨b, o + i * 4 + 3, none⟩) hb).trans h3⟩, h4⟩
/-- the index has just the pairs -/
structure PInv (w wr : World) (g n : Nat) (F : Nat → Prop) (gw cw : Nat) (ps : List (Int × Int)) : Prop where
  idx : Idx w.heap.size wr g n (fun a b => (a, b) ∈ ps) F
  own : OwnG LP w.heap.size wr (.slice (some ⟨gw, 0, none⟩) ps.length cw) ps
  out : ¬ F gw
  below : Below w.heap.size w wr
  len : ps.length ≤ n
theorem PInv.next {w wr w' : World} {g n : Nat} {F : Nat → Prop} {gw cw : Nat} {ps : List (Int × Int)} (h : PInv w wr g n F gw cw ps) (hb : Below wr.heap.size wr w') : PInv w w' g n F gw cw ps :=
  ⟨h.idx.below hb, h.own.below hb, h.out, h.below.trans (hb.mono h.below.size), h.len⟩
theorem PInv.mono {w wr : World} {g n n' : Nat} {F : Nat → Prop} {gw cw : Nat} {ps : List (Int × Int)} (h : PInv w wr g n F gw cw ps) (hn : n ≤ n') : PInv w wr g n' F gw cw ps :=
  ⟨h.idx.mono hn, h.own, h.out, h.below, by have := h.len; omega⟩
theorem PInv.gw_lt {w wr : World} {g n : Nat} {F : Nat → Prop} {gw cw : Nat} {ps : List (Int × Int)} (h : PInv w wr g n F gw cw ps) : gw < wr.heap.size := h.own.lt gw (by simp [Value.ownBlock])
/-- beside a kept index the pairs stay -/
theorem PInv.beside {w wr w2 : World} {g n : Nat} {F F2 : Nat → Prop} {gw cw : Nat} {ps : List (Int × Int)} (h : PInv w wr g n F gw cw ps) (hk : Kept F wr w2) (hF : ∀ b, F2 b → F b ∨ wr.heap.size ≤ b) :
    OwnG LP w.heap.size w2 (.slice (some ⟨gw, 0, none⟩) ps.length cw) ps ∧ ¬ F2 gw ∧ Below w.heap.size w w2 := by
  have hl := h.gw_lt
  refine ⟨h.own.move (fun k hk' => ?_), fun hf => ?_, h.below.trans (hk.below h.below.size h.idx.base)⟩
  · have : gw = k := by simpa [Value.ownBlock] using hk'
    subst this
    exact hk.block gw hl h.out
  · rcases hF gw hf with h' | h'
    · exact h.out h'
    · omega
/-- pairs made anew -/
theorem PInv.made {w w2 w3 : World} {g n : Nat} {F2 : Nat → Prop} {gw' cw' : Nat} {ps' : List (Int × Int)} {P : Int × Int → Prop} (hi : Idx w.heap.size w2 g n (fun a b => P (a, b)) F2) (hb2 : Below w.heap.size w w2)
    (ho : OwnG LP w2.heap.size w3 (.slice (some ⟨gw', 0, none⟩) ps'.length cw') ps') (hm : ∀ q, q ∈ ps' ↔ P q) (hl : ps'.length ≤ n) (hb3 : Below w2.heap.size w2 w3) : PInv w w3 g n F2 gw' cw' ps' :=
  ⟨(hi.below hb3).congr (fun a b => (hm (a, b)).symm), ho.mono hb2.size, fun hf => by have h1 := hi.lt gw' hf; have h2 := ho.base gw' (by simp [Value.ownBlock]); omega, hb2.trans (hb3.mono hb2.size), hl⟩
theorem InRow.aside {w wr : World} {F : Nat → Prop} {v : Value} {zs : List Int} (h : InRow w v zs) (hF : ∀ b, F b → w.heap.size ≤ b) (hb : Below w.heap.size w wr) : RowAt wr F v zs := by
  have h0 : RowAt w F v zs := ⟨h.1, h.2.imp id fun ⟨g, o, c, hv, _, hl, hc⟩ => ⟨g, o, c, hv, fun hf => by have := hF g hf; omega, hl, hc⟩⟩
  exact h0.kept (Kept.of_below hb) (fun b hb => .inl hb)
theorem bl_drew1 {B : Nat} {a w : World} (h : Below B a w) : Below B a w.drew := h.drew
theorem bl_then {w a b : World} (h : Below w.heap.size w a) (k : Below a.heap.size a b) : Below w.heap.size w b := h.trans (k.mono h.size)
/-- both, one step's pages more -/
theorem PInv.adds {w wr wd w2 w2d : World} {g n : Nat} {F F2 : Nat → Prop} {gw cw : Nat} {ps : List (Int × Int)} (h : PInv w wr g n F gw cw ps) {id : Int} {zs : List Int} (hd : Below wr.heap.size wr wd)
    (hi : Idx w.heap.size w2 g (n + zs.length) (fun a b => (a, b) ∈ ps ∨ (a = id ∧ b ∈ zs)) F2) (hk : Kept F wd w2) (hF : ∀ b, F2 b → F b ∨ wd.heap.size ≤ b) (hd2 : Below w2.heap.size w2 w2d) :
    OwnG LP w.heap.size w2d (.slice (some ⟨gw, 0, none⟩) ps.length cw) ps ∧ Below w.heap.size w w2d ∧
    ∀ ps' w3, ∀ g' c' : Nat, OwnG LP w2d.heap.size w3 (.slice (some ⟨g', 0, none⟩) ps'.length c') ps' → (∀ q, q ∈ ps' ↔ q ∈ ps ∨ (q.1 = id ∧ q.2 ∈ zs)) → ps'.length ≤ ps.length + zs.length → Below w2d.heap.size w2d w3 → PInv w w3 g (n + zs.length) F2 g' c' ps' := by
  have hs := hd.size
  obtain ⟨h1, h2, h3⟩ := h.beside ((Kept.of_below hd).trans hk (fun x hx => .inl hx)) (fun b hb => (hF b hb).imp (fun h => h) (fun h => by omega))
  refine ⟨h1.below hd2, bl_then h3 hd2, fun ps' w3 g' c' ho hm hl hb => ?_⟩
  have hlen := h.len
  exact PInv.made (P := fun q => q ∈ ps ∨ (q.1 = id ∧ q.2 ∈ zs)) (hi.below hd2) (bl_then h3 hd2) ho hm (by omega) hb
/-- the same list, twice -/
theorem same_lists {w : World} {B B' : Nat} {v v' : Value} {xs ys : List Int} {S : Int → Prop} (h : OwnG LZ B w v xs) (hr : Rise xs) (hm : ∀ x, x ∈ xs ↔ S x) (h' : OwnG LZ B' w v' ys) (hr' : Rise ys) (hm' : ∀ x, x ∈ ys ↔ S x) :
    Calls Try.prog 11 #[v, v'] w fun e w' => e = .returned (.bool true) ∧ ∃ k, w' = w.drewN k := by
  obtain rfl : xs = ys := rise_eq hr hr' (fun x => (hm x).trans (hm' x).symm)
  have h1 := h
  obtain ⟨a, c, rfl⟩ := h1.slice
  obtain ⟨a', c', rfl⟩ := h'.slice
  have hl := (h1.len_le).2
  simp only [maxLen] at hl
  exact same_ints a a' c c' B B' xs (by omega) w h1 h'
end Go.Proofs.Ytnbbhgpflanhaaa
