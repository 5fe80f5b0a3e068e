/- Walks: the index, read and added to. -/
import Derived.Test.YtnbbhgpflanhaaaHalf
import Derived.OwnWalk
namespace Go.Proofs.Ytnbbhgpflanhaaa
open Go.RowKit
set_option linter.unusedVariables false
set_option linter.unusedSimpArgs false
set_option maxRecDepth 100000
/-- the index: S id p says that the block id lies on the page p -/
structure IdxIn (B : Nat) (w : World) (g c : Nat) (S : Int → Int → Prop) (F : Nat → Prop) (bp bb : Nat) (Fp Fb : Nat → Prop) (Tp Tb : Int → Option Nat) : Prop where
  hdr : w.heap[g]? = some (.cells #[.map (some bp), .map (some bb)] 48 (0, 0))
  pg : Half w bp c S Fp Tp
  bl : Half w bb c (fun p id => S id p) Fb Tb
  apart : ∀ b, Fp b → ¬ Fb b
  gp : ¬ Fp g
  gb : ¬ Fb g
  gF : F g
  pF : ∀ b, Fp b → F b
  bF : ∀ b, Fb b → F b
  base : ∀ b, F b → B ≤ b
  lt : ∀ b, F b → b < w.heap.size
def Idx (B : Nat) (w : World) (g c : Nat) (S : Int → Int → Prop) (F : Nat → Prop) : Prop := ∃ bp bb Fp Fb Tp Tb, IdxIn B w g c S F bp bb Fp Fb Tp Tb
theorem IdxIn.move {B : Nat} {w w' : World} {g c : Nat} {S : Int → Int → Prop} {F : Nat → Prop} {bp bb : Nat} {Fp Fb : Nat → Prop} {Tp Tb : Int → Option Nat} (h : IdxIn B w g c S F bp bb Fp Fb Tp Tb) (hb : ∀ b, F b → w'.heap[b]? = w.heap[b]?) (hs : w.heap.size ≤ w'.heap.size) : IdxIn B w' g c S F bp bb Fp Fb Tp Tb :=
  ⟨(hb g h.gF).trans h.hdr, h.pg.move (fun b hf => hb b (h.pF b hf)) hs, h.bl.move (fun b hf => hb b (h.bF b hf)) hs, h.apart, h.gp, h.gb, h.gF, h.pF, h.bF, h.base, fun b hf => Nat.lt_of_lt_of_le (h.lt b hf) hs⟩
theorem Idx.below {B : Nat} {w w' : World} {g c : Nat} {S : Int → Int → Prop} {F : Nat → Prop} (h : Idx B w g c S F) (hb : Below w.heap.size w w') : Idx B w' g c S F := by
  obtain ⟨bp, bb, Fp, Fb, Tp, Tb, h⟩ := h
  exact ⟨bp, bb, Fp, Fb, Tp, Tb, h.move (fun b hf => hb.block b (h.lt b hf)) hb.size⟩
theorem Idx.lt {B : Nat} {w : World} {g c : Nat} {S : Int → Int → Prop} {F : Nat → Prop} (h : Idx B w g c S F) : ∀ b, F b → b < w.heap.size := by
  obtain ⟨bp, bb, Fp, Fb, Tp, Tb, h⟩ := h; exact h.lt
theorem Idx.base {B : Nat} {w : World} {g c : Nat} {S : Int → Int → Prop} {F : Nat → Prop} (h : Idx B w g c S F) : ∀ b, F b → B ≤ b := by
  obtain ⟨bp, bb, Fp, Fb, Tp, Tb, h⟩ := h; exact h.base
theorem Idx.congr {B : Nat} {w : World} {g c : Nat} {S S' : Int → Int → Prop} {F : Nat → Prop} (h : Idx B w g c S F) (hS : ∀ a b, S a b ↔ S' a b) : Idx B w g c S' F := by
  obtain ⟨bp, bb, Fp, Fb, Tp, Tb, h⟩ := h
  exact ⟨bp, bb, Fp, Fb, Tp, Tb, h.hdr, h.pg.congr hS, h.bl.congr (fun a b => hS b a), h.apart, h.gp, h.gb, h.gF, h.pF, h.bF, h.base, h.lt⟩
theorem Idx.mono {B : Nat} {w : World} {g c c' : Nat} {S : Int → Int → Prop} {F : Nat → Prop} (h : Idx B w g c S F) (hc : c ≤ c') : Idx B w g c' S F := by
  obtain ⟨bp, bb, Fp, Fb, Tp, Tb, h⟩ := h
  exact ⟨bp, bb, Fp, Fb, Tp, Tb, h.hdr, h.pg.mono hc, h.bl.mono hc, h.apart, h.gp, h.gb, h.gF, h.pF, h.bF, h.base, h.lt⟩
theorem IdxIn.cells {B : Nat} {w : World} {g c : Nat} {S : Int → Int → Prop} {F : Nat → Prop} {bp bb : Nat} {Fp Fb : Nat → Prop} {Tp Tb : Int → Option Nat} (h : IdxIn B w g c S F bp bb Fp Fb Tp Tb) : w.cell? ⟨g, 0, none⟩ = some (.map (some bp)) ∧ w.cell? ⟨g, 1, none⟩ = some (.map (some bb)) := by
  simp [World.cell?, h.hdr]
/-- a row of numbers that lies aside -/
def RowAt (w : World) (F : Nat → Prop) (v : Value) (zs : List Int) : Prop :=
  (∃ a c, v = .slice a zs.length c) ∧ (zs = [] ∨ ∃ g o c, v = .slice (some ⟨g, o, none⟩) zs.length c ∧ ¬ F g ∧ g < w.heap.size ∧ ∀ i, i < zs.length → w.cell? ⟨g, o + i, none⟩ = some (.int .i64 (zs.getD i 0)))
theorem RowAt.kept {w w' : World} {F F' : Nat → Prop} {v : Value} {zs : List Int} (h : RowAt w F v zs) (hk : Kept F w w') (hF : ∀ b, F' b → F b ∨ w.heap.size ≤ b) : RowAt w' F' v zs := by
  obtain ⟨h1, h2⟩ := h
  refine ⟨h1, ?_⟩
  rcases h2 with h2 | ⟨g, o, c, hv, hg, hl, hc⟩
  · exact .inl h2
  · exact .inr ⟨g, o, c, hv, fun hf => by rcases hF g hf with h | h; exact hg h; omega, Nat.lt_of_lt_of_le hl hk.size, fun i hi => (World.cell?_of_block (a := ⟨g, o + i, none⟩) (hk.block g hl hg)).trans (hc i hi)⟩
theorem RowAt.of_own {w : World} {base : Nat} {F : Nat → Prop} {v : Value} {zs : List Int} (h : w.ownsRow base 3 1 v zs.length (zs.map (Value.int .i64))) (hF : ∀ b, base ≤ b → ¬ F b) : RowAt w F v zs := by
  rcases h.2 with ⟨rfl, h0⟩ | ⟨g, cap, cur, rfl, hb, hh, _, _, _, ht⟩
  · exact ⟨⟨none, 0, by rw [h0]⟩, .inl (List.length_eq_zero_iff.1 h0)⟩
  · refine ⟨⟨_, cap, rfl⟩, .inr ⟨g, 0, cap, rfl, hF g hb, (Array.getElem?_eq_some_iff.1 hh).1, fun i hi => ?_⟩⟩
    have := World.ownsRow.cells h (g := g) rfl i (.int .i64 (zs.getD i 0)) (by simp [hi, List.getD_eq_getElem?_getD])
    have e : (⟨g, 0, none⟩ : Addr).add i = ⟨g, 0 + i, none⟩ := by by_cases h0 : i = 0 <;> simp [Addr.add, h0]
    rw [e] at this
    exact this
def NewPost (B : Nat) (w : World) (e : Ending) (w' : World) : Prop := ∃ g F, e = .returned (.pointer (some ⟨g, 0, none⟩)) ∧ Idx B w' g 0 (fun _ _ => False) F ∧ Below w.heap.size w w' ∧ ∀ b, F b → w.heap.size ≤ b
theorem new_calls (B : Nat) (w : World) (hB : B ≤ w.heap.size) : Calls Try.prog 7 #[] w (NewPost B w) := by
  have hmm := @run_makeMap Try.prog
  have hfin : NewPost B w (.returned (.pointer (some ⟨w.heap.size + 1 + 1, 0, none⟩))) (((w.alloc (.map #[] 0)).alloc (.map #[] 0)).alloc (.cells #[.map (some w.heap.size), .map (some (w.heap.size + 1))] 48)) := by
    refine ⟨w.heap.size + 1 + 1, (fun b => w.heap.size ≤ b ∧ b < w.heap.size + 3), rfl, ⟨w.heap.size, w.heap.size + 1, (fun b => b = w.heap.size), (fun b => b = w.heap.size + 1), (fun _ => none), (fun _ => none), ?_, ?_, ?_, fun b h1 h2 => ?_, ?_, ?_, by omega, (fun b hb => by omega), (fun b hb => by omega), (fun b hb => by omega), (fun b hb => by simp; omega)⟩, ?_, fun b hb => hb.1⟩
    · have := heap_alloc_new ((w.alloc (.map #[] 0)).alloc (.map #[] 0)) (.cells #[.map (some w.heap.size), .map (some (w.heap.size + 1))] 48)
      simpa using this
    · refine (Half.made w).move (fun b hb => ?_) (by simp)
      subst hb
      rw [Below.heap_alloc _ _ _ (by simp; omega), Below.heap_alloc _ _ _ (by simp)]
    · have hm := Half.made (w.alloc (.map #[] 0))
      rw [show (w.alloc (.map #[] 0)).heap.size = w.heap.size + 1 by simp] at hm
      refine (hm.move (fun b hb => ?_) (by simp)).congr (fun _ _ => Iff.rfl)
      subst hb
      rw [Below.heap_alloc _ _ _ (by simp)]
    · omega
    · omega
    · omega
    · exact (((Below.refl w.heap.size w).alloc (Nat.le_refl _) (.map #[] 0)).alloc (by simp) (.map #[] 0)).alloc (by simp; omega) _
  have HF := Lib.hid hfin
  clear hfin
  go_enter Try.func7, Try.ntmps7
  go_wp2
  go_ret
  exact HF.out
theorem add_nil (id : Int) (a : Option Addr) (n c : Nat) (w : World) : Calls Try.prog 8 #[.pointer none, .int .i64 id, .slice a n c] w fun e w' => e = .returned (.tuple #[]) ∧ w = w' := by
  go_enter Try.func8, Try.ntmps8
  go_wp2
  first | (go_end0; exact ⟨rfl, rfl⟩) | exact bodyPost_ret (results_none rfl _ _ _) rfl ⟨rfl, rfl⟩
def AddPost (B : Nat) (w : World) (g c : Nat) (S : Int → Int → Prop) (F : Nat → Prop) (e : Ending) (w' : World) : Prop :=
  e = .returned (.tuple #[]) ∧ ∃ F', Idx B w' g c S F' ∧ Kept F w w' ∧ ∀ b, F' b → F b ∨ w.heap.size ≤ b
def AddRel (B : Nat) (w : World) (g c : Nat) (S : Int → Int → Prop) (F : Nat → Prop) (id : Int) (zs : List Int) (iv : Value) (wr : World) : Prop :=
  ∃ k : Nat, k ≤ zs.length ∧ iv = .int .i64 k ∧ ∃ F', Idx B wr g (c + k) (fun a b => S a b ∨ (a = id ∧ b ∈ zs.take k)) F' ∧ Kept F w wr ∧ ∀ b, F' b → F b ∨ w.heap.size ≤ b
/-- both maps, put into -/
theorem add_one {B : Nat} {w : World} {g c : Nat} {S : Int → Int → Prop} {F : Nat → Prop} {bp bb : Nat} {Fp Fb : Nat → Prop} {Tp Tb : Int → Option Nat} (h : IdxIn B w g c S F bp bb Fp Fb Tp Tb) (hB : B ≤ w.heap.size) (id p : Int) {w1 : World} {Fp' : Nat → Prop} {Tp' : Int → Option Nat}
    (h1 : Half w1 bp (c + 1) (fun a b => S a b ∨ (a = id ∧ b = p)) Fp' Tp') (k1 : Kept Fp w w1) (f1 : ∀ b, Fp' b → Fp b ∨ w.heap.size ≤ b) :
    Half w1 bb c (fun p id => S id p) Fb Tb ∧ (w1.cell? ⟨g, 1, none⟩ = some (.map (some bb))) ∧
    ∀ w2 Fb' Tb', Half w2 bb (c + 1) (fun a b => S b a ∨ (a = p ∧ b = id)) Fb' Tb' → Kept Fb w1 w2 → (∀ b, Fb' b → Fb b ∨ w1.heap.size ≤ b) →
      ∃ F', Idx B w2 g (c + 1) (fun a b => S a b ∨ (a = id ∧ b = p)) F' ∧ Kept F w w2 ∧ ∀ b, F' b → F b ∨ w.heap.size ≤ b := by
  have hgl := h.lt g h.gF
  have hg1 : w1.heap[g]? = w.heap[g]? := k1.block g hgl h.gp
  refine ⟨h.bl.move (fun b hb => k1.block b (h.bl.lt b hb) (fun hp => h.apart b hp hb)) k1.size, ?_, fun w2 Fb' Tb' h2 k2 f2 => ?_⟩
  · rw [World.cell?_of_block (a := ⟨g, 1, none⟩) hg1]; exact h.cells.2
  · have hs1 := k1.size
    have hs2 := k2.size
    have hp2 : ∀ b, Fp' b → w2.heap[b]? = w1.heap[b]? := fun b hb => k2.block b (h1.lt b hb) (fun hf => by
      rcases f1 b hb with h' | h'
      · exact h.apart b h' hf
      · have := h.bl.lt b hf; omega)
    refine ⟨(fun b => F b ∨ (w.heap.size ≤ b ∧ b < w2.heap.size)), ⟨bp, bb, Fp', Fb', Tp', Tb', ?_, h1.move hp2 hs2, h2.congr (fun a b => by constructor <;> (rintro (h | ⟨h, h'⟩); exact .inl h; exact .inr ⟨h', h⟩)), fun b hb hb' => ?_, fun hg => ?_, fun hg => ?_, .inl h.gF, fun b hb => ?_, fun b hb => ?_, fun b hb => ?_, fun b hb => ?_⟩, ?_, fun b hb => ?_⟩
    · rw [k2.block g (by omega) h.gb, hg1]; exact h.hdr
    · rcases f2 b hb' with h' | h'
      · rcases f1 b hb with h'' | h''
        · exact h.apart b h'' h'
        · have := h.bl.lt b h'; omega
      · have := h1.lt b hb; omega
    · rcases f1 g hg with h' | h'
      · exact h.gp h'
      · omega
    · rcases f2 g hg with h' | h'
      · exact h.gb h'
      · omega
    · rcases f1 b hb with h' | h'
      · exact .inl (h.pF b h')
      · exact .inr ⟨h', by have := h1.lt b hb; omega⟩
    · rcases f2 b hb with h' | h'
      · exact .inl (h.bF b h')
      · exact .inr ⟨by omega, h2.lt b hb⟩
    · rcases hb with h' | h'
      · exact h.base b h'
      · omega
    · rcases hb with h' | h'
      · have := h.lt b h'; omega
      · exact h'.2
    · exact (k1.mono h.pF).trans (k2.mono h.bF) (fun x hx => .inl hx)
    · rcases hb with h' | h'
      · exact .inl h'
      · exact .inr h'.1
set_option maxHeartbeats 1600000 in
theorem add_calls {B : Nat} {w : World} {g c : Nat} {S : Int → Int → Prop} {F : Nat → Prop} (h : Idx B w g c S F) (hB : B ≤ w.heap.size) (hc : c ≤ 50000) (id : Int) (hid : IntOk id) (zs : List Int) (hz : ∀ x ∈ zs, IntOk x) (hzl : zs.length ≤ 50000) (a : Option Addr) (cap : Nat) (hr : RowAt w F (.slice a zs.length cap) zs) :
    Calls Try.prog 8 #[.pointer (some ⟨g, 0, none⟩), .int .i64 id, .slice a zs.length cap] w (AddPost B w g (c + zs.length) (fun a b => S a b ∨ (a = id ∧ b ∈ zs)) F) := by
  have H := Lib.hid h
  have HR := Lib.hid hr
  clear h hr
  go_enter Try.func8, Try.ntmps8
  go_wp2
  go_loopw [12] (fun iv wr => AddRel B w g c S F id zs iv wr) (fun iv _ => zs.length - (intOf iv).toNat)
  case atStart => exact ⟨0, Nat.zero_le _, rfl, F, H.out.congr (fun a b => by simp), Kept.refl _ _, fun b hb => .inl hb⟩
  case round =>
    obtain ⟨k, hk, rfl, F', hI, hK, hF⟩ := hrel
    have hbw := hK.size
    by_cases hlt : k < zs.length
    · obtain ⟨bp, bb, Fp, Fb, Tp, Tb, hin⟩ := hI
      have hr' := HR.out.kept hK hF
      obtain ⟨gr, o, c', hv, _, _, hcs⟩ := hr'.2.resolve_left (fun h => by rw [h] at hlt; simp at hlt)
      simp only [Value.slice.injEq] at hv
      obtain ⟨rfl, _, rfl⟩ := hv
      have hck := hcs k hlt
      obtain ⟨e0, e1⟩ := hin.cells
      have hzk : IntOk (zs.getD k 0) := hz _ (by rw [List.getD_eq_getElem?_getD, List.getElem?_eq_getElem hlt]; simp)
      have htk : zs.take (k + 1) = zs.take k ++ [zs.getD k 0] := by
        rw [List.take_succ_eq_append_getElem hlt, List.getD_eq_getElem?_getD, List.getElem?_eq_getElem hlt]; rfl
      generalize zs.getD k 0 = p at *
      have hp1 := put_calls hin.pg (by omega) hid hzk
      have ho := fun w1 Fp' Tp' => add_one hin (by omega) id p (w1 := w1) (Fp' := Fp') (Tp' := Tp')
      have HIN := Lib.hid hin
      have HP1 := Lib.hid hp1
      have HO := Lib.hid ho
      have HK := Lib.hid hK
      have HFF := Lib.hid hF
      have HT := Lib.hid htk
      have hk1 : (k : Int) < zs.length := by omega
      have hk0 : (0 : Int) ≤ k := Int.natCast_nonneg _
      clear hin hp1 ho hK hF htk hcs hr'
      go_wp2_with fail
      refine HP1.out.mono ?_
      rintro e w1 ⟨rfl, Fp', Tp', h1, k1, f1⟩
      obtain ⟨hb1, e1', hfin⟩ := HO.out w1 Fp' Tp' h1 k1 f1
      have HB1 := Lib.hid hb1
      have HFIN := Lib.hid hfin
      clear h1 k1 f1 hb1 hfin
      go_wp2_with fail
      refine (put_calls HB1.out (by omega) hzk hid).mono ?_
      rintro e w2 ⟨rfl, Fb', Tb', h2, k2, f2⟩
      obtain ⟨F2, hI2, hK2, hF2⟩ := HFIN.out w2 Fb' Tb' h2 k2 f2
      have HI2 := Lib.hid hI2
      have HK2 := Lib.hid hK2
      have HF2 := Lib.hid hF2
      clear h2 k2 f2 hI2 hK2 hF2
      go_wp2_with fail
      go_roundw
      case rel =>
        refine ⟨k + 1, by omega, by go_num, F2, HI2.out.congr (fun a b => ?_), HK.out.trans HK2.out HFF.out, fun b hb => ?_⟩
        · rw [HT.out]
          simp only [List.mem_append, List.mem_singleton]
          constructor
          · rintro ((h | h) | h)
            · exact .inl h
            · exact .inr ⟨h.1, .inl h.2⟩
            · exact .inr ⟨h.1, .inr h.2⟩
          · rintro (h | ⟨h, h' | h'⟩)
            · exact .inl (.inl h)
            · exact .inl (.inr ⟨h, h'⟩)
            · exact .inr ⟨h, h'⟩
        · rcases HF2.out b hb with h | h
          · exact HFF.out b h
          · exact .inr (by omega)
      case measure => simp [intOf]; omega
    · obtain rfl : k = zs.length := by omega
      rw [List.take_length] at hI
      have HI := Lib.hid hI
      have HK := Lib.hid hK
      have HFF := Lib.hid hF
      clear hI hK hF
      go_wp2_with fail
      go_end0
      exact ⟨rfl, F', HI.out, HK.out, HFF.out⟩
/-! ### read -/
theorem of_calls {B : Nat} {w : World} {g c : Nat} {S : Int → Int → Prop} {F : Nat → Prop} (h : Idx B w g c S F) (hc : c ≤ 100000) (p : Int) (hp : IntOk p) :
    Calls Try.prog 12 #[.pointer (some ⟨g, 0, none⟩), .int .i64 p] w (RisePost w (fun id => S id p)) := by
  obtain ⟨bp, bb, Fp, Fb, Tp, Tb, h⟩ := h
  have hs := half_sorted h.bl hc p
  have hg := h.bl.tab.get hp
  obtain ⟨e0, e1⟩ := h.cells
  have H := Lib.hid hs
  clear hs h
  go_enter Try.func12, Try.ntmps12
  go_wp2_with (go_at_call 26; refine H.out.mono ?_; rintro e w1 ⟨v, zs, rfl, h1, h2, h3, h4, h5⟩)
  go_ret
  exact ⟨v, zs, rfl, h1, h2, h3, h4, h5⟩
theorem pages_calls {B : Nat} {w : World} {g c : Nat} {S : Int → Int → Prop} {F : Nat → Prop} (h : Idx B w g c S F) (hc : c ≤ 100000) (id : Int) (hp : IntOk id) :
    Calls Try.prog 22 #[.pointer (some ⟨g, 0, none⟩), .int .i64 id] w (RisePost w (fun p => S id p)) := by
  obtain ⟨bp, bb, Fp, Fb, Tp, Tb, h⟩ := h
  have hs := half_sorted h.pg hc id
  have hg := h.pg.tab.get hp
  obtain ⟨e0, e1⟩ := h.cells
  have H := Lib.hid hs
  clear hs h
  go_enter Try.func22, Try.ntmps22
  go_wp2_with (go_at_call 26; refine H.out.mono ?_; rintro e w1 ⟨v, zs, rfl, h1, h2, h3, h4, h5⟩)
  go_ret
  exact ⟨v, zs, rfl, h1, h2, h3, h4, h5⟩
theorem all_calls {B : Nat} {w : World} {g c : Nat} {S : Int → Int → Prop} {F : Nat → Prop} (h : Idx B w g c S F) (hc : c ≤ 100000) :
    Calls Try.prog 14 #[.pointer (some ⟨g, 0, none⟩)] w (RisePost w (fun p => ∃ id, S id p)) := by
  obtain ⟨bp, bb, Fp, Fb, Tp, Tb, h⟩ := h
  have hs := sortedB_calls bb c Tb w h.bl.tab (by omega)
  have hd := h.bl.dom
  obtain ⟨e0, e1⟩ := h.cells
  have H := Lib.hid hs
  have HD := Lib.hid hd
  clear hs h hd
  go_enter Try.func14, Try.ntmps14
  go_wp2_with (first | (go_at_call 29; refine (keysB_calls _ _).mono ?_; rintro e w' ⟨rfl, rfl⟩) | (go_at_call 28; refine H.out.mono ?_; rintro e w1 ⟨v, zs, rfl, h1, h2, h3, h4, h5⟩; have H3 := Lib.hid h3; clear h3))
  go_ret
  exact ⟨v, zs, rfl, ownsRow_base_a h1 (by simp), h2, fun x => (H3.out x).trans (HD.out x), ((Below.refl _ w).alloc (Nat.le_refl _) _).trans (h4.mono (by simp)), h5⟩
def LenPost (w : World) (S : Int → Prop) (e : Ending) (w' : World) : Prop := w = w' ∧ ∃ m : Nat, e = .returned (.int .i64 m) ∧ ∀ zs, Rise zs → (∀ x, x ∈ zs ↔ S x) → m = zs.length
theorem len_calls {B : Nat} {w : World} {g c : Nat} {S : Int → Int → Prop} {F : Nat → Prop} (h : Idx B w g c S F) :
    Calls Try.prog 16 #[.pointer (some ⟨g, 0, none⟩)] w (LenPost w (fun id => ∃ p, S id p)) := by
  obtain ⟨bp, bb, Fp, Fb, Tp, Tb, h⟩ := h
  obtain ⟨m, hm, hz⟩ := h.pg.tab.len 3
  have hd := h.pg.dom
  obtain ⟨e0, e1⟩ := h.cells
  have HZ := Lib.hid hz
  have HD := Lib.hid hd
  clear h hz hd
  go_enter Try.func16, Try.ntmps16
  go_wp2
  go_ret
  exact ⟨rfl, m, rfl, fun zs h1 h2 => HZ.out zs h1 (fun x => (h2 x).trans (HD.out x).symm)⟩
/-! ### of none -/
theorem of_nil (p : Int) (w : World) : Calls Try.prog 12 #[.pointer none, .int .i64 p] w fun e w' => e = .returned (.slice none 0 0) ∧ w = w' := by
  go_enter Try.func12, Try.ntmps12
  go_wp2
  go_ret
  exact ⟨rfl, rfl⟩
theorem pages_nil (p : Int) (w : World) : Calls Try.prog 22 #[.pointer none, .int .i64 p] w fun e w' => e = .returned (.slice none 0 0) ∧ w = w' := by
  go_enter Try.func22, Try.ntmps22
  go_wp2
  go_ret
  exact ⟨rfl, rfl⟩
theorem all_nil (w : World) : Calls Try.prog 14 #[.pointer none] w fun e w' => e = .returned (.slice none 0 0) ∧ w = w' := by
  go_enter Try.func14, Try.ntmps14
  go_wp2
  go_ret
  exact ⟨rfl, rfl⟩
theorem len_nil (w : World) : Calls Try.prog 16 #[.pointer none] w fun e w' => e = .returned (.int .i64 0) ∧ w = w' := by
  go_enter Try.func16, Try.ntmps16
  go_wp2
  go_ret
  exact ⟨rfl, rfl⟩
theorem drop_nil (p : Int) (w : World) : Calls Try.prog 10 #[.pointer none, .int .i64 p] w fun e w' => e = .returned (.bool false) ∧ w = w' := by
  have hp := fun w' => pages_nil p w'
  have H := Lib.hid hp
  clear hp
  go_enter Try.func10, Try.ntmps10
  go_wp2_with (go_at_call 22; refine (H.out _).mono ?_; rintro e w' ⟨rfl, rfl⟩)
  refine wp_loop_once ?_
  go_wp2
  go_ret
  exact ⟨rfl, rfl⟩
def HitNilPost (w : World) (e : Ending) (w' : World) : Prop := ∃ a c, e = .returned (.slice a 0 c) ∧ Below w.heap.size w w'
theorem hit_nil (a : Option Addr) (n c : Nat) (w : World) : Calls Try.prog 20 #[.pointer none, .slice a n c] w (HitNilPost w) := by
  have hp := fun w' => all_nil w'
  have hmm := @run_makeMap Try.prog
  have hs := sorted_calls w.heap.size 0 (fun _ => False) _ (SetAt.made w) (by omega)
  have H := Lib.hid hp
  have HS := Lib.hid hs
  clear hp hs
  go_enter Try.func20, Try.ntmps20
  go_wp2_with (go_at_call 14; refine (H.out _).mono ?_; rintro e w' ⟨rfl, rfl⟩)
  refine wp_loop_once ?_
  go_wp2_with (go_at_call 26; refine HS.out.mono ?_; rintro e w1 ⟨v, zs, rfl, h1, h2, h3, h4, h5⟩)
  have hz : zs = [] := by
    cases zs with
    | nil => rfl
    | cons x t => exact absurd ((h3 x).1 (by simp)) (by simp)
  have hv := h5 hz
  subst hv
  go_ret
  exact ⟨none, 0, rfl, ((Below.refl _ w).alloc (Nat.le_refl _) _).trans (h4.mono (by simp))⟩
end Go.Proofs.Ytnbbhgpflanhaaa
