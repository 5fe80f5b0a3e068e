/- Walks: does the program answer at all? -/
import Derived.Test.YtnbbhgpflanhaaaDoorRowN
import Derived.Test.YtnbbhgpflanhaaaDoorScanM
import Derived.Test.YtnbbhgpflanhaaaDoorOf
namespace Go.Proofs.YtnbbhgpflanhaaaDoor
open Go.RowKit
set_option maxRecDepth 100000
set_option linter.unusedVariables false
def awB : List Int := [147, 0, 160, 0, 227, 158, 0, 254]
theorem aw_row : pathS (awB ++ List.replicate (64 - awB.length) 0) true (mostS 9) 2147483648 [] = [⟨2147483648, ⟨19, 1, 0, 0, 10, 0⟩, 2147483652⟩, ⟨2147483652, ⟨6, 0, 1, 0, 4294967292, 0⟩, 2147483656⟩] := by decide +kernel
theorem aw_can : canS ⟨19, 1, 0, 0, 10, 0⟩ = true := by decide +kernel
theorem aw_bytes : Bytes awB := by intro x hx; simp only [awB, List.mem_cons, List.not_mem_nil, or_false] at hx; omega
theorem aw_reads (w : World) : ReadsB (w.alloc (.cells #[.int .u8 147, .int .u8 0, .int .u8 160, .int .u8 0, .int .u8 227, .int .u8 158, .int .u8 0, .int .u8 254] 5)) ⟨w.heap.size, 0, none⟩ awB := by
  refine ⟨fun i hi => ?_, aw_bytes⟩
  rw [add_at]
  have hi : i < 8 := hi
  obtain rfl | rfl | rfl | rfl | rfl | rfl | rfl | rfl : i = 0 ∨ i = 1 ∨ i = 2 ∨ i = 3 ∨ i = 4 ∨ i = 5 ∨ i = 6 ∨ i = 7 := by omega
  all_goals simp [awB]
set_option maxHeartbeats 6400000 in
theorem awake_calls (w : World) (hF : FormsAt w) :
    Calls Tryd.prog 9 #[] w fun e w' => e = .returned (.bool true) ∧ Below w.heap.size w w' := by
  have hnew := new_calls 64 (by omega) (by omega) (by omega) w
  have HN := Lib.hid hnew
  clear hnew
  go_enter Tryd.func9, Tryd.ntmps9
  go_wp2_with (go_at_call 25; refine HN.out.mono ?_; rintro e w1 ⟨g, gb, gw, gg, rfl, hr⟩)
  have hdr : (w1.alloc (.cells #[.int .u8 147, .int .u8 0, .int .u8 160, .int .u8 0, .int .u8 227, .int .u8 158, .int .u8 0, .int .u8 254] 5)).cell? ⟨g, 0, none⟩ = some (.slice (some ⟨gb, 0, none⟩) 64 64) := by
    have hg : g < w1.heap.size := (Array.getElem?_eq_some_iff.1 hr.hdr).1
    rw [(bl_alloc (Below.refl w1.heap.size w1) _).cell (p := ⟨g, 0, none⟩) hg]
    simp [World.cell?, hr.hdr]
  have hblk : (w1.alloc (.cells #[.int .u8 147, .int .u8 0, .int .u8 160, .int .u8 0, .int .u8 227, .int .u8 158, .int .u8 0, .int .u8 254] 5)).heap[gb]? = some (.cells (madeCells #[.int .u8 0] 64) 5 (0, 0)) := by
    have hg : gb < w1.heap.size := (Array.getElem?_eq_some_iff.1 hr.byt).1
    rw [(bl_alloc (Below.refl w1.heap.size w1) _).block gb hg]
    exact hr.byt
  have hfill := fill_calls g gb 8 64 ⟨w1.heap.size, 0, none⟩ awB (madeCells #[.int .u8 0] 64) _ (by decide) (size_madeCells _ _) hdr hblk (aw_reads w1)
  have hnr : NewRam w (w1.alloc (.cells #[.int .u8 147, .int .u8 0, .int .u8 160, .int .u8 0, .int .u8 227, .int .u8 158, .int .u8 0, .int .u8 254] 5)) 64 g gb gw gg :=
    ⟨by rw [(bl_alloc (Below.refl w1.heap.size w1) _).block g (Array.getElem?_eq_some_iff.1 hr.hdr).1]; exact hr.hdr, hblk,
     by rw [(bl_alloc (Below.refl w1.heap.size w1) _).block gw (Array.getElem?_eq_some_iff.1 hr.wat).1]; exact hr.wat,
     by rw [(bl_alloc (Below.refl w1.heap.size w1) _).block gg (Array.getElem?_eq_some_iff.1 hr.gen).1]; exact hr.gen, hr.new, hr.ne, bl_alloc hr.below _⟩
  have hend := hnr.filled awB aw_bytes (by decide) (by omega)
  have hbe := bl_setRow hnr.below hnr.new.2.1 (u8s awB ++ (madeCells #[.int .u8 0] 64).toList.drop awB.length).toArray
  generalize hW2 : (w1.alloc (.cells #[.int .u8 147, .int .u8 0, .int .u8 160, .int .u8 0, .int .u8 227, .int .u8 158, .int .u8 0, .int .u8 254] 5)).setRow gb (u8s awB ++ (madeCells #[.int .u8 0] 64).toList.drop awB.length).toArray = W2 at *
  have hrow := row_calls g gb _ 2147483648 9 (by omega) (by omega) W2 (hF.below hbe) hend
  rw [aw_row] at hrow
  have HFi := Lib.hid hfill
  have HRo := Lib.hid hrow
  have HB := Lib.hid hbe
  have hb8 : awB.length = 8 := rfl
  rw [hb8] at HFi
  clear hfill hrow hbe hend hnr hblk hdr hr hb8 hW2
  have hF2 : ∀ W, Below W2.heap.size W2 W → FormsAt W := fun W h => hF.below (HB.out.trans (h.mono HB.out.size))
  have HF2 := Lib.hid hF2
  clear hF2
  go_wp2_with (first | (go_at_call 26; refine HFi.out.mono ?_; rintro e w' ⟨rfl, rfl⟩) | (go_at_call 12; refine HRo.out.mono ?_; rintro e w3 ⟨v, rfl, ho3, hb3⟩; obtain ⟨a3, c3, hv3⟩ := ho3.slice; subst hv3; obtain ⟨g3, hg3, hgl, hgB, c0, c1, c2, c3', c4, c5, c6, c7⟩ := ho3.eight 1 (by simp); obtain ⟨g4, hg4, hgl4, hgB4, d0, d1, d2, d3, d4, d5, d6, d7⟩ := ho3.eight 0 (by simp); subst hg3; simp only [Option.some.injEq, Addr.mk.injEq, and_true] at hg4; subst hg4; simp at c0 c1 c2 c3' c4 c5 c6 c7 d0 d1 d2 d3 d4 d5 d6 d7; have HB3 := Lib.hid hb3; clear ho3 hb3) | (go_at_call 22; refine (can_calls 19 1 0 0 10 0 (by omega) (by omega) _ (by exact HF2.out _ HB3.out)).mono ?_; rw [aw_can]; rintro e w5 ⟨rfl, hb5⟩))
  go_ret
  exact ⟨rfl, HB.out.trans ((bl_then HB3.out hb5).mono HB.out.size)⟩
end Go.Proofs.YtnbbhgpflanhaaaDoor
