/- almonernum: Bytes, Kept, Apart. -/
import Derived.Test.YtlgbnjaoadlolaaDoorP26
import Derived.Test.YtlgbnjaoadlolaaDoorP15
namespace Go.Proofs.YtlgbnjaoadlolaaDoor
open Go.RowKit

/-- The marked room behind a copy. -/
def marks : List UInt8 := [201, 202, 203, 204, 205, 206]
theorem own_make (w : World) (n : Nat) (hn : n ≤ 140737488355328) : ∃ w', (Instr.makeSlice 22 (.int .i64 0) (.int .i64 (n : Int))).run Tryd.prog w = .ok (.slice (some ⟨w.heap.size, 0, none⟩) 0 n) w' ∧ Own w w' (some ⟨w.heap.size, 0, none⟩) n [] := by
  obtain ⟨i5, hi, hz0, hz1, hz2⟩ := info_parts Tryd.infoU8
  obtain ⟨w', hr, ho, hg⟩ := run_make_own (P := Tryd.prog) w w.heap.size 22 5 i5 _ 1 Tryd.underlying22 hi hz0 hz1 .i64 .i64 n (by rw [hz2]; omega) (by unfold maxLen; omega) (Nat.le_refl _)
  refine ⟨w', hr, ?_⟩
  obtain ⟨a, c, hv, hO⟩ := Own.of (l := []) (by simpa using ho) ((Gr.refl w).grown hg (fun k h => by cases h))
  cases hv
  exact hO
theorem marks_at {w : World} {n : Nat} (hn : w.heap.size = n) : BytesAt (w.alloc (.cells #[.int .u8 201, .int .u8 202, .int .u8 203, .int .u8 204, .int .u8 205, .int .u8 206] 5)) (some ⟨n, 0, none⟩) marks := recs_alloc1 byteC_len w hn _ _ _ rfl
set_option maxRecDepth 100000 in
set_option maxHeartbeats 1600000 in
theorem nBytes_any (w : World) (a : Option Addr) (c : Nat) (l : List UInt8) (h : BytesAt w a l) (hc : a = none → c = 0) (hl : l.length ≤ 140737488351232) :
    Calls Tryd.prog 8 #[.slice a l.length c] w fun e w' => ∃ g c', e = .returned (.slice (some ⟨g, 0, none⟩) l.length c') ∧ Own w w' (some ⟨g, 0, none⟩) c' (l ++ marks) ∧ l.length + 6 ≤ c' := by
  obtain ⟨n, hn⟩ : ∃ n, l.length = n := ⟨_, rfl⟩
  rw [hn]
  have hn2 : n ≤ 140737488351232 := by omega
  obtain ⟨w1, hmk, hO1⟩ := own_make w (n + 6) (by omega)
  rw [show ((n + 6 : Nat) : Int) = (n : Int) + 6 by omega] at hmk
  have hb1 := h.gr hO1.2.2.2.2
  obtain ⟨L, hL⟩ : ∃ L, L = l ++ marks := ⟨_, rfl⟩
  have hLl : L.length = n + 6 := by rw [hL, List.length_append, hn]; rfl
  rw [← hL]
  have hne : L ≠ [] := by intro e; rw [e] at hLl; simp at hLl
  replace hne := Lib.hid hne
  have hln := hn
  replace hn := Lib.hid hn
  replace hO1 := Lib.hid hO1
  replace hb1 := Lib.hid hb1
  replace hL := Lib.hid hL
  replace hLl := Lib.hid hLl
  replace h := Lib.hid h
  subst hln
  go_enter Tryd.func8, Tryd.ntmps8
  go_wp2_with (at_builtin; first | (refine wpList_app (W := w) rfl _ _ rfl (some ⟨w.heap.size, 0, none⟩) (l.length + 6) [] rfl hO1.out a c l rfl hb1.out hc (by simp; omega) ?_; intro a2 c2 w2 hO2 hg2; rw [List.nil_append] at hO2 ⊢; clear hg2; have hO3 := hO2.gr ((Gr.refl w2).alloc (.cells #[.int .u8 201, .int .u8 202, .int .u8 203, .int .u8 204, .int .u8 205, .int .u8 206] 5)); have hm3 := marks_at (w := w2) rfl; replace hO2 := Lib.hid hO2; replace hO3 := Lib.hid hO3; replace hm3 := Lib.hid hm3) | go_loud (refine wpList_app (W := w) rfl _ _ rfl a2 c2 l rfl hO3.out (some ⟨w2.heap.size, 0, none⟩) 6 marks rfl hm3.out (fun h => by cases h) (by show l.length + 6 ≤ _; omega) ?_; intro a4 c4 w4 hO4 hg4; clear hg4; rw [← hL.out] at hO4 ⊢; rw [hLl.out]; have hbk4 := Own.block hO4 hne.out; obtain ⟨g4, e4, hz3, hz4, hf4, hcap4⟩ := hbk4; subst e4; rw [hLl.out] at hcap4; replace hO4 := Lib.hid hO4))
  go_ret
  exact ⟨g4, c4, rfl, hO4.out, hcap4⟩
end Go.Proofs.YtlgbnjaoadlolaaDoor
