/- string(bytes); law 20's alive. -/
import Derived.Test.YtlgbnjaoadlolaaDoorP9
import Derived.Test.YtlgbnjaoadlolaaDoorP10
import Derived.Deep.RegionWith
import Derived.Laws.IdiomStrings
namespace Go.Proofs.YtlgbnjaoadlolaaDoor
open Go.RowKit

/-- The string of bytes. -/
abbrev strB (l : List UInt8) : Value := .string ⟨l.toArray⟩
theorem conv_any {w : World} {a : Option Addr} {l : List UInt8} (c : Nat) (h : BytesAt w a l) : (convert 22 9 (.slice a l.length c)).run Tryd.prog w = .ok (strB l) w := by
  cases a with
  | none =>
    have hl : l = [] := by
      cases l with
      | nil => rfl
      | cons x r =>
        obtain ⟨b, off, hn, _⟩ := h.get (i := 0) rfl
        cases hn
    subst hl
    have hl := @run_convert_bytes_string Tryd.prog
    exact (hl w 22 9 5 none 0 c (by kernel_rfl) (by kernel_rfl) (by kernel_rfl)).trans rfl
  | some a =>
    refine run_convert_bytes_back (P := Tryd.prog) w 22 9 5 a c l (by kernel_rfl) (by kernel_rfl) (by kernel_rfl) fun j hj => ?_
    obtain ⟨b, off, hn, _, hc⟩ := h.get (List.getElem?_eq_getElem hj)
    cases hn
    have ha : (⟨b, off, none⟩ : Addr).add j = ⟨b, off + j, none⟩ := by simp [Addr.add]
    rw [ha]
    exact hc
abbrev exE : Ent := ⟨1, 2, 0, 0, ⟨0, 0, 0⟩, 0, [], 0⟩
theorem exE_askF : askF 2 exE = true := by decide
theorem exE_askB : askB 2 exE = [2, 1, 2] := by
  have h1 : numB 1 = [1] := numB_small (by decide)
  have h2 : numB 2 = [2] := numB_small (by decide)
  show numB 2 ++ (numB 1 ++ (numB 2 ++ [])) ++ [] = _
  rw [h1, h2]
  rfl
theorem exE_ok (w : World) : (⟨exE, none, 0⟩ : EntM).ok Any w := ⟨⟨fun i s hi => by simp at hi, fun x hx => by cases hx⟩, fun _ => rfl, Nat.le_refl _, Nat.zero_le _, by decide⟩

set_option maxRecDepth 100000 in
set_option maxHeartbeats 1600000 in
theorem alive20_any {G : List Nat} {E : Nat → Addr} (w : World) (hE : EAt G E w) (i0 : 0 ∈ G) :
    Calls Tryd.prog 7 #[] w fun e w' => e = .returned (.bool true) ∧ Gr w w' := by
  have hp := putAsk_yes 2 exE none 0 w (exE_ok w) hE i0 exE_askF
  rw [exE_askB] at hp
  have hr : ∀ W : World, Calls Tryd.prog 24 #[.slice (some ⟨W.heap.size, 0, none⟩) 3 3] (W.alloc (.cells #[.int .u8 2, .int .u8 1, .int .u8 2] 5)).drew fun e w' => ∃ a c, e = .returned (.slice a (frameB [2, 1, 2]).length c) ∧ Own (W.alloc (.cells #[.int .u8 2, .int .u8 1, .int .u8 2] 5)).drew w' a c (frameB [2, 1, 2]) := fun W =>
    rframe_any _ (some ⟨W.heap.size, 0, none⟩) 3 [2, 1, 2] (BytesAt.gr (recs_alloc byteC_len W [2, 1, 2] _ _ rfl) ((Gr.refl _).drew)) (fun h => by cases h) (by decide)
  obtain ⟨L, hL⟩ : ∃ L, L = frameB [2, 1, 2] := ⟨_, rfl⟩
  rw [← hL] at hp hr
  replace hp := Lib.hid hp
  replace hr := Lib.hid hr
  replace hL := Lib.hid hL
  go_enter Tryd.func7, Tryd.ntmps7
  go_wp2_with fail
  refine hp.out.mono ?_
  rintro e w1 ⟨a1, c1, rfl, ho⟩
  obtain ⟨-, hb, -, -, g1⟩ := ho
  have q0 := conv_any c1 (hb.gr ((Gr.refl w1).drew))
  have q1 := fun o => conv_any c1 (hb.gr (((Gr.refl w1).alloc o).drew))
  replace hb := Lib.hid hb
  go_upto_region 2 with fail
  go_region_with (go_at_call 24; refine (hr.out _).mono ?_; rintro e w3 ⟨a3, c3, rfl, ho3⟩; have g3 : Gr w1 w3 := (((Gr.refl w1).alloc _).drew).trans ho3.2.2.2.2; have q2 := conv_any c3 ho3.2.1; have q3 := conv_any c1 (hb.out.gr g3); replace ho3 := Lib.hid ho3)
  all_goals (go_wp2_with fail; go_ret; exact ⟨rfl, g1.trans g3⟩)
end Go.Proofs.YtlgbnjaoadlolaaDoor
