/- slices.Clone of bytes; wire.Writer.Done; desk.framed. -/
import Derived.Test.YtlgbnjaoadlolaaDoorP4
namespace Go.Proofs.YtlgbnjaoadlolaaDoor
open Go.RowKit

theorem Own.older {W W1 w : World} {a : Option Addr} {c : Nat} {l : List UInt8} (h : Own W1 w a c l) (g : Gr W W1) : Own W w a c l := by
  obtain ⟨h1, h2, h3, h4, h5⟩ := h
  refine ⟨⟨h1.1, ?_⟩, h2, h3, fun x hx => Nat.le_trans g.size (h4 x hx), g.trans h5⟩
  rcases h1.2 with hn | ⟨b, cap, cur, e1, e2, e3⟩
  · exact .inl hn
  · exact .inr ⟨b, cap, cur, e1, Nat.le_trans g.size e2, e3⟩

set_option maxRecDepth 100000 in
set_option maxHeartbeats 1600000 in
theorem cloneB_any (w : World) (a : Option Addr) (c : Nat) (l : List UInt8) (h : BytesAt w a l) (hc : a = none → c = 0) (hm : l.length ≤ 1000000) :
    Calls Tryd.prog 55 #[.slice a l.length c] w fun e w' => ∃ a' c', e = .returned (.slice a' l.length c') ∧ Own w w' a' c' l := by
  obtain ⟨i5, hi, hz0, hz1, hz2⟩ := info_parts Tryd.infoU8
  have hmm : l.length ≤ maxLen := by unfold maxLen; omega
  have n2 : l.length * 1 ≤ 140737488355328 := by omega
  have hnil := fun (w : World) a n c => Lib.run_eql_slice_nil (P := Tryd.prog) w 22 5 a n c 0 0 Tryd.underlying22
  cases a with
  | none =>
    obtain rfl := hc rfl
    obtain rfl : l = [] := by
      cases l with
      | nil => rfl
      | cons y r => obtain ⟨b, off, hh, _⟩ := h 0 y rfl; cases hh
    go_enter Tryd.func55, Tryd.ntmps55
    go_wp2_with fail
    go_ret
    exact ⟨none, 0, rfl, Own.nil w w (Gr.refl w)⟩
  | some ad =>
    replace h := Lib.hid h
    go_enter Tryd.func55, Tryd.ntmps55
    go_wp2_with (at_builtin; go_loud (refine wpList_copyN (k := 1) (enc := byteC) rfl _ _ 22 rfl 5 i5 _ 1 Tryd.underlying22 hi hz0 hz1 hz2 rfl (by decide) byteC_len byteC_one w.heap.size rfl rfl (some ad) c l rfl h.out hc hmm n2 ?_; intro v1 w1 hown g1))
    obtain ⟨a', c', rfl, ho⟩ := Own.of hown g1
    go_wp2_with fail
    go_ret
    exact ⟨a', c', rfl, ho⟩

set_option maxRecDepth 100000 in
set_option maxHeartbeats 1600000 in
theorem done_any (W w : World) (wb B : Nat) (L : List UInt8) (h : WrAt W w wb B L) (hm : L.length ≤ 1000000) :
    Calls Tryd.prog 49 #[.pointer (some ⟨wb, 0, none⟩)] w fun e w' => ∃ a c, e = .returned (.tuple #[.slice a L.length c, .nilIface]) ∧ Own w w' a c L := by
  obtain ⟨a, c, hb, ho, hwb, hwB, hax, _⟩ := h
  have c0 := hb.cell (i := 0) (v := .slice a L.length c) rfl
  have c1 := hb.cell (i := 1) (v := .bool false) rfl
  have hcl := cloneB_any w a c L ho.2.1 ho.2.2.1 hm
  replace hcl := Lib.hid hcl
  replace ho := Lib.hid ho
  replace hb := Lib.hid hb
  go_enter Tryd.func49, Tryd.ntmps49
  go_wp2_with fail
  refine hcl.out.mono ?_
  rintro e w1 ⟨a1, c1, rfl, h1⟩
  replace h1 := Lib.hid h1
  go_wp2_with fail
  go_ret2
  exact ⟨a1, c1, rfl, h1.out⟩

set_option maxRecDepth 100000 in
set_option maxHeartbeats 1600000 in
theorem framed_any (W w : World) (wb B : Nat) (L : List UInt8) (h : WrAt W w wb B L) (hm : L.length ≤ 32768) :
    Calls Tryd.prog 29 #[.pointer (some ⟨wb, 0, none⟩)] w fun e w' => ∃ a c, e = .returned (.tuple #[.slice a (frameB L).length c, .nilIface]) ∧ Own w w' a c (frameB L) := by
  have hd := done_any W w wb B L h (by omega)
  have hf := fun w1 a c (ho : Own w w1 a c L) => frame_any w1 a c L ho.2.1 ho.2.2.1 hm
  replace hd := Lib.hid hd
  replace hf := Lib.hid hf
  replace h := Lib.hid h
  go_enter Tryd.func29, Tryd.ntmps29
  go_wp2_with fail
  refine hd.out.mono ?_
  rintro e w1 ⟨a1, c1, rfl, h1⟩
  have h1 := Lib.hid h1
  go_wp2_with fail
  refine (hf.out w1 a1 c1 h1.out).mono ?_
  rintro e w2 ⟨a2, c2, rfl, h2⟩
  have h2 := Lib.hid h2
  go_wp2_with fail
  go_ret2
  exact ⟨a2, c2, rfl, h2.out.older h1.out.2.2.2.2⟩
end Go.Proofs.YtlgbnjaoadlolaaDoor
