/- almonerref04: Update, Sum, four, Frame. string(bytes); law 20's alive. -/
import Derived.Test.YtlgbnjaoadlolaaDoorP3
import Derived.Test.YtlgbnjaoadlolaaDoorP9
import Derived.Deep.RegionWith
import Derived.Laws.IdiomStrings
namespace Go.Proofs.YtlgbnjaoadlolaaDoor
open Go.RowKit

theorem bit1_odd {m : Nat} (hm : m < 4294967296) (h : m % 2 = 1) : bits .xor .u32 ((m : Int) / 2) 3988292384 = ((bit1 m : Nat) : Int) := by
  have := xor_u32 (a := m / 2) (b := poly) (by omega) (by decide)
  unfold bit1
  rw [if_pos h]
  exact this
theorem bit1_even {m : Nat} (h : ¬ m % 2 = 1) : (m : Int) / 2 = ((bit1 m : Nat) : Int) := by
  unfold bit1
  rw [if_neg h, Nat.xor_zero]
  rfl
set_option maxRecDepth 100000 in
set_option maxHeartbeats 1600000 in
theorem rupdate_any (a : Option Addr) (c : Nat) (l : List UInt8) (n : Nat) (hn : n < 4294967296) (w : World) (h : BytesAt w a l) (hm : l.length ≤ maxLen) :
    Calls Tryd.prog 63 #[.int .u32 n, .slice a l.length c] w fun e w' => e = .returned (.int .u32 (crcW n l)) ∧ w = w' := by
  have hmm := hm
  unfold maxLen at hmm
  replace h := Lib.hid h
  go_enter Tryd.func63, Tryd.ntmps63
  go_wp2_with fail
  go_loop [10, 0] (fun iv nv => ∃ k : Nat, k ≤ l.length ∧ iv = .int .i64 k ∧ nv = .int .u32 (crcW n (l.take k))) (fun iv _ => l.length - (intOf iv).toNat)
  case atStart => exact ⟨0, Nat.zero_le _, rfl, rfl⟩
  case round =>
    obtain ⟨k, hk, rfl, rfl⟩ := hrel
    by_cases hlt : k < l.length
    · obtain ⟨x, hx⟩ := get_some l k hlt
      obtain ⟨b, off, rfl, hb, c0⟩ := h.out.get hx
      have hc := x.toNat_lt
      have hw := crcW_lt (l.take k) hn
      have hs : crcW n (l.take (k + 1)) = upd (crcW n (l.take k)) x.toNat := by rw [take_snoc hx, crcW_snoc]
      generalize crcW n (l.take k) = m at *
      have e1 : bits .xor .u32 (m : Int) (x.toNat : Int) = ((m ^^^ x.toNat : Nat) : Int) := xor_u32 hw (by omega)
      have hz := Nat.xor_lt_two_pow (n := 32) hw (show x.toNat < 2 ^ 32 by omega)
      have hb8 := upd_ref hc m
      rw [← hb8] at hs
      generalize m ^^^ x.toNat = z at *
      replace hs := Lib.hid hs
      replace hx := Lib.hid hx
      replace hb8 := Lib.hid hb8
      go_wp2_with fail
      go_loop [7, 0] (fun iv nv => ∃ (j y : Nat), j ≤ 8 ∧ iv = .int .i64 j ∧ nv = .int .u32 y ∧ y < 4294967296 ∧ bitN (8 - j) y = bitN 8 z) (fun iv _ => 8 - (intOf iv).toNat)
      case atStart => exact ⟨0, z, by omega, rfl, rfl, hz, rfl⟩
      case round =>
        obtain ⟨j, y, hj, rfl, rfl, hy, he⟩ := hrel
        by_cases hjl : j < 8
        · have hjl2 : (j : Int) < 8 := by omega
          have hy2 := bit1_lt hy
          have he2 : bitN (8 - (j + 1)) (bit1 y) = bitN 8 z := by rw [← he, show 8 - j = 8 - (j + 1) + 1 by omega]; rfl
          replace he := Lib.hid he
          replace he2 := Lib.hid he2
          by_cases ho : y % 2 = 1
          · have v1 := bit1_odd hy ho
            have v2 : ((y : Int) % 2 == 1) = true := by simp; omega
            have v3 : (y : Int) % 2 = 1 := by omega
            replace ho := Lib.hid ho
            go_wp2_with fail
            go_round
            case rel => exact ⟨j + 1, bit1 y, by omega, by go_num, by first | rfl | rw [v1], hy2, he2.out⟩
            case measure => simp [intOf]; omega
          · have v1 := bit1_even ho
            have v2 : ((y : Int) % 2 == 1) = false := by simp; omega
            have v3 : (y : Int) % 2 = 0 := by omega
            replace ho := Lib.hid ho
            go_wp2_with fail
            go_round
            case rel => exact ⟨j + 1, bit1 y, by omega, by go_num, by first | rfl | rw [v1], hy2, he2.out⟩
            case measure => simp [intOf]; omega
        · have hj8 : j = 8 := by omega
          have hjb : decide ((j : Int) < 8) = false := decide_eq_false (by omega)
          rw [hj8] at he
          have hyz : y = bitN 8 z := he
          replace hyz := Lib.hid hyz
          replace hj8 := Lib.hid hj8
          replace he := Lib.hid he
          go_wp2_with fail
          go_round
          case rel => exact ⟨k + 1, by omega, by go_num, by rw [hs.out, hyz.out]⟩
          case measure => simp [intOf]; omega
    · have hall : l.take k = l := List.take_of_length_le (by omega)
      rw [hall]
      go_wp2_with fail
      go_ret
      exact ⟨rfl, rfl⟩
theorem rsum_any (a : Option Addr) (c : Nat) (l : List UInt8) (w : World) (h : BytesAt w a l) (hm : l.length ≤ maxLen) :
    Calls Tryd.prog 48 #[.slice a l.length c] w fun e w' => e = .returned (.int .u32 (crc l)) ∧ w = w' := by
  have hu := rupdate_any a c l 4294967295 (by omega) w h hm
  have hw := crcW_lt l (w := 4294967295) (by omega)
  unfold crc
  generalize crcW 4294967295 l = m at *
  have hv : bits .xor .u32 (m : Int) 4294967295 = ((4294967295 - m : Nat) : Int) := by
    have := xor_u32 (a := m) (b := 4294967295) hw (by omega)
    rw [not_xor hw] at this
    exact this
  replace hu := Lib.hid hu
  replace hv := Lib.hid hv
  go_enter Tryd.func48, Tryd.ntmps48
  go_wp2_with fail
  refine hu.out.mono ?_
  rintro e w2 ⟨rfl, rfl⟩
  go_wp2_with fail
  go_ret
  exact ⟨congrArg (fun v => Ending.returned (.int .u32 v)) hv.out, rfl⟩
theorem owns_lit (w : World) {n : Nat} {l : List UInt8} (hn : l.length = n) (cs : Array Value) (h : cs.toList = l.flatMap byteC) (hm : n ≤ 1000000) : (w.alloc (.cells cs 5)).ownsRow w.heap.size 5 1 (.slice (some ⟨w.heap.size, 0, none⟩) n n) l.length (l.flatMap byteC) := by
  subst hn
  have hl : (l.flatMap byteC).length = l.length := by rw [flat_len byteC_len, Nat.mul_one]
  have hcs : cs.size = l.length := by rw [← hl, ← h]; simp
  refine ⟨by rw [hl, Nat.mul_one], .inr ⟨w.heap.size, l.length, cs, rfl, Nat.le_refl _, heap_alloc_new w _, by omega, by unfold maxLen; omega, by omega, ?_⟩⟩
  rw [← h]
  exact List.take_of_length_le (by simp; omega)
set_option maxRecDepth 100000 in
set_option maxHeartbeats 1600000 in
theorem four_any (n : Nat) (hn : n < 4294967296) (w : World) :
    Calls Tryd.prog 47 #[.int .u32 n] w fun e w' => ∃ a c, e = .returned (.slice a (le32 n).length c) ∧ Own w w' a c (le32 n) := by
  have hcl := le32_cells hn
  replace hcl := Lib.hid hcl
  go_enter Tryd.func47, Tryd.ntmps47
  go_wp2_with fail
  go_ret
  have ho := owns_lit w (le32_len n) _ hcl.out (by decide)
  obtain ⟨a, c, hv, hO⟩ := Own.of ho ((Gr.refl w).alloc _)
  cases hv
  exact ⟨_, _, rfl, hO⟩

set_option maxRecDepth 100000 in
set_option maxHeartbeats 1600000 in
theorem rframe_any (w : World) (a : Option Addr) (c : Nat) (l : List UInt8) (h : BytesAt w a l) (hc : a = none → c = 0) (hl : l.length ≤ 32768) :
    Calls Tryd.prog 24 #[.slice a l.length c] w fun e w' => ∃ a' c', e = .returned (.slice a' (frameB l).length c') ∧ Own w w' a' c' (frameB l) := by
  obtain ⟨i5, hi, hz0, hz1, hz2⟩ := info_parts Tryd.infoU8
  have hp1 := four_any l.length (by omega) w
  obtain ⟨L2, hL2⟩ : ∃ L2, L2 = le32 l.length ++ l := ⟨_, rfl⟩
  have hL2l : L2.length = 4 + l.length := by rw [hL2, List.length_append, le32_len]
  have hsu := fun a1 c1 w1 (hb : BytesAt w1 a1 L2) => rsum_any a1 c1 L2 w1 hb (by unfold maxLen; omega)
  have hp2 := fun w1 => four_any (crc L2) (crc_lt _) w1
  obtain ⟨L3, hL3⟩ : ∃ L3, L3 = L2 ++ le32 (crc L2) := ⟨_, rfl⟩
  have hfr : L3 = frameB l := by rw [hL3, hL2]; rfl
  rw [← hfr]
  have n1 : (le32 l.length).length + l.length ≤ maxLen := by rw [le32_len]; unfold maxLen; omega
  have n2 : ((le32 l.length).length + l.length) * 1 ≤ 140737488355328 := by rw [le32_len]; omega
  have m1 : L2.length + (le32 (crc L2)).length ≤ maxLen := by rw [le32_len]; unfold maxLen; omega
  have m2 : (L2.length + (le32 (crc L2)).length) * 1 ≤ 140737488355328 := by rw [le32_len]; omega
  replace hp1 := Lib.hid hp1
  replace hp2 := Lib.hid hp2
  replace hsu := Lib.hid hsu
  replace h := Lib.hid h
  replace hL2 := Lib.hid hL2
  replace hL3 := Lib.hid hL3
  replace hfr := Lib.hid hfr
  replace hL2l := Lib.hid hL2l
  go_enter Tryd.func24, Tryd.ntmps24
  go_wp2_with fail
  refine hp1.out.mono ?_
  rintro e w1 ⟨a1, c1, rfl, ho1⟩
  obtain ⟨ow, br, bn, bb, g1⟩ := ho1
  have n3 := g1.size
  have hs1 := h.out.gr g1
  replace br := Lib.hid br
  replace bb := Lib.hid bb
  replace bn := Lib.hid bn
  replace hs1 := Lib.hid hs1
  go_wp2_with (at_builtin; go_loud (refine wpList_append_recs (k := 1) (enc := byteC) rfl _ _ 22 rfl w.heap.size 5 i5 _ 1 Tryd.underlying22 hi hz0 hz1 hz2 rfl (by decide) byteC_len byteC_one (.slice a1 (le32 l.length).length c1) (le32 l.length) rfl ow a c l rfl hs1.out hc n1 n2 n3 ?_; intro v2 w2 hown2 hgr2; rw [← hL2.out] at hown2; have g2 : Gr w w2 := g1.grown hgr2 (own_block ow); obtain ⟨a2, c2, hv2, ho2⟩ := Own.of hown2 g2; subst hv2; have hb2 := ho2.2.1; replace ho2 := Lib.hid ho2; replace hb2 := Lib.hid hb2; replace hown2 := Lib.hid hown2))
  refine (hsu.out a2 c2 w2 hb2.out).mono ?_
  rintro e w3 ⟨rfl, rfl⟩
  go_wp2_with fail
  refine (hp2.out w2).mono ?_
  rintro e w4 ⟨a4, c4, rfl, ho4⟩
  have hO := ho2.out.gr ho4.2.2.2.2
  obtain ⟨ow5, br5, bn5, bb5, g5⟩ := hO
  have n5 := g5.size
  have hb4 := ho4.2.1
  have hc4 := ho4.2.2.1
  replace ho4 := Lib.hid ho4
  replace br5 := Lib.hid br5
  replace bb5 := Lib.hid bb5
  replace bn5 := Lib.hid bn5
  replace hb4 := Lib.hid hb4
  go_wp2_with (at_builtin; go_loud (refine wpList_append_recs (k := 1) (enc := byteC) rfl _ _ 22 rfl w.heap.size 5 i5 _ 1 Tryd.underlying22 hi hz0 hz1 hz2 rfl (by decide) byteC_len byteC_one (.slice a2 L2.length c2) L2 rfl ow5 a4 c4 (le32 (crc L2)) rfl hb4.out hc4 m1 m2 n5 ?_; intro v6 w6 hown6 hgr6; rw [← hL3.out] at hown6; have g6 : Gr w w6 := g5.grown hgr6 (own_block ow5); obtain ⟨a6, c6, hv6, ho6⟩ := Own.of hown6 g6; subst hv6; replace ho6 := Lib.hid ho6; replace hown6 := Lib.hid hown6))
  go_ret
  exact ⟨a6, c6, rfl, ho6.out⟩


/-- The string of bytes. -/
abbrev strB (l : List UInt8) : Value := .string ⟨l.toArray⟩
theorem conv_any {w : World} {a : Option Addr} {l : List UInt8} (c : Nat) (h : BytesAt w a l) : (convert 22 9 (.slice a l.length c)).run Tryd.prog w = .ok (strB l) w := by
  cases a with
  | none =>
    have hl : l = [] := by
      cases l with
      | nil => rfl
      | cons x r =>
        obtain ⟨b, off, hn, _⟩ := h.get (i := 0) rfl
        cases hn
    subst hl
    have hl := @run_convert_bytes_string Tryd.prog
    exact (hl w 22 9 5 none 0 c (by kernel_rfl) (by kernel_rfl) (by kernel_rfl)).trans rfl
  | some a =>
    refine run_convert_bytes_back (P := Tryd.prog) w 22 9 5 a c l (by kernel_rfl) (by kernel_rfl) (by kernel_rfl) fun j hj => ?_
    obtain ⟨b, off, hn, _, hc⟩ := h.get (List.getElem?_eq_getElem hj)
    cases hn
    have ha : (⟨b, off, none⟩ : Addr).add j = ⟨b, off + j, none⟩ := by simp [Addr.add]
    rw [ha]
    exact hc
abbrev exE : Ent := ⟨1, 2, 0, 0, ⟨0, 0, 0⟩, 0, [], 0⟩
theorem exE_askF : askF 2 exE = true := by decide
theorem exE_askB : askB 2 exE = [2, 1, 2] := by
  have h1 : numB 1 = [1] := numB_small (by decide)
  have h2 : numB 2 = [2] := numB_small (by decide)
  show numB 2 ++ (numB 1 ++ (numB 2 ++ [])) ++ [] = _
  rw [h1, h2]
  rfl
theorem exE_ok (w : World) : (⟨exE, none, 0⟩ : EntM).ok Any w := ⟨⟨fun i s hi => by simp at hi, fun x hx => by cases hx⟩, fun _ => rfl, Nat.le_refl _, Nat.zero_le _, by decide⟩

set_option maxRecDepth 100000 in
set_option maxHeartbeats 1600000 in
theorem alive20_any {G : List Nat} {E : Nat → Addr} (w : World) (hE : EAt G E w) (i0 : 0 ∈ G) :
    Calls Tryd.prog 7 #[] w fun e w' => e = .returned (.bool true) ∧ Gr w w' := by
  have hp := putAsk_yes 2 exE none 0 w (exE_ok w) hE i0 exE_askF
  rw [exE_askB] at hp
  have hr : ∀ W : World, Calls Tryd.prog 24 #[.slice (some ⟨W.heap.size, 0, none⟩) 3 3] (W.alloc (.cells #[.int .u8 2, .int .u8 1, .int .u8 2] 5)).drew fun e w' => ∃ a c, e = .returned (.slice a (frameB [2, 1, 2]).length c) ∧ Own (W.alloc (.cells #[.int .u8 2, .int .u8 1, .int .u8 2] 5)).drew w' a c (frameB [2, 1, 2]) := fun W =>
    rframe_any _ (some ⟨W.heap.size, 0, none⟩) 3 [2, 1, 2] (BytesAt.gr (recs_alloc byteC_len W [2, 1, 2] _ _ rfl) ((Gr.refl _).drew)) (fun h => by cases h) (by decide)
  obtain ⟨L, hL⟩ : ∃ L, L = frameB [2, 1, 2] := ⟨_, rfl⟩
  rw [← hL] at hp hr
  replace hp := Lib.hid hp
  replace hr := Lib.hid hr
  replace hL := Lib.hid hL
  go_enter Tryd.func7, Tryd.ntmps7
  go_wp2_with fail
  refine hp.out.mono ?_
  rintro e w1 ⟨a1, c1, rfl, ho⟩
  obtain ⟨-, hb, -, -, g1⟩ := ho
  have q0 := conv_any c1 (hb.gr ((Gr.refl w1).drew))
  have q1 := fun o => conv_any c1 (hb.gr (((Gr.refl w1).alloc o).drew))
  replace hb := Lib.hid hb
  go_upto_region 2 with fail
  go_region_with (go_at_call 24; refine (hr.out _).mono ?_; rintro e w3 ⟨a3, c3, rfl, ho3⟩; have g3 : Gr w1 w3 := (((Gr.refl w1).alloc _).drew).trans ho3.2.2.2.2; have q2 := conv_any c3 ho3.2.1; have q3 := conv_any c1 (hb.out.gr g3); replace ho3 := Lib.hid ho3)
  all_goals (go_wp2_with fail; go_ret; exact ⟨rfl, g1.trans g3⟩)
end Go.Proofs.YtlgbnjaoadlolaaDoor
