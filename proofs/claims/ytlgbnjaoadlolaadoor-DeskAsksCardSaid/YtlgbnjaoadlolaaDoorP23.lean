/- almonerref03: Num, Bytes; almonerref20: PutReply, ReplyInForm, SameReply; desk: checkReply, PutReply, Refuse. -/
import Derived.Test.YtlgbnjaoadlolaaDoorP22
namespace Go.Proofs.YtlgbnjaoadlolaaDoor
open Go.RowKit

/-- append(own, src...) of bytes. -/
theorem wpList_app {W w : World} {ops : Array Oper} {rest : List Oper} {o : Oper} {a : Act} {Q : Exit → Act → World → Prop} (hgd : o.guard = none) (s x : Operand)
    (ho : o.op = .call { callee := .builtin .append, args := #[s, x], argTypes := #[22, 22] }) (a1 : Option Addr) (c1 : Nat) (L1 : List UInt8) (hs : a.eval s = .slice a1 L1.length c1) (hO : Own W w a1 c1 L1)
    (sa : Option Addr) (c : Nat) (l : List UInt8) (hx : a.eval x = .slice sa l.length c) (hl : BytesAt w sa l) (hc : sa = none → c = 0) (hb : L1.length + l.length ≤ 140737488355328)
    (h : ∀ a' c' w', Own W w' a' c' (L1 ++ l) → w.grownBy w' (Value.slice a1 L1.length c1).ownBlock → wpList Tryd.prog ops Q rest (a.put o.dst (.slice a' (L1 ++ l).length c')) w') : wpList Tryd.prog ops Q (o :: rest) a w := by
  obtain ⟨i5, hi, hz0, hz1, hz2⟩ := info_parts Tryd.infoU8
  obtain ⟨ow, br, bn, bb, g⟩ := hO
  refine wpList_append_recs (k := 1) (enc := byteC) hgd s x 22 ho W.heap.size 5 i5 _ 1 Tryd.underlying22 hi hz0 hz1 hz2 rfl (by decide) byteC_len byteC_one (.slice a1 L1.length c1) L1 hs ow sa c l hx hl hc (by unfold maxLen; omega) (by omega) g.size ?_
  intro v2 w2 hown2 hgr2
  have g2 : Gr W w2 := g.grown hgr2 (own_block ow)
  obtain ⟨a2, c2, hv2, ho2⟩ := Own.of hown2 g2
  subst hv2
  exact h a2 c2 w2 ho2 hgr2
theorem own_empty (w : World) (e : Array Value) (he : e = #[]) : Own w (w.alloc (.cells e 5)) (some ⟨w.heap.size, 0, none⟩) 0 [] := by
  subst he
  obtain ⟨a, c, hv, hO⟩ := Own.of (l := []) (owns_empty (α := UInt8) (enc := byteC) w 5 1 (.cells #[] 5) rfl w.heap.size (Nat.le_refl _)) ((Gr.refl w).alloc _)
  cases hv
  exact hO
theorem numB_pos (n : Nat) : 1 ≤ (numB n).length := by
  by_cases hs : n < 128
  · rw [numB_small hs]; simp
  · rw [numB_great hs]; simp
theorem bytes_one {w : World} {n m : Nat} (hn : w.heap.size = n) (hm : m < 256) : BytesAt (w.alloc (.cells #[.int .u8 (m : Int)] 5)) (some ⟨n, 0, none⟩) [UInt8.ofNat m] := recs_alloc1 byteC_len w hn _ _ _ (byte_cell m hm)
set_option maxRecDepth 100000 in
set_option maxHeartbeats 1600000 in
theorem rNum_any (w : World) (n : Nat) (hn : n < 9223372036854775808) :
    Calls Tryd.prog 34 #[.int .i64 n] w fun e w' => ∃ a c, e = .returned (.slice a (numB n).length c) ∧ Own w w' a c (numB n) := by
  have hlen := numB_10 hn
  have h0 := own_empty w #[] rfl
  replace hlen := Lib.hid hlen
  replace h0 := Lib.hid h0
  go_enter Tryd.func34, Tryd.ntmps34
  go_wp2_with fail
  go_loopw [0, 3] (fun nv ov wr => ∃ (m : Nat) (L : List UInt8) (a : Option Addr) (c : Nat), nv = .int .i64 m ∧ m ≤ n ∧ ov = .slice a L.length c ∧ Hid (L ++ numB m = numB n) ∧ Hid (Own w wr a c L)) (fun nv _ _ => (intOf nv).toNat)
  case atStart => exact ⟨n, [], _, _, rfl, Nat.le_refl _, rfl, Lib.hid rfl, h0⟩
  case round =>
    obtain ⟨m, L, a, c, rfl, hmn, rfl, heq, hO⟩ := hrel
    have hll : L.length ≤ 10 := by
      have h1 := congrArg List.length heq.out
      rw [List.length_append] at h1
      have := hlen.out
      omega
    by_cases hs : m < 128
    · have heq' := heq.out
      rw [numB_small hs] at heq'
      have hd : (m : Int) / 128 = 0 := by omega
      have hmm : (m : Int) % 128 = (m : Int) := by omega
      have hm8 : (m : Int) % 256 = m := by omega
      have hb1 := bytes_one (w := wr) rfl (m := m) (by omega)
      have hO1 := hO.out.gr ((Gr.refl wr).alloc (.cells #[.int .u8 (m : Int)] 5))
      replace hO1 := Lib.hid hO1
      replace hb1 := Lib.hid hb1
      replace heq' := Lib.hid heq'
      go_wp2_with (at_builtin; go_loud (refine wpList_app (W := w) rfl _ _ rfl a c L rfl hO1.out (some ⟨wr.heap.size, 0, none⟩) 1 [UInt8.ofNat m] rfl hb1.out (fun h => by cases h) (by simp; omega) ?_; intro a2 c2 w2 hO2 hg2; rw [heq'.out] at hO2 ⊢; replace hO2 := Lib.hid hO2))
      go_ret
      exact ⟨a2, c2, rfl, hO2.out⟩
    · have heq' := heq.out
      rw [numB_great hs] at heq'
      have heq2 : L ++ [UInt8.ofNat (m % 128 + 128)] ++ numB (m / 128) = numB n := by rw [List.append_assoc]; exact heq'
      obtain ⟨d, hd⟩ : ∃ d : Nat, (m : Int) / 128 = (d : Int) := ⟨m / 128, by omega⟩
      obtain ⟨r, hr⟩ : ∃ r : Nat, (m : Int) % 128 = (r : Int) := ⟨m % 128, by omega⟩
      have hdm : m / 128 = d := by omega
      have hrm : m % 128 = r := by omega
      rw [hdm, hrm] at heq2
      have hd1 : 1 ≤ (d : Int) := by omega
      have hd0 : ((d : Int) == 0) = false := beq_eq_false_iff_ne.2 (by omega)
      have hdm2 : d ≤ m := by omega
      have hdm3 : d < m := by omega
      have hr1 : r < 128 := by omega
      have hr8 : (r : Int) % 256 = r := by omega
      have hb1 := bytes_one (w := wr) rfl (m := r + 128) (by omega)
      rw [show ((r + 128 : Nat) : Int) = (r : Int) + 128 by omega] at hb1
      have hO1 := hO.out.gr ((Gr.refl wr).alloc (.cells #[.int .u8 ((r : Int) + 128)] 5))
      replace hO1 := Lib.hid hO1
      replace hb1 := Lib.hid hb1
      replace heq' := Lib.hid heq'
      replace heq2 := Lib.hid heq2
      replace hdm := Lib.hid hdm
      replace hrm := Lib.hid hrm
      go_wp2_with (at_builtin; go_loud (refine wpList_app (W := w) rfl _ _ rfl a c L rfl hO1.out (some ⟨wr.heap.size, 0, none⟩) 1 [UInt8.ofNat (r + 128)] rfl hb1.out (fun h => by cases h) (by simp; omega) ?_; intro a2 c2 w2 hO2 hg2; replace hO2 := Lib.hid hO2))
      go_roundw
      case rel => exact ⟨d, L ++ [UInt8.ofNat (r + 128)], a2, c2, rfl, by omega, by rw [List.length_append]; rfl, heq2, hO2⟩
      case measure => simp [intOf]; omega
set_option maxRecDepth 100000 in
set_option maxHeartbeats 1600000 in
theorem rBytes_any (w : World) (a : Option Addr) (c : Nat) (l : List UInt8) (h : BytesAt w a l) (hc : a = none → c = 0) (hl : l.length ≤ 100000) :
    Calls Tryd.prog 35 #[.slice a l.length c] w fun e w' => ∃ a' c', e = .returned (.slice a' (numB l.length ++ l).length c') ∧ Own w w' a' c' (numB l.length ++ l) := by
  have hn := rNum_any w l.length (by omega)
  have hlen := numB_6 (n := l.length) (by omega)
  obtain ⟨N, hN⟩ : ∃ N, N = numB l.length := ⟨_, rfl⟩
  rw [← hN] at hn hlen ⊢
  replace hn := Lib.hid hn
  replace hN := Lib.hid hN
  replace h := Lib.hid h
  go_enter Tryd.func35, Tryd.ntmps35
  go_wp2_with fail
  refine hn.out.mono ?_
  rintro e w1 ⟨a1, c1, rfl, hO⟩
  have hb := h.out.gr hO.2.2.2.2
  replace hb := Lib.hid hb
  replace hO := Lib.hid hO
  go_wp2_with (at_builtin; go_loud (refine wpList_app (W := w) rfl _ _ rfl a1 c1 N rfl hO.out a c l rfl hb.out hc (by omega) ?_; intro a2 c2 w2 hO2 hg2; replace hO2 := Lib.hid hO2))
  go_ret
  exact ⟨a2, c2, by rw [List.length_append]; rfl, hO2.out⟩
end Go.Proofs.YtlgbnjaoadlolaaDoor
