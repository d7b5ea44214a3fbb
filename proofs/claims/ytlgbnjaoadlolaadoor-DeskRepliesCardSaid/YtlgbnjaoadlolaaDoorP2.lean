/- Bytes in memory; package crc: step, Update, Sum. -/
import Derived.Test.YtlgbnjaoadlolaaDoorP1
import Derived.Test.YtlgbnjaoadlolaaDoorG2
import Derived.Laws.BitsLemmas
namespace Go.Proofs.YtlgbnjaoadlolaaDoor
open Go.RowKit

abbrev byteC (b : UInt8) : List Value := [.int .u8 (b.toNat : Int)]
theorem byteC_len (b : UInt8) : (byteC b).length = 1 := rfl
theorem byteC_one (b : UInt8) : ∀ u ∈ byteC b, u.oneCell' = true := by intro u hu; simp at hu; subst hu; rfl
def BytesAt (w : World) (a : Option Addr) (l : List UInt8) : Prop := RecsAt 1 byteC w a l
theorem BytesAt.get {w : World} {a : Option Addr} {l : List UInt8} (h : BytesAt w a l) {i : Nat} {d : UInt8} (hd : l[i]? = some d) : ∃ b off, a = some ⟨b, off, none⟩ ∧ b < w.heap.size ∧ w.cell? ⟨b, off + i, none⟩ = some (.int .u8 (d.toNat : Int)) := by
  obtain ⟨b, off, ha, hb, hc⟩ := h i d hd
  exact ⟨b, off, ha, hb, by have := hc 0 _ rfl; rwa [Nat.mul_one, Nat.add_zero] at this⟩
theorem BytesAt.gr {w w' : World} {a : Option Addr} {l : List UInt8} (h : BytesAt w a l) (g : Gr w w') : BytesAt w' a l := by
  intro i s hi
  obtain ⟨b, off, ha, hb, hc⟩ := h i s hi
  exact ⟨b, off, ha, Nat.lt_of_lt_of_le hb g.size, fun j u hu => by rw [g.cells.1 _ _ hb]; exact hc j u hu⟩

theorem wraps_u32 (n : Int) (h₀ : 0 ≤ n) (h₁ : n < 2 ^ 32) : IntKind.u32.wrap n = n := by rw [IntKind.wrap_u32]; omega
theorem xor_nat (k : IntKind) (j : Nat) (hj : j ≤ k.bits) (hk : ∀ n : Int, 0 ≤ n → n < 2 ^ j → k.wrap n = n) (a b : Nat) (ha : a < 2 ^ j) (hb : b < 2 ^ j) : bits .xor k a b = ((a ^^^ b : Nat) : Int) := by
  have hp : 2 ^ j ≤ 2 ^ k.bits := Nat.pow_le_pow_right (by decide) hj
  have ha' : a % 2 ^ k.bits = a := Nat.mod_eq_of_lt (Nat.lt_of_lt_of_le ha hp)
  have hb' : b % 2 ^ k.bits = b := Nat.mod_eq_of_lt (Nat.lt_of_lt_of_le hb hp)
  simp only [bits, BitVec.ofInt_natCast, BitVec.toNat_xor, BitVec.toNat_ofNat, ha', hb']
  exact hk _ (Int.natCast_nonneg _) (by exact_mod_cast Nat.xor_lt_two_pow ha hb)
theorem xor_u32 {a b : Nat} (ha : a < 4294967296) (hb : b < 4294967296) : bits .xor .u32 a b = ((a ^^^ b : Nat) : Int) := xor_nat .u32 32 (by decide) wraps_u32 a b ha hb
theorem xor_u8 {a b : Nat} (ha : a < 256) (hb : b < 256) : bits .xor .u8 a b = ((a ^^^ b : Nat) : Int) := xor_nat .u8 8 (by decide) wraps_u8 a b ha hb
theorem and_u32 {a b : Nat} (ha : a < 4294967296) (hb : b < 4294967296) : bits .and .u32 a b = ((a &&& b : Nat) : Int) := (bits_nat .u32 32 (by decide) wraps_u32 a b ha hb).1
theorem and_one (a : Nat) : a &&& 1 = a % 2 := Nat.and_two_pow_sub_one_eq_mod a 1

/-- One bit, as the program reckons it. -/
theorem bit1_val {m : Nat} (hm : m < 4294967296) : bits .xor .u32 ((m : Int) / 2) (bits .and .u32 3988292384 (-((m : Int) % 2) % 4294967296)) = ((bit1 m : Nat) : Int) := by
  have hq : (m : Int) / 2 = ((m / 2 : Nat) : Int) := rfl
  unfold bit1
  by_cases h : m % 2 = 1
  · have e1 : -((m : Int) % 2) % 4294967296 = ((4294967295 : Nat) : Int) := by omega
    have e2 : bits .and .u32 3988292384 ((4294967295 : Nat) : Int) = ((poly : Nat) : Int) := by
      have := and_u32 (a := poly) (b := 4294967295) (by decide) (by decide)
      rw [show poly &&& 4294967295 = poly by decide] at this
      exact this
    rw [e1, e2, hq, xor_u32 (by omega) (by decide), if_pos h]
  · have e1 : -((m : Int) % 2) % 4294967296 = ((0 : Nat) : Int) := by omega
    have e2 : bits .and .u32 3988292384 ((0 : Nat) : Int) = ((0 : Nat) : Int) := by
      have := and_u32 (a := poly) (b := 0) (by decide) (by decide)
      rw [show poly &&& 0 = 0 by decide] at this
      exact this
    rw [e1, e2, hq, xor_u32 (by omega) (by decide), if_neg h]
set_option maxHeartbeats 800000 in
theorem step_any (n : Nat) (hn : n < 4294967296) (w : World) :
    Calls Tryd.prog 74 #[.int .u32 n] w fun e w' => e = .returned (.int .u32 (bitN 8 n)) ∧ w = w' := by
  go_enter Tryd.func74, Tryd.ntmps74
  go_wp2_with fail
  go_loop [4, 0] (fun iv nv => ∃ k : Nat, ∃ m : Nat, k ≤ 8 ∧ iv = .int .i64 k ∧ nv = .int .u32 m ∧ m < 4294967296 ∧ bitN (8 - k) m = bitN 8 n) (fun iv _ => 8 - (intOf iv).toNat)
  case atStart => exact ⟨0, n, by omega, rfl, rfl, hn, rfl⟩
  case round =>
    obtain ⟨k, m, hk, rfl, rfl, hm, he⟩ := hrel
    by_cases hlt : k < 8
    · have hlt2 : (k : Int) < 8 := by omega
      have h1 : bits .and .u32 (m : Int) 1 = ((m % 2 : Nat) : Int) := by
        have := and_u32 (a := m) (b := 1) hm (by omega)
        rw [and_one] at this
        exact this
      have hv := bit1_val hm
      have he2 : bitN (8 - (k + 1)) (bit1 m) = bitN 8 n := by rw [← he, show 8 - k = 8 - (k + 1) + 1 by omega]; rfl
      replace he2 := Lib.hid he2
      replace he := Lib.hid he
      go_wp2_with fail
      go_round
      case rel => exact ⟨k + 1, bit1 m, by omega, by go_num, rfl, bit1_lt hm, he2.out⟩
      case measure => simp [intOf]; omega
    · obtain rfl : k = 8 := by omega
      have hm2 : m = bitN 8 n := he
      replace he := Lib.hid hm2
      go_wp2_with fail
      go_ret
      exact ⟨rfl, rfl⟩

set_option maxHeartbeats 800000 in
theorem update_any (a : Option Addr) (c : Nat) (l : List UInt8) (n : Nat) (hn : n < 4294967296) (w : World) (h : BytesAt w a l) (hm : l.length ≤ maxLen) :
    Calls Tryd.prog 70 #[.int .u32 n, .slice a l.length c] w fun e w' => e = .returned (.int .u32 (crcW n l)) ∧ w = w' := by
  have hmm := hm
  unfold maxLen at hmm
  go_enter Tryd.func70, Tryd.ntmps70
  go_wp2_with fail
  go_loop [9, 0] (fun iv nv => ∃ k : Nat, k ≤ l.length ∧ iv = .int .i64 k ∧ nv = .int .u32 (crcW n (l.take k))) (fun iv _ => l.length - (intOf iv).toNat)
  case atStart => exact ⟨0, Nat.zero_le _, rfl, rfl⟩
  case round =>
    obtain ⟨k, hk, rfl, rfl⟩ := hrel
    by_cases hlt : k < l.length
    · obtain ⟨x, hx⟩ := get_some l k hlt
      obtain ⟨b, off, rfl, hb, c0⟩ := h.get hx
      have hc := x.toNat_lt
      have hw := crcW_lt (l.take k) hn
      have hs : crcW n (l.take (k + 1)) = upd (crcW n (l.take k)) x.toNat := by rw [take_snoc hx, crcW_snoc]
      generalize crcW n (l.take k) = m at *
      have e1 : bits .xor .u8 ((m : Int) % 256) (x.toNat : Int) = (((m % 256) ^^^ x.toNat : Nat) : Int) := xor_u8 (a := m % 256) (by omega) (by omega)
      have hx8 : (m % 256) ^^^ x.toNat < 2 ^ 8 := Nat.xor_lt_two_pow (by omega) (by omega)
      have hst := fun w => step_any ((m % 256) ^^^ x.toNat) (by omega) w
      have hb8 := bitN_lt 8 (w := (m % 256) ^^^ x.toNat) (by omega)
      have e2 : bits .xor .u32 ((m : Int) / 256) ((bitN 8 ((m % 256) ^^^ x.toNat) : Nat) : Int) = ((upd m x.toNat : Nat) : Int) := xor_u32 (a := m / 256) (by omega) hb8
      generalize hz : (m % 256) ^^^ x.toNat = z at *
      generalize bitN 8 z = y at *
      generalize upd m x.toNat = u at *
      replace hs := Lib.hid hs
      replace hst := Lib.hid hst
      replace hx := Lib.hid hx
      replace hz := Lib.hid hz
      go_wp2_with fail
      refine (hst.out _).mono ?_
      rintro e w2 ⟨rfl, rfl⟩
      go_wp2_with fail
      go_round
      case rel => exact ⟨k + 1, by omega, by go_num, by rw [hs.out]⟩
      case measure => simp [intOf]; omega
    · have hall : l.take k = l := List.take_of_length_le (by omega)
      rw [hall]
      go_wp2_with fail
      go_ret
      exact ⟨rfl, rfl⟩
theorem csum_any (a : Option Addr) (c : Nat) (l : List UInt8) (w : World) (h : BytesAt w a l) (hm : l.length ≤ maxLen) :
    Calls Tryd.prog 65 #[.slice a l.length c] w fun e w' => e = .returned (.int .u32 (crc l)) ∧ w = w' := by
  have hu := update_any a c l 4294967295 (by omega) w h hm
  have hw := crcW_lt l (w := 4294967295) (by omega)
  unfold crc
  generalize crcW 4294967295 l = m at *
  have hv : bits .xor .u32 IntKind.u32.max (m : Int) = ((4294967295 - m : Nat) : Int) := by
    have := xor_u32 (a := 4294967295) (b := m) (by omega) hw
    rw [Nat.xor_comm, not_xor hw] at this
    exact this
  replace hv := Lib.hid hv
  replace hu := Lib.hid hu
  go_enter Tryd.func65, Tryd.ntmps65
  go_wp2_with fail
  refine hu.out.mono ?_
  rintro e w2 ⟨rfl, rfl⟩
  go_wp2_with fail
  go_ret
  exact ⟨congrArg (fun v => Ending.returned (.int .u32 v)) hv.out, rfl⟩
end Go.Proofs.YtlgbnjaoadlolaaDoor
