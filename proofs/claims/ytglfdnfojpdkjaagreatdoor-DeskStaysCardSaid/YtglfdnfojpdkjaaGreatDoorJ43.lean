/- The cyclic check, in plain numbers: bits, bytes, frames; one byte that is another is found. Bytes in memory; package crc: step, Update, Sum. crc.put, crc.Frame, crc.get. -/
import Derived.Test.YtglfdnfojpdkjaaGreatDoorJ1
import Derived.Test.YtglfdnfojpdkjaaGreatDoorJ41
import Derived.Laws.BitsLemmas
import Derived.Test.YtglfdnfojpdkjaaGreatDoorJ42
import Derived.Deep.DeepCutAuto
import Derived.Deep.RegionWith
import Derived.Laws.IdiomStrings
namespace Go.Proofs.YtglfdnfojpdkjaaGreatDoor
open Go.RowKit

def poly : Nat := 0xedb88320
def bit1 (w : Nat) : Nat := (w / 2) ^^^ (if w % 2 = 1 then poly else 0)
def bitN : Nat → Nat → Nat
  | 0, w => w
  | k + 1, w => bitN k (bit1 w)
theorem xor_left_comm (a b c : Nat) : a ^^^ (b ^^^ c) = b ^^^ (a ^^^ c) := by rw [← Nat.xor_assoc, Nat.xor_comm a b, Nat.xor_assoc]
theorem xor_cancel {a b c : Nat} (h : a ^^^ c = b ^^^ c) : a = b := by
  have h1 : (a ^^^ c) ^^^ c = (b ^^^ c) ^^^ c := by rw [h]
  rw [Nat.xor_assoc, Nat.xor_assoc, Nat.xor_self, Nat.xor_zero, Nat.xor_zero] at h1
  exact h1
theorem bit1_xor (a b : Nat) : bit1 (a ^^^ b) = bit1 a ^^^ bit1 b := by
  unfold bit1
  rw [Nat.xor_div_two]
  have ha := Nat.mod_two_eq_zero_or_one a
  have hb := Nat.mod_two_eq_zero_or_one b
  generalize a / 2 = x at *
  generalize b / 2 = y at *
  rcases ha with ha | ha <;> rcases hb with hb | hb
  · rw [if_neg (by rw [Nat.xor_mod_two_eq_one]; omega), if_neg (by omega), if_neg (by omega)]; simp
  · rw [if_pos (by rw [Nat.xor_mod_two_eq_one]; omega), if_neg (by omega), if_pos hb, Nat.xor_zero, Nat.xor_assoc]
  · rw [if_pos (by rw [Nat.xor_mod_two_eq_one]; omega), if_pos ha, if_neg (by omega), Nat.xor_zero, Nat.xor_assoc, Nat.xor_assoc, Nat.xor_comm y poly]
  · rw [if_neg (by rw [Nat.xor_mod_two_eq_one]; omega), if_pos ha, if_pos hb, Nat.xor_zero, Nat.xor_assoc, xor_left_comm poly, Nat.xor_self, Nat.xor_zero]
theorem bitN_xor : ∀ (k a b : Nat), bitN k (a ^^^ b) = bitN k a ^^^ bitN k b
  | 0, _, _ => rfl
  | k + 1, a, b => by rw [bitN, bitN, bitN, bit1_xor, bitN_xor k]
theorem bitN_split : ∀ (k X : Nat), bitN k X = X / 2 ^ k ^^^ bitN k (X % 2 ^ k)
  | 0, X => by simp [bitN, Nat.mod_one]
  | k + 1, X => by
    have h1 : X % 2 ^ (k + 1) % 2 = X % 2 := Nat.mod_mod_of_dvd X (Nat.pow_dvd_pow 2 (show 1 ≤ k + 1 by omega))
    have h2 : X % 2 ^ (k + 1) / 2 = (X / 2) % 2 ^ k := by
      rw [Nat.pow_succ, Nat.mul_comm]
      exact Nat.mod_mul_right_div_self X 2 (2 ^ k)
    rw [bitN, bitN]
    unfold bit1
    rw [h1, h2, bitN_xor, bitN_xor, bitN_split k (X / 2), Nat.div_div_eq_div_mul, Nat.pow_succ, Nat.mul_comm 2, Nat.xor_assoc]
/-- One byte, as the program takes it. -/
def upd (w c : Nat) : Nat := (w / 256) ^^^ bitN 8 ((w % 256) ^^^ c)
theorem upd_ref {c : Nat} (hc : c < 256) (w : Nat) : bitN 8 (w ^^^ c) = upd w c := by
  rw [bitN_split 8 (w ^^^ c), Nat.xor_div_two_pow, Nat.xor_mod_two_pow, Nat.mod_eq_of_lt (a := c) (by simpa using hc), Nat.div_eq_of_lt (a := c) (by simpa using hc), Nat.xor_zero]
  rfl
theorem bit1_lt {w : Nat} (h : w < 4294967296) : bit1 w < 4294967296 := by
  unfold bit1
  refine Nat.xor_lt_two_pow (n := 32) (by omega) ?_
  split
  · decide
  · decide
theorem bitN_lt : ∀ (k : Nat) {w : Nat}, w < 4294967296 → bitN k w < 4294967296
  | 0, _, h => h
  | k + 1, _, h => bitN_lt k (bit1_lt h)
theorem upd_lt {w c : Nat} (h : w < 4294967296) (hc : c < 256) : upd w c < 4294967296 := by
  rw [← upd_ref hc]
  exact bitN_lt 8 (Nat.xor_lt_two_pow (n := 32) h (by omega))
theorem bit1_top {w : Nat} (h : w < 4294967296) : (bit1 w).testBit 31 = decide (w % 2 = 1) := by
  unfold bit1
  rw [Nat.testBit_xor, Nat.testBit_lt_two_pow (show w / 2 < 2 ^ 31 by omega)]
  by_cases hw : w % 2 = 1
  · rw [if_pos hw, decide_eq_true hw]; decide
  · rw [if_neg hw, decide_eq_false hw]; decide
theorem bit1_inj {a b : Nat} (ha : a < 4294967296) (hb : b < 4294967296) (h : bit1 a = bit1 b) : a = b := by
  have ht := bit1_top ha
  rw [h, bit1_top hb, decide_eq_decide] at ht
  have h2 : a / 2 = b / 2 := by
    unfold bit1 at h
    by_cases hw : a % 2 = 1
    · rw [if_pos hw, if_pos (ht.2 hw)] at h
      exact xor_cancel h
    · rw [if_neg hw, if_neg (fun e => hw (ht.1 e))] at h
      exact xor_cancel h
  omega
theorem bitN_inj : ∀ (k : Nat) {a b : Nat}, a < 4294967296 → b < 4294967296 → bitN k a = bitN k b → a = b
  | 0, _, _, _, _, h => h
  | k + 1, _, _, ha, hb, h => bit1_inj ha hb (bitN_inj k (bit1_lt ha) (bit1_lt hb) h)
theorem upd_word {a b c : Nat} (ha : a < 4294967296) (hb : b < 4294967296) (hc : c < 256) (h : upd a c = upd b c) : a = b := by
  rw [← upd_ref hc, ← upd_ref hc] at h
  exact xor_cancel (bitN_inj 8 (Nat.xor_lt_two_pow (n := 32) ha (by omega)) (Nat.xor_lt_two_pow (n := 32) hb (by omega)) h)
theorem upd_byte {a c d : Nat} (ha : a < 4294967296) (hc : c < 256) (hd : d < 256) (h : upd a c = upd a d) : c = d := by
  rw [← upd_ref hc, ← upd_ref hd] at h
  have h2 := bitN_inj 8 (Nat.xor_lt_two_pow (n := 32) ha (by omega)) (Nat.xor_lt_two_pow (n := 32) ha (by omega)) h
  rw [Nat.xor_comm a c, Nat.xor_comm a d] at h2
  exact xor_cancel h2
/-- The check's word behind bytes. -/
def crcW (w : Nat) (l : List UInt8) : Nat := l.foldl (fun w c => upd w c.toNat) w
theorem crcW_cons (w : Nat) (c : UInt8) (l : List UInt8) : crcW w (c :: l) = crcW (upd w c.toNat) l := rfl
theorem crcW_append (w : Nat) (a b : List UInt8) : crcW w (a ++ b) = crcW (crcW w a) b := List.foldl_append
theorem crcW_snoc (w : Nat) (a : List UInt8) (c : UInt8) : crcW w (a ++ [c]) = upd (crcW w a) c.toNat := by rw [crcW_append]; rfl
theorem crcW_lt : ∀ (l : List UInt8) {w : Nat}, w < 4294967296 → crcW w l < 4294967296
  | [], _, h => h
  | c :: l, _, h => crcW_lt l (upd_lt h c.toNat_lt)
theorem crcW_word : ∀ (l : List UInt8) {a b : Nat}, a < 4294967296 → b < 4294967296 → crcW a l = crcW b l → a = b
  | [], _, _, _, _, h => h
  | c :: l, _, _, ha, hb, h => upd_word ha hb c.toNat_lt (crcW_word l (upd_lt ha c.toNat_lt) (upd_lt hb c.toNat_lt) h)
/-- One byte that is another. -/
theorem crcW_slip (p q : List UInt8) {c d : UInt8} {w : Nat} (hw : w < 4294967296) (h : crcW w (p ++ c :: q) = crcW w (p ++ d :: q)) : c = d := by
  rw [crcW_append, crcW_append, crcW_cons, crcW_cons] at h
  have h1 := crcW_lt p hw
  have h2 := crcW_word q (upd_lt h1 c.toNat_lt) (upd_lt h1 d.toNat_lt) h
  exact UInt8.toNat_inj.1 (upd_byte h1 c.toNat_lt d.toNat_lt h2)
/-- The check of bytes. -/
def crc (l : List UInt8) : Nat := 4294967295 - crcW 4294967295 l
theorem crc_lt (l : List UInt8) : crc l < 4294967296 := by unfold crc; omega
theorem crc_slip (p q : List UInt8) {c d : UInt8} (h : crc (p ++ c :: q) = crc (p ++ d :: q)) : c = d := by
  unfold crc at h
  have h1 := crcW_lt (p ++ c :: q) (w := 4294967295) (by omega)
  have h2 := crcW_lt (p ++ d :: q) (w := 4294967295) (by omega)
  exact crcW_slip p q (w := 4294967295) (by omega) (by omega)
theorem not_xor {x : Nat} (h : x < 4294967296) : x ^^^ 4294967295 = 4294967295 - x := by
  have h1 := congrArg BitVec.toNat (BitVec.xor_allOnes (x := BitVec.ofNat 32 x))
  rw [BitVec.toNat_xor, BitVec.toNat_not, BitVec.toNat_ofNat, Nat.mod_eq_of_lt (by simpa using h)] at h1
  exact h1
/-- A word as four bytes, lowest first. -/
def le32 (n : Nat) : List UInt8 := [UInt8.ofNat n, UInt8.ofNat (n / 256), UInt8.ofNat (n / 65536), UInt8.ofNat (n / 16777216)]
def un32 (l : List UInt8) : Nat := match l with
  | a :: b :: c :: d :: _ => a.toNat + 256 * b.toNat + 65536 * c.toNat + 16777216 * d.toNat
  | _ => 0
theorem un32_le32 {n : Nat} (h : n < 4294967296) (r : List UInt8) : un32 (le32 n ++ r) = n := by
  simp only [le32, List.cons_append, un32, UInt8.toNat_ofNat']
  omega
theorem un32_lt (l : List UInt8) : un32 l < 4294967296 := by
  unfold un32
  split
  · rename_i a b c d _
    have := a.toNat_lt; have := b.toNat_lt; have := c.toNat_lt; have := d.toNat_lt
    omega
  · omega
/-- A payload's frame. -/
def frameB (p : List UInt8) : List UInt8 := le32 p.length ++ p ++ le32 (crc (le32 p.length ++ p))
theorem frameB_len (p : List UInt8) : (frameB p).length = p.length + 8 := by unfold frameB; simp [le32]


abbrev byteC (b : UInt8) : List Value := [.int .u8 (b.toNat : Int)]
theorem byteC_len (b : UInt8) : (byteC b).length = 1 := rfl
theorem byteC_one (b : UInt8) : ∀ u ∈ byteC b, u.oneCell' = true := by intro u hu; simp at hu; subst hu; rfl
def BytesAt (w : World) (a : Option Addr) (l : List UInt8) : Prop := RecsAt 1 byteC w a l
theorem BytesAt.get {w : World} {a : Option Addr} {l : List UInt8} (h : BytesAt w a l) {i : Nat} {d : UInt8} (hd : l[i]? = some d) : ∃ b off, a = some ⟨b, off, none⟩ ∧ b < w.heap.size ∧ w.cell? ⟨b, off + i, none⟩ = some (.int .u8 (d.toNat : Int)) := by
  obtain ⟨b, off, ha, hb, hc⟩ := h i d hd
  exact ⟨b, off, ha, hb, by have := hc 0 _ rfl; rwa [Nat.mul_one, Nat.add_zero] at this⟩
theorem BytesAt.gr {w w' : World} {a : Option Addr} {l : List UInt8} (h : BytesAt w a l) (g : Gr w w') : BytesAt w' a l := by
  intro i s hi
  obtain ⟨b, off, ha, hb, hc⟩ := h i s hi
  exact ⟨b, off, ha, Nat.lt_of_lt_of_le hb g.size, fun j u hu => by rw [g.cells.1 _ _ hb]; exact hc j u hu⟩

theorem wraps_u32 (n : Int) (h₀ : 0 ≤ n) (h₁ : n < 2 ^ 32) : IntKind.u32.wrap n = n := by rw [IntKind.wrap_u32]; omega
theorem xor_nat (k : IntKind) (j : Nat) (hj : j ≤ k.bits) (hk : ∀ n : Int, 0 ≤ n → n < 2 ^ j → k.wrap n = n) (a b : Nat) (ha : a < 2 ^ j) (hb : b < 2 ^ j) : bits .xor k a b = ((a ^^^ b : Nat) : Int) := by
  have hp : 2 ^ j ≤ 2 ^ k.bits := Nat.pow_le_pow_right (by decide) hj
  have ha' : a % 2 ^ k.bits = a := Nat.mod_eq_of_lt (Nat.lt_of_lt_of_le ha hp)
  have hb' : b % 2 ^ k.bits = b := Nat.mod_eq_of_lt (Nat.lt_of_lt_of_le hb hp)
  simp only [bits, BitVec.ofInt_natCast, BitVec.toNat_xor, BitVec.toNat_ofNat, ha', hb']
  exact hk _ (Int.natCast_nonneg _) (by exact_mod_cast Nat.xor_lt_two_pow ha hb)
theorem xor_u32 {a b : Nat} (ha : a < 4294967296) (hb : b < 4294967296) : bits .xor .u32 a b = ((a ^^^ b : Nat) : Int) := xor_nat .u32 32 (by decide) wraps_u32 a b ha hb
theorem xor_u8 {a b : Nat} (ha : a < 256) (hb : b < 256) : bits .xor .u8 a b = ((a ^^^ b : Nat) : Int) := xor_nat .u8 8 (by decide) wraps_u8 a b ha hb
theorem and_u32 {a b : Nat} (ha : a < 4294967296) (hb : b < 4294967296) : bits .and .u32 a b = ((a &&& b : Nat) : Int) := (bits_nat .u32 32 (by decide) wraps_u32 a b ha hb).1
theorem and_one (a : Nat) : a &&& 1 = a % 2 := Nat.and_two_pow_sub_one_eq_mod a 1

/-- One bit, as the program reckons it. -/
theorem bit1_val {m : Nat} (hm : m < 4294967296) : bits .xor .u32 ((m : Int) / 2) (bits .and .u32 3988292384 (-((m : Int) % 2) % 4294967296)) = ((bit1 m : Nat) : Int) := by
  have hq : (m : Int) / 2 = ((m / 2 : Nat) : Int) := rfl
  unfold bit1
  by_cases h : m % 2 = 1
  · have e1 : -((m : Int) % 2) % 4294967296 = ((4294967295 : Nat) : Int) := by omega
    have e2 : bits .and .u32 3988292384 ((4294967295 : Nat) : Int) = ((poly : Nat) : Int) := by
      have := and_u32 (a := poly) (b := 4294967295) (by decide) (by decide)
      rw [show poly &&& 4294967295 = poly by decide] at this
      exact this
    rw [e1, e2, hq, xor_u32 (by omega) (by decide), if_pos h]
  · have e1 : -((m : Int) % 2) % 4294967296 = ((0 : Nat) : Int) := by omega
    have e2 : bits .and .u32 3988292384 ((0 : Nat) : Int) = ((0 : Nat) : Int) := by
      have := and_u32 (a := poly) (b := 0) (by decide) (by decide)
      rw [show poly &&& 0 = 0 by decide] at this
      exact this
    rw [e1, e2, hq, xor_u32 (by omega) (by decide), if_neg h]
set_option maxHeartbeats 800000 in
theorem step_any (n : Nat) (hn : n < 4294967296) (w : World) :
    Calls Tryz.prog 125 #[.int .u32 n] w fun e w' => e = .returned (.int .u32 (bitN 8 n)) ∧ w = w' := by
  go_enter Tryz.func125, Tryz.ntmps125
  go_wp2_with fail
  go_loop [4, 0] (fun iv nv => ∃ k : Nat, ∃ m : Nat, k ≤ 8 ∧ iv = .int .i64 k ∧ nv = .int .u32 m ∧ m < 4294967296 ∧ bitN (8 - k) m = bitN 8 n) (fun iv _ => 8 - (intOf iv).toNat)
  case atStart => exact ⟨0, n, by omega, rfl, rfl, hn, rfl⟩
  case round =>
    obtain ⟨k, m, hk, rfl, rfl, hm, he⟩ := hrel
    by_cases hlt : k < 8
    · have hlt2 : (k : Int) < 8 := by omega
      have h1 : bits .and .u32 (m : Int) 1 = ((m % 2 : Nat) : Int) := by
        have := and_u32 (a := m) (b := 1) hm (by omega)
        rw [and_one] at this
        exact this
      have hv := bit1_val hm
      have he2 : bitN (8 - (k + 1)) (bit1 m) = bitN 8 n := by rw [← he, show 8 - k = 8 - (k + 1) + 1 by omega]; rfl
      replace he2 := Lib.hid he2
      replace he := Lib.hid he
      go_wp2_with fail
      go_round
      case rel => exact ⟨k + 1, bit1 m, by omega, by go_num, rfl, bit1_lt hm, he2.out⟩
      case measure => simp [intOf]; omega
    · obtain rfl : k = 8 := by omega
      have hm2 : m = bitN 8 n := he
      replace he := Lib.hid hm2
      go_wp2_with fail
      go_ret
      exact ⟨rfl, rfl⟩

set_option maxHeartbeats 800000 in
theorem update_any (a : Option Addr) (c : Nat) (l : List UInt8) (n : Nat) (hn : n < 4294967296) (w : World) (h : BytesAt w a l) (hm : l.length ≤ maxLen) :
    Calls Tryz.prog 105 #[.int .u32 n, .slice a l.length c] w fun e w' => e = .returned (.int .u32 (crcW n l)) ∧ w = w' := by
  have hmm := hm
  unfold maxLen at hmm
  go_enter Tryz.func105, Tryz.ntmps105
  go_wp2_with fail
  go_loop [9, 0] (fun iv nv => ∃ k : Nat, k ≤ l.length ∧ iv = .int .i64 k ∧ nv = .int .u32 (crcW n (l.take k))) (fun iv _ => l.length - (intOf iv).toNat)
  case atStart => exact ⟨0, Nat.zero_le _, rfl, rfl⟩
  case round =>
    obtain ⟨k, hk, rfl, rfl⟩ := hrel
    by_cases hlt : k < l.length
    · obtain ⟨x, hx⟩ := get_some l k hlt
      obtain ⟨b, off, rfl, hb, c0⟩ := h.get hx
      have hc := x.toNat_lt
      have hw := crcW_lt (l.take k) hn
      have hs : crcW n (l.take (k + 1)) = upd (crcW n (l.take k)) x.toNat := by rw [take_snoc hx, crcW_snoc]
      generalize crcW n (l.take k) = m at *
      have e1 : bits .xor .u8 ((m : Int) % 256) (x.toNat : Int) = (((m % 256) ^^^ x.toNat : Nat) : Int) := xor_u8 (a := m % 256) (by omega) (by omega)
      have hx8 : (m % 256) ^^^ x.toNat < 2 ^ 8 := Nat.xor_lt_two_pow (by omega) (by omega)
      have hst := fun w => step_any ((m % 256) ^^^ x.toNat) (by omega) w
      have hb8 := bitN_lt 8 (w := (m % 256) ^^^ x.toNat) (by omega)
      have e2 : bits .xor .u32 ((m : Int) / 256) ((bitN 8 ((m % 256) ^^^ x.toNat) : Nat) : Int) = ((upd m x.toNat : Nat) : Int) := xor_u32 (a := m / 256) (by omega) hb8
      generalize hz : (m % 256) ^^^ x.toNat = z at *
      generalize bitN 8 z = y at *
      generalize upd m x.toNat = u at *
      replace hs := Lib.hid hs
      replace hst := Lib.hid hst
      replace hx := Lib.hid hx
      replace hz := Lib.hid hz
      go_wp2_with fail
      refine (hst.out _).mono ?_
      rintro e w2 ⟨rfl, rfl⟩
      go_wp2_with fail
      go_round
      case rel => exact ⟨k + 1, by omega, by go_num, by rw [hs.out]⟩
      case measure => simp [intOf]; omega
    · have hall : l.take k = l := List.take_of_length_le (by omega)
      rw [hall]
      go_wp2_with fail
      go_ret
      exact ⟨rfl, rfl⟩
theorem csum_any (a : Option Addr) (c : Nat) (l : List UInt8) (w : World) (h : BytesAt w a l) (hm : l.length ≤ maxLen) :
    Calls Tryz.prog 80 #[.slice a l.length c] w fun e w' => e = .returned (.int .u32 (crc l)) ∧ w = w' := by
  have hu := update_any a c l 4294967295 (by omega) w h hm
  have hw := crcW_lt l (w := 4294967295) (by omega)
  unfold crc
  generalize crcW 4294967295 l = m at *
  have hv : bits .xor .u32 IntKind.u32.max (m : Int) = ((4294967295 - m : Nat) : Int) := by
    have := xor_u32 (a := 4294967295) (b := m) (by omega) hw
    rw [Nat.xor_comm, not_xor hw] at this
    exact this
  replace hv := Lib.hid hv
  replace hu := Lib.hid hu
  go_enter Tryz.func80, Tryz.ntmps80
  go_wp2_with fail
  refine hu.out.mono ?_
  rintro e w2 ⟨rfl, rfl⟩
  go_wp2_with fail
  go_ret
  exact ⟨congrArg (fun v => Ending.returned (.int .u32 v)) hv.out, rfl⟩


theorem Tryz.infoU8 : (Tryz.prog.info? 5).map (fun i => (i.zero, i.size, i.bytes)) = some (some (.int .u8 0), 1, 1) := by kernel_rfl
theorem recs_alloc1 {α : Type} {k : Nat} {enc : α → List Value} (hk : ∀ s, (enc s).length = k) (W : World) {n : Nat} (hn : W.heap.size = n) (l : List α) (e : TypeId) (cs : Array Value) (h : cs.toList = l.flatMap enc) : RecsAt k enc (W.alloc (.cells cs e)) (some ⟨n, 0, none⟩) l := by
  subst hn
  exact recs_alloc hk W l e cs h
/-- A row of bytes that the call itself made. -/
def Own (W w : World) (a : Option Addr) (c : Nat) (l : List UInt8) : Prop := w.ownsRow W.heap.size 5 1 (.slice a l.length c) l.length (l.flatMap byteC) ∧ BytesAt w a l ∧ (a = none → c = 0) ∧ (∀ x, a = some x → W.heap.size ≤ x.block) ∧ Gr W w
theorem Own.nil (W w : World) (g : Gr W w) : Own W w none 0 [] := ⟨World.ownsRow_nil _ _ _ _, fun i s hi => by simp at hi, (fun _ => rfl), (fun x hx => by cases hx), g⟩
theorem Own.of {W w : World} {v : Value} {l : List UInt8} (h : w.ownsRow W.heap.size 5 1 v l.length (l.flatMap byteC)) (g : Gr W w) : ∃ a c, v = .slice a l.length c ∧ Own W w a c l := by
  obtain ⟨a, c, rfl, hr, hn, hb⟩ := recs_of_owns byteC_len h
  exact ⟨a, c, rfl, h, hr, hn, hb, g⟩
theorem Own.gr {W w w' : World} {a : Option Addr} {c : Nat} {l : List UInt8} (h : Own W w a c l) (g : Gr w w') : Own W w' a c l := ⟨owns_gr h.1 g, h.2.1.gr g, h.2.2.1, h.2.2.2.1, h.2.2.2.2.trans g⟩
theorem le32_len (n : Nat) : (le32 n).length = 4 := rfl
theorem le32_cells {n : Nat} (hn : n < 4294967296) : #[Value.int .u8 ((n : Int) % 256), .int .u8 ((n : Int) / 256 % 256), .int .u8 ((n : Int) / 65536 % 256), .int .u8 ((n : Int) / 16777216)].toList = (le32 n).flatMap byteC := by
  have e : ∀ m : Nat, ((UInt8.ofNat m).toNat : Int) = (m : Int) % 256 := fun m => by rw [UInt8.toNat_ofNat']; rfl
  have e2 : (n : Int) / 16777216 = ((n / 16777216 : Nat) : Int) % 256 := by omega
  rw [e2]
  simp only [le32, byteC, List.flatMap_cons, List.flatMap_nil, e, List.cons_append, List.nil_append]
  rfl

set_option maxRecDepth 100000 in
set_option maxHeartbeats 800000 in
theorem put_any (W w : World) (a : Option Addr) (c : Nat) (l : List UInt8) (n : Nat) (hn : n < 4294967296) (h : Own W w a c l) (hm : l.length ≤ 1000000) :
    Calls Tryz.prog 79 #[.slice a l.length c, .int .u32 n] w fun e w' => ∃ a' c', e = .returned (.slice a' (l ++ le32 n).length c') ∧ Own W w' a' c' (l ++ le32 n) := by
  obtain ⟨i5, hi, hz0, hz1, hz2⟩ := info_parts Tryz.infoU8
  obtain ⟨hown, hr, hc, hb, g⟩ := h
  have n1 : l.length + (le32 n).length ≤ maxLen := by rw [le32_len]; unfold maxLen; omega
  have n2 : (l.length + (le32 n).length) * 1 ≤ 140737488355328 := by rw [le32_len]; omega
  have n3 := g.size
  replace hr := Lib.hid hr
  replace hb := Lib.hid hb
  replace hc := Lib.hid hc
  go_enter Tryz.func79, Tryz.ntmps79
  go_wp2_with (at_builtin; go_loud (refine wpList_append_recs (k := 1) (enc := byteC) rfl _ _ 44 rfl W.heap.size 5 i5 _ 1 Tryz.underlying44 hi hz0 hz1 hz2 rfl (by decide) byteC_len byteC_one (.slice a l.length c) l rfl (owns_gr hown ((Gr.refl w).alloc _)) (some ⟨w.heap.size, 0, none⟩) 4 (le32 n) rfl (recs_alloc byteC_len w (le32 n) _ _ (le32_cells hn)) (fun h => by cases h) n1 n2 (le_alloc n3 _) ?_; intro v1 w1 hown1 hgr1; have hg1 : Gr W w1 := (g.alloc _).grown hgr1 (own_block hown)))
  go_ret
  obtain ⟨a', c', rfl, ho⟩ := Own.of hown1 hg1
  exact ⟨a', c', rfl, ho⟩

set_option maxRecDepth 100000 in
set_option maxHeartbeats 1600000 in
theorem frame_any (w : World) (a : Option Addr) (c : Nat) (l : List UInt8) (h : BytesAt w a l) (hc : a = none → c = 0) (hl : l.length ≤ 32768) :
    Calls Tryz.prog 59 #[.slice a l.length c] w fun e w' => ∃ a' c', e = .returned (.tuple #[.slice a' (frameB l).length c', .nilIface]) ∧ Own w w' a' c' (frameB l) := by
  obtain ⟨i5, hi, hz0, hz1, hz2⟩ := info_parts Tryz.infoU8
  have hp1 := put_any w w none 0 [] l.length (by omega) (Own.nil w w (Gr.refl w)) (by simp)
  have hfl := frameB_len l
  obtain ⟨L2, hL2⟩ : ∃ L2, L2 = le32 l.length ++ l := ⟨_, rfl⟩
  have hL2l : L2.length = 4 + l.length := by rw [hL2, List.length_append, le32_len]
  have hsu := fun a1 c1 w1 (hb : BytesAt w1 a1 L2) => csum_any a1 c1 L2 w1 hb (by unfold maxLen; omega)
  have hp2 := fun a1 c1 w1 (ho : Own w w1 a1 c1 L2) => put_any w w1 a1 c1 L2 (crc L2) (crc_lt _) ho (by omega)
  have hfr : L2 ++ le32 (crc L2) = frameB l := by rw [hL2]; rfl
  rw [hfr] at hp2
  have n1 : (le32 l.length).length + l.length ≤ maxLen := by rw [le32_len]; unfold maxLen; omega
  have n2 : ((le32 l.length).length + l.length) * 1 ≤ 140737488355328 := by rw [le32_len]; omega
  rw [show ([] : List UInt8) ++ le32 l.length = le32 l.length from rfl] at hp1
  replace hp1 := Lib.hid hp1
  replace hp2 := Lib.hid hp2
  replace hsu := Lib.hid hsu
  replace h := Lib.hid h
  replace hfl := Lib.hid hfl
  replace hL2 := Lib.hid hL2
  replace hfr := Lib.hid hfr
  replace hL2l := Lib.hid hL2l
  go_enter Tryz.func59, Tryz.ntmps59
  go_wp2_with fail
  refine hp1.out.mono ?_
  rintro e w1 ⟨a1, c1, rfl, ho1⟩
  obtain ⟨ow, br, bn, bb, g1⟩ := ho1
  have n3 := g1.size
  have hs1 := h.out.gr g1
  replace br := Lib.hid br
  replace bb := Lib.hid bb
  replace bn := Lib.hid bn
  replace hs1 := Lib.hid hs1
  go_wp2_with (at_builtin; go_loud (refine wpList_append_recs (k := 1) (enc := byteC) rfl _ _ 44 rfl w.heap.size 5 i5 _ 1 Tryz.underlying44 hi hz0 hz1 hz2 rfl (by decide) byteC_len byteC_one (.slice a1 (le32 l.length).length c1) (le32 l.length) rfl ow a c l rfl hs1.out hc n1 n2 n3 ?_; intro v2 w2 hown2 hgr2; rw [← hL2.out] at hown2; have g2 : Gr w w2 := g1.grown hgr2 (own_block ow); obtain ⟨a2, c2, hv2, ho2⟩ := Own.of hown2 g2; subst hv2; have hb2 := ho2.2.1; replace ho2 := Lib.hid ho2; replace hb2 := Lib.hid hb2))
  refine (hsu.out a2 c2 w2 hb2.out).mono ?_
  rintro e w3 ⟨rfl, rfl⟩
  go_wp2_with fail
  refine (hp2.out a2 c2 w2 ho2.out).mono ?_
  rintro e w4 ⟨a4, c4, rfl, ho4⟩
  replace ho4 := Lib.hid ho4
  go_wp2_with fail
  go_ret2
  exact ⟨a4, c4, rfl, ho4.out⟩

theorem or_low (i : Nat) (hi : i ≤ 32) {x y : Nat} (hx : x < 2 ^ i) (hy : y * 2 ^ i < 4294967296) : bits .or .u32 (x : Int) ((y * 2 ^ i : Nat) : Int) = ((x + y * 2 ^ i : Nat) : Int) := by
  have h1 : 2 ^ i ≤ 2 ^ 32 := Nat.pow_le_pow_right (by decide) hi
  rw [(bits_nat .u32 32 (by decide) wraps_u32 x (y * 2 ^ i) (Nat.lt_of_lt_of_le hx h1) hy).2, Nat.or_comm, Nat.mul_comm, ← Nat.two_pow_add_eq_or_of_lt hx y, Nat.add_comm]
theorem or_word {a b c d : Nat} (ha : a < 2 ^ 8) (hb : b < 2 ^ 8) (hc : c < 2 ^ 8) (hd : d < 2 ^ 8) :
    bits .or .u32 (bits .or .u32 (bits .or .u32 (a : Int) ((b : Int) * 256)) ((c : Int) * 65536)) ((d : Int) * 16777216) = ((a + 256 * b + 65536 * c + 16777216 * d : Nat) : Int) := by
  have h1 : bits .or .u32 (a : Int) ((b : Int) * 256) = ((a + b * 256 : Nat) : Int) := or_low 8 (by decide) ha (by omega)
  have h2 : bits .or .u32 ((a + b * 256 : Nat) : Int) ((c : Int) * 65536) = ((a + b * 256 + c * 65536 : Nat) : Int) := or_low 16 (by decide) (by omega) (by omega)
  have h3 : bits .or .u32 ((a + b * 256 + c * 65536 : Nat) : Int) ((d : Int) * 16777216) = ((a + b * 256 + c * 65536 + d * 16777216 : Nat) : Int) := or_low 24 (by decide) (by omega) (by omega)
  rw [h1, h2, h3]
  omega
end Go.Proofs.YtglfdnfojpdkjaaGreatDoor
/- wire.Writer: NewWriter, Num, Bytes, Done; slices.Clone of bytes; desk.framed. slices.Clone of bytes; wire.Writer.Done; desk.framed. -/
namespace Go.Proofs.YtglfdnfojpdkjaaGreatDoor
open Go.RowKit

/-- append(own, src...), and where the new row lies. -/
theorem wpList_append_at {α : Type} {k : Nat} {enc : α → List Value} {P : Program} {w : World} {ops : Array Oper} {rest : List Oper} {o : Oper} {a : Act} {Q : Exit → Act → World → Prop} (hgd : o.guard = none) (s x : Operand) (t : TypeId)
    (ho : o.op = .call { callee := .builtin .append, args := #[s, x], argTypes := #[t, t] })
    (base : Nat) (e : TypeId) (i : TypeInfo) (z : Value) (bytes : Nat) (ht : P.underlying t = some (.slice e)) (hi : P.info? e = some i) (hz : i.zero = some z)
    (hsize : i.size = k) (hby : i.bytes = bytes) (hzs : z.cells.size = k) (hsz : 0 < k)
    (hk : ∀ s, (enc s).length = k) (h1 : ∀ s, ∀ u ∈ enc s, u.oneCell' = true)
    (v : Value) (l0 : List α) (hs : a.eval s = v) (hown : w.ownsRow base e k v l0.length (l0.flatMap enc))
    (sa : Option Addr) (c : Nat) (l : List α) (hx : a.eval x = .slice sa l.length c) (hl : RecsAt k enc w sa l) (hc : sa = none → c = 0)
    (h63 : l0.length + l.length ≤ maxLen) (hbytes : (l0.length + l.length) * bytes ≤ 140737488355328) (hbase : base ≤ w.heap.size)
    (h : ∀ v' w', w'.ownsRow base e k v' (l0 ++ l).length ((l0 ++ l).flatMap enc) → w.grownBy w' v.ownBlock → (v'.ownBlock = v.ownBlock ∨ v'.ownBlock = some w.heap.size) → wpList P ops Q rest (a.put o.dst v') w') : wpList P ops Q (o :: rest) a w := by
  cases sa with
  | none =>
    obtain rfl := hc rfl
    obtain rfl : l = [] := by
      cases l with
      | nil => rfl
      | cons y r => obtain ⟨b, off, hh, _⟩ := hl 0 y rfl; cases hh
    refine wpList_append_own_none hgd s x t ho base e i k ht hi v l0.length (l0.flatMap enc) hs hown hx ?_
    exact h v w (by simpa using hown) ⟨rfl, rfl, rfl, Nat.le_refl _, fun _ _ _ => rfl⟩ (.inl rfl)
  | some ad =>
    refine wpList_append_own_at w hgd s x t ho base e i z k bytes ht hi hz hsize hby hzs hsz v l0.length (l0.flatMap enc) hs hown ad l.length c (l.flatMap enc) hx (flat_len hk l) ?_ ?_ h63 hbytes hbase ?_
    · intro j u hj
      obtain ⟨y, hy, hu⟩ := flat_at hk hsz l j u hj
      obtain ⟨b, off, hh, _, hcell⟩ := hl _ y hy
      obtain rfl := Option.some.inj hh
      have := hcell _ u hu
      have e1 : off + j / k * k + j % k = off + j := by rw [Nat.add_assoc, Nat.mul_comm, Nat.div_add_mod]
      rw [e1] at this
      unfold Addr.add
      by_cases hj0 : j = 0
      · subst hj0; simpa using this
      · simpa [hj0] using this
    · intro u hu
      obtain ⟨y, _, hy⟩ := List.mem_flatMap.1 hu
      exact h1 y u hy
    · intro v' w' ho' hg' _ h5
      exact h v' w' (by simpa using ho') hg' h5
theorem Blk.grown {w w' : World} {b : Nat} {cs : Array Value} {t : TypeId} {row : Option Nat} (h : Blk w b cs t) (hg : w.grownBy w' row) (hn : some b ≠ row) : Blk w' b cs t := by unfold Blk; rw [hg.block b h.lt hn]; exact h
theorem BytesAt.grown {w w' : World} {a : Option Addr} {l : List UInt8} {row : Option Nat} (h : BytesAt w a l) (hg : w.grownBy w' row) (hne : ∀ x, a = some x → l ≠ [] → row ≠ some x.block) : BytesAt w' a l := RecsAt.grown h hg hne

/-- A number's bytes. -/
def numB (n : Nat) : List UInt8 := if h : n < 128 then [UInt8.ofNat n] else UInt8.ofNat (n % 128 + 128) :: numB (n / 128)
termination_by n
decreasing_by omega
theorem numB_small {n : Nat} (h : n < 128) : numB n = [UInt8.ofNat n] := by rw [numB, dif_pos h]
theorem numB_great {n : Nat} (h : ¬ n < 128) : numB n = UInt8.ofNat (n % 128 + 128) :: numB (n / 128) := by rw [numB, dif_neg h]
theorem numB_len : ∀ (k : Nat) {n : Nat}, n < 128 ^ (k + 1) → (numB n).length ≤ k + 1
  | k, n, h => by
    by_cases hs : n < 128
    · rw [numB_small hs]; simp
    · rw [numB_great hs]
      cases k with
      | zero => simp at h; omega
      | succ k =>
        have := numB_len k (n := n / 128) (by rw [Nat.pow_succ] at h; exact Nat.div_lt_of_lt_mul (by rw [Nat.mul_comm]; exact h))
        simp
        omega
theorem numB_10 {n : Nat} (h : n < 9223372036854775808) : (numB n).length ≤ 10 := numB_len 9 (by omega)
theorem numB_6 {n : Nat} (h : n ≤ 1099511627776) : (numB n).length ≤ 6 := numB_len 5 (by omega)

/-- A writer: what it has put. -/
def WrAt (W w : World) (wb B : Nat) (L : List UInt8) : Prop := ∃ a c, Blk w wb #[.slice a L.length c, .bool false] 120 ∧ Own W w a c L ∧ W.heap.size ≤ wb ∧ wb < B ∧ (∀ x, a = some x → x.block < B ∧ x.block ≠ wb) ∧ B ≤ w.heap.size
theorem WrAt.gr {W w w' : World} {wb B : Nat} {L : List UInt8} (h : WrAt W w wb B L) (g : Gr w w') : WrAt W w' wb B L := by
  obtain ⟨a, c, h1, h2, h3, h4, h5, h6⟩ := h
  exact ⟨a, c, h1.gr g, h2.gr g, h3, h4, h5, Nat.le_trans h6 g.size⟩
theorem WrAt.world {W w : World} {wb B : Nat} {L : List UInt8} (h : WrAt W w wb B L) : Gr W w := by
  obtain ⟨a, c, h1, h2, _⟩ := h
  exact h2.2.2.2.2
theorem WrAt.full {W w : World} {wb B : Nat} {L : List UInt8} (h : WrAt W w wb B L) : WrAt W w wb w.heap.size L := by
  obtain ⟨a, c, h1, h2, h3, h4, h5, h6⟩ := h
  exact ⟨a, c, h1, h2, h3, by omega, fun x hx => ⟨by have := (h5 x hx).1; omega, (h5 x hx).2⟩, Nat.le_refl _⟩
theorem newWriter_any (w : World) : Calls Tryz.prog 28 #[] w fun e w' => e = .returned (.pointer (some ⟨w.heap.size, 0, none⟩)) ∧ WrAt w w' w.heap.size w'.heap.size [] := by
  go_enter Tryz.func28, Tryz.ntmps28
  go_wp2_with fail
  go_ret
  exact ⟨rfl, none, 0, Blk.new w _ _, Own.nil w _ ((Gr.refl w).alloc _), Nat.le_refl _, by simp, (fun x hx => by cases hx), Nat.le_refl _⟩

theorem or128 {m : Nat} (h : m < 128) : bits .or .u8 (m : Int) 128 = ((m + 128 : Nat) : Int) := by
  have := (bits_nat .u8 8 (by decide) wraps_u8 m 128 (by omega) (by omega)).2
  rw [Nat.or_comm, show (128 : Nat) = 2 ^ 7 * 1 from rfl, ← Nat.two_pow_add_eq_or_of_lt (by omega) 1] at this
  rw [show ((2 ^ 7 * 1 : Nat) : Int) = 128 from rfl] at this
  rw [this]
  omega
theorem and127 (n : Nat) (h : n < 9223372036854775808) : bits .and .i64 (n : Int) 127 = ((n % 128 : Nat) : Int) :=
  bits_mask .i64 63 (by decide) (fun n h₀ h₁ => by rw [IntKind.wrap_i64]; omega) 7 (by decide) n (by omega) (by omega)
theorem byte_cell (n : Nat) (h : n < 256) : #[Value.int .u8 (n : Int)].toList = [UInt8.ofNat n].flatMap byteC := by
  have e : ((UInt8.ofNat n).toNat : Int) = (n : Int) := by rw [UInt8.toNat_ofNat']; omega
  simp only [List.flatMap_cons, List.flatMap_nil, byteC, e]
  rfl

theorem own_blk {a : Option Addr} {n c : Nat} {x : Addr} (h : a = some x) : (Value.slice a n c).ownBlock = some x.block := by subst h; rfl
theorem owns_setP {w : World} {base : Nat} {e : TypeId} {size : Nat} {v : Value} {n : Nat} {xs : List Value} (h : w.ownsRow base e size v n xs) {p : Addr} (hp : ∀ g, v.ownBlock = some g → g ≠ p.block) (u : Value) : (w.setCell p u).ownsRow base e size v n xs := by
  refine ⟨h.1, ?_⟩
  rcases h.2 with hn | ⟨b, cap, cur, h1, h2, h3, h4⟩
  · exact .inl hn
  · refine .inr ⟨b, cap, cur, h1, h2, ?_, h4⟩
    rw [heap_setCell_other w p b u (hp b (by rw [h1]; rfl))]
    exact h3
theorem BytesAt.set {w : World} {a : Option Addr} {l : List UInt8} (h : BytesAt w a l) {p : Addr} (hp : ∀ x, a = some x → x.block ≠ p.block) (u : Value) : BytesAt (w.setCell p u) a l := by
  intro i s hi
  obtain ⟨b, off, ha, hb, hc⟩ := h i s hi
  refine ⟨b, off, ha, by simp; exact hb, fun j v hv => ?_⟩
  have hne : b ≠ p.block := hp _ ha
  rw [World.cell?_of_block (heap_setCell_other w p b u hne)]
  exact hc j v hv
theorem Own.set {W w : World} {a : Option Addr} {c : Nat} {l : List UInt8} (h : Own W w a c l) {p : Addr} (hp : ∀ x, a = some x → x.block ≠ p.block) (hW : W.heap.size ≤ p.block) (u : Value) : Own W (w.setCell p u) a c l := by
  obtain ⟨h1, h2, h3, h4, h5⟩ := h
  refine ⟨owns_setP h1 (fun g hg => ?_) u, h2.set hp u, h3, h4, h5.setCell hW u⟩
  cases a with
  | none => cases hg
  | some x => cases hg; exact hp x rfl
theorem Own.lt {W w : World} {a : Option Addr} {c : Nat} {l : List UInt8} (h : Own W w a c l) {x : Addr} (hx : a = some x) : x.block < w.heap.size := (owns_lt h.1 _ (own_blk hx)).1
/-- A writer since w0: what lay in the blocks from B on is as it was. -/
def WrK (W w0 w : World) (wb B : Nat) (L : List UInt8) : Prop := ∃ a c, Blk w wb #[.slice a L.length c, .bool false] 120 ∧ Own W w a c L ∧ W.heap.size ≤ wb ∧ wb < B ∧ (∀ x, a = some x → x.block ≠ wb ∧ (x.block < B ∨ w0.heap.size ≤ x.block)) ∧ (∀ k, B ≤ k → k < w0.heap.size → w.heap[k]? = w0.heap[k]?) ∧ w0.heap.size ≤ w.heap.size ∧ B ≤ w0.heap.size
theorem WrAt.k {W w : World} {wb B : Nat} {L : List UInt8} (h : WrAt W w wb B L) : WrK W w w wb B L := by
  obtain ⟨a, c, h1, h2, h3, h4, h5, h6⟩ := h
  exact ⟨a, c, h1, h2, h3, h4, fun x hx => ⟨(h5 x hx).2, .inl (h5 x hx).1⟩, fun _ _ _ => rfl, Nat.le_refl _, h6⟩
theorem WrK.at {W w0 w : World} {wb B : Nat} {L : List UInt8} (h : WrK W w0 w wb B L) : WrAt W w wb w.heap.size L := by
  obtain ⟨a, c, h1, h2, h3, h4, h5, h6, h7, h8⟩ := h
  exact ⟨a, c, h1, h2, h3, h1.lt, fun x hx => ⟨h2.lt hx, (h5 x hx).1⟩, Nat.le_refl _⟩
theorem WrK.put {W w0 wr wm w1 : World} {wb B N n0 c0 : Nat} {a0 : Option Addr} {cs : Array Value} {L2 : List UInt8} {a1 : Option Addr} {c2 : Nat} (hwb : W.heap.size ≤ wb) (hwB : wb < B) (hB : B ≤ w0.heap.size) (hb1 : Blk w1 wb cs 120) (hcs : ∀ v, cs.setIfInBounds 0 v = #[v, .bool false]) (ho1 : Own W w1 a1 c2 L2) (hat : (Value.slice a1 L2.length c2).ownBlock = (Value.slice a0 n0 c0).ownBlock ∨ (Value.slice a1 L2.length c2).ownBlock = some N) (hN : w0.heap.size ≤ N) (hax : ∀ x, a0 = some x → x.block ≠ wb ∧ (x.block < B ∨ w0.heap.size ≤ x.block))
    (hgr : wm.grownBy w1 (Value.slice a0 n0 c0).ownBlock) (hwm : Gr wr wm) (hk : ∀ k, B ≤ k → k < w0.heap.size → wr.heap[k]? = w0.heap[k]?) (h0r : w0.heap.size ≤ wr.heap.size) :
    WrK W w0 (w1.setCell ⟨wb, 0, none⟩ (.slice a1 L2.length c2)) wb B L2 := by
  have hne : ∀ x, a1 = some x → x.block ≠ wb ∧ (x.block < B ∨ w0.heap.size ≤ x.block) := fun x hx => by
    rw [own_blk hx] at hat
    rcases hat with h | h
    · cases a0 with
      | none => cases h
      | some y =>
        have := Option.some.inj h
        rw [this]
        exact hax y rfl
    · rw [Option.some.inj h]
      exact ⟨by omega, .inr hN⟩
  have hs1 : w0.heap.size ≤ w1.heap.size := Nat.le_trans h0r (Nat.le_trans hwm.size hgr.size)
  refine ⟨a1, c2, by rw [← hcs]; exact hb1.set 0 _, ho1.set (fun x hx => (hne x hx).1) hwb _, hwb, hwB, hne, fun k hk1 hk2 => ?_, by simp; exact hs1, hB⟩
  rw [heap_setCell_other w1 ⟨wb, 0, none⟩ k _ (by show k ≠ wb; omega), hgr.block k (by have := hwm.size; omega) (fun e => ?_), hwm.block k (by omega), hk k hk1 hk2]
  cases a0 with
  | none => cases e
  | some y =>
    have h1 := Option.some.inj e
    have h2 := (hax y rfl).2
    rw [← h1] at h2
    omega

set_option maxRecDepth 100000 in
set_option maxHeartbeats 1600000 in
theorem num_anyP (W w : World) (wb B : Nat) (L : List UInt8) (n : Nat) (h : WrAt W w wb B L) (hm : L.length ≤ 500000) (hn : n < 9223372036854775808) :
    Calls Tryz.prog 29 #[.pointer (some ⟨wb, 0, none⟩), .int .i64 n] w fun e w' => e = .returned (.tuple #[]) ∧ WrK W w w' wb B (L ++ numB n) := by
  obtain ⟨i5, hi, hz0, hz1, hz2⟩ := info_parts Tryz.infoU8
  have hlen := numB_10 hn
  have h0 := h.k
  replace h := Lib.hid h
  replace hlen := Lib.hid hlen
  go_enter Tryz.func29, Tryz.ntmps29
  go_wp2_with fail
  go_loopw [1] (fun nv wr => ∃ (m : Nat) (L' : List UInt8), nv = .int .i64 m ∧ m ≤ n ∧ L' ++ numB m = L ++ numB n ∧ WrK W w wr wb B L') (fun nv _ => (intOf nv).toNat)
  case atStart => exact ⟨n, L, rfl, Nat.le_refl _, rfl, h0⟩
  case round =>
    obtain ⟨m, L', rfl, hmn, heq, hW⟩ := hrel
    have hll : L'.length ≤ 500010 := by
      have h1 := congrArg List.length heq
      rw [List.length_append, List.length_append] at h1
      have := hlen.out
      omega
    obtain ⟨a, c, hb, ho, hwb, hwB, hax, hkp, h0r, hBw⟩ := hW
    have c0 := hb.cell (i := 0) (v := .slice a L'.length c) rfl
    have f0 := hb.free 0
    have ho0 := ho
    obtain ⟨hown, hr, hcn, hbb, g⟩ := ho
    have n3 := g.size
    have n1 : L'.length + 1 ≤ maxLen := by unfold maxLen; omega
    have n2 : (L'.length + 1) * 1 ≤ 140737488355328 := by omega
    have hav := and127 m (by omega)
    have hq1 : m % 128 < 128 := Nat.mod_lt _ (by decide)
    have hov := or128 hq1
    have hne : ∀ q, (Value.slice a L'.length c).ownBlock = some q → q < wr.heap.size ∧ q ≠ wb := fun q hq => by
      cases a with
      | none => cases hq
      | some ad => cases hq; exact ⟨ho0.lt rfl, (hax ad rfl).1⟩
    replace ho0 := Lib.hid ho0
    replace hkp := Lib.hid hkp
    replace hr := Lib.hid hr
    replace hbb := Lib.hid hbb
    replace hax := Lib.hid hax
    replace hb := Lib.hid hb
    replace hne := Lib.hid hne
    by_cases hs : m < 128
    · have hs2 : (m : Int) ≤ 127 := by omega
      rw [numB_small hs] at heq
      have hrc := recs_alloc byteC_len wr [UInt8.ofNat m] 5 #[.int .u8 (m : Int)] (byte_cell m (by omega))
      have hm8 : (m : Int) % 256 = m := by omega
      obtain ⟨L2, hL2⟩ : ∃ L2, L2 = L' ++ [UInt8.ofNat m] := ⟨_, rfl⟩
      rw [← hL2] at heq
      replace heq := Lib.hid heq
      replace hrc := Lib.hid hrc
      replace hL2 := Lib.hid hL2
      go_wp2_with (at_builtin; go_loud (refine wpList_append_one (k := 1) (enc := byteC) rfl _ _ 44 rfl W.heap.size 5 i5 _ 1 Tryz.underlying44 hi hz0 hz1 hz2 rfl (by decide) byteC_len byteC_one (.slice a L'.length c) L' rfl (owns_gr hown ((Gr.refl wr).alloc _)) wr.heap.size 1 (UInt8.ofNat (m)) rfl hrc.out n1 n2 (le_alloc n3 _) ?_; intro v1 w1 hown1 hgr1 hat1; have hb1 := (hb.out.alloc (.cells #[.int .u8 (m : Int)] 5)).grown hgr1 (fun e => (hne.out _ e.symm).2 rfl); have hg1 : Gr W w1 := (g.alloc _).grown hgr1 (own_block hown); rw [← hL2.out] at hown1; obtain ⟨a1, c2, hv1, ho1⟩ := Own.of hown1 hg1; subst hv1; have c1 := hb1.cell (i := 0) (v := .slice a L'.length c) rfl; have f1 := hb1.free 0; have z1 := hb1.lt; have hput := WrK.put (wr := wr) (N := (wr.alloc (.cells #[.int .u8 (m : Int)] 5)).heap.size) hwb hwB hBw hb1 (fun v => rfl) ho1 hat1 (by simp; omega) hax.out hgr1 ((Gr.refl wr).alloc _) hkp.out h0r; replace hput := Lib.hid hput; replace ho1 := Lib.hid ho1; replace hb1 := Lib.hid hb1; clear hown1 hat1))
      go_end0
      exact ⟨rfl, by rw [← heq.out]; exact hput.out⟩
    · have hs2 : ¬ (m : Int) ≤ 127 := by omega
      rw [numB_great hs] at heq
      have hrc := recs_alloc byteC_len wr [UInt8.ofNat (m % 128 + 128)] 5 #[.int .u8 ((m % 128 + 128 : Nat) : Int)] (byte_cell (m % 128 + 128) (by omega))
      rw [show ((m % 128 + 128 : Nat) : Int) = (m : Int) % 128 + 128 by omega] at hrc hov
      rw [show ((m % 128 : Nat) : Int) = (m : Int) % 128 by omega] at hov
      obtain ⟨L2, hL2⟩ : ∃ L2, L2 = L' ++ [UInt8.ofNat (m % 128 + 128)] := ⟨_, rfl⟩
      have heq2 : L2 ++ numB (m / 128) = L ++ numB n := by rw [hL2, ← heq, List.append_assoc]; rfl
      have hdm : (m : Int).fdiv (2 ^ min (Int.toNat 7) IntKind.i64.bits) = ((m / 128 : Nat) : Int) := by
        rw [Int.fdiv_eq_ediv_of_nonneg _ (by decide)]
        rfl
      replace heq := Lib.hid heq
      replace heq2 := Lib.hid heq2
      replace hrc := Lib.hid hrc
      replace hL2 := Lib.hid hL2
      go_wp2_with (at_builtin; go_loud (refine wpList_append_one (k := 1) (enc := byteC) rfl _ _ 44 rfl W.heap.size 5 i5 _ 1 Tryz.underlying44 hi hz0 hz1 hz2 rfl (by decide) byteC_len byteC_one (.slice a L'.length c) L' rfl (owns_gr hown ((Gr.refl wr).alloc _)) wr.heap.size 1 (UInt8.ofNat (m % 128 + 128)) rfl hrc.out n1 n2 (le_alloc n3 _) ?_; intro v1 w1 hown1 hgr1 hat1; have hb1 := (hb.out.alloc (.cells #[.int .u8 ((m : Int) % 128 + 128)] 5)).grown hgr1 (fun e => (hne.out _ e.symm).2 rfl); have hg1 : Gr W w1 := (g.alloc _).grown hgr1 (own_block hown); rw [← hL2.out] at hown1; obtain ⟨a1, c2, hv1, ho1⟩ := Own.of hown1 hg1; subst hv1; have c1 := hb1.cell (i := 0) (v := .slice a L'.length c) rfl; have f1 := hb1.free 0; have z1 := hb1.lt; have hput := WrK.put (wr := wr) (N := (wr.alloc (.cells #[.int .u8 ((m : Int) % 128 + 128)] 5)).heap.size) hwb hwB hBw hb1 (fun v => rfl) ho1 hat1 (by simp; omega) hax.out hgr1 ((Gr.refl wr).alloc _) hkp.out h0r; replace hput := Lib.hid hput; replace ho1 := Lib.hid ho1; replace hb1 := Lib.hid hb1; clear hown1 hat1))
      go_roundw
      case rel => exact ⟨m / 128, L2, by go_num, by omega, heq2.out, hput.out⟩
      case measure => simp [intOf]; omega

theorem BytesAt.same {w w' : World} {a : Option Addr} {l : List UInt8} (h : BytesAt w a l) (hs : w.heap.size ≤ w'.heap.size) (hb : ∀ x, a = some x → l ≠ [] → w'.heap[x.block]? = w.heap[x.block]?) : BytesAt w' a l := by
  intro i s hi
  obtain ⟨b, off, ha, hlt, hc⟩ := h i s hi
  have h1 : w'.heap[b]? = w.heap[b]? := hb _ ha (fun e => by rw [e] at hi; cases hi)
  exact ⟨b, off, ha, by omega, fun j u hu => by rw [World.cell?_of_block h1]; exact hc j u hu⟩
set_option maxRecDepth 100000 in
set_option maxHeartbeats 1600000 in
theorem wbytes_any (W w : World) (wb B : Nat) (L : List UInt8) (a : Option Addr) (c : Nat) (l : List UInt8) (h : WrAt W w wb B L) (hm : L.length ≤ 400000) (hs : BytesAt w a l) (hc : a = none → c = 0) (hx : ∀ x, a = some x → x.block < W.heap.size ∨ (B ≤ x.block ∧ x.block < w.heap.size)) (hl : l.length ≤ 100000) :
    Calls Tryz.prog 32 #[.pointer (some ⟨wb, 0, none⟩), .slice a l.length c] w fun e w' => e = .returned (.tuple #[]) ∧ WrAt W w' wb w'.heap.size (L ++ numB l.length ++ l) := by
  obtain ⟨i5, hi, hz0, hz1, hz2⟩ := info_parts Tryz.infoU8
  have hnum := num_anyP W w wb B L l.length h (by omega) (by omega)
  have hlen := numB_10 (n := l.length) (by omega)
  have hWw := h.world
  obtain ⟨L1, hL1⟩ : ∃ L1, L1 = L ++ numB l.length := ⟨_, rfl⟩
  have hll : L1.length ≤ 400010 := by rw [hL1, List.length_append]; omega
  rw [← hL1] at hnum ⊢
  obtain ⟨L2, hL2⟩ : ∃ L2, L2 = L1 ++ l := ⟨_, rfl⟩
  rw [← hL2]
  have n1 : L1.length + l.length ≤ maxLen := by unfold maxLen; omega
  have n2 : (L1.length + l.length) * 1 ≤ 140737488355328 := by omega
  replace hnum := Lib.hid hnum
  replace h := Lib.hid h
  replace hs := Lib.hid hs
  replace hx := Lib.hid hx
  replace hL1 := Lib.hid hL1
  replace hL2 := Lib.hid hL2
  go_enter Tryz.func32, Tryz.ntmps32
  go_wp2_with fail
  refine hnum.out.mono ?_
  rintro e w1 ⟨rfl, hW⟩
  obtain ⟨a1, c1, hb, ho, hwb, hwB, hax, hkp, h0r, hBw⟩ := hW
  have c0 := hb.cell (i := 0) (v := .slice a1 L1.length c1) rfl
  have f0 := hb.free 0
  have zwb := hb.lt
  have ho0 := ho
  obtain ⟨hown, hr, hcn, hbb, g⟩ := ho
  have n3 := g.size
  have hs1 : BytesAt w1 a l := hs.out.same h0r (fun x hxx _ => by
    rcases hx.out x hxx with h | h
    · rw [g.block _ h, hWw.block _ h]
    · exact hkp _ h.1 h.2)
  have hne : ∀ q, (Value.slice a1 L1.length c1).ownBlock = some q → q < w1.heap.size ∧ q ≠ wb := fun q hq => by
    cases a1 with
    | none => cases hq
    | some ad => cases hq; exact ⟨ho0.lt rfl, (hax ad rfl).1⟩
  replace hr := Lib.hid hr
  replace hbb := Lib.hid hbb
  replace hax := Lib.hid hax
  replace hb := Lib.hid hb
  replace hne := Lib.hid hne
  replace ho0 := Lib.hid ho0
  replace hkp := Lib.hid hkp
  replace hs1 := Lib.hid hs1
  go_wp2_with (at_builtin; go_loud (refine wpList_append_at (k := 1) (enc := byteC) rfl _ _ 44 rfl W.heap.size 5 i5 _ 1 Tryz.underlying44 hi hz0 hz1 hz2 rfl (by decide) byteC_len byteC_one (.slice a1 L1.length c1) L1 rfl hown a c l rfl hs1.out hc n1 n2 n3 ?_; intro v1 w2 hown1 hgr1 hat1; have hb1 := hb.out.grown hgr1 (fun e => (hne.out _ e.symm).2 rfl); have hg1 : Gr W w2 := g.grown hgr1 (own_block hown); rw [← hL2.out] at hown1; obtain ⟨a2, c2, hv1, ho1⟩ := Own.of hown1 hg1; subst hv1; have c3 := hb1.cell (i := 0) (v := .slice a1 L1.length c1) rfl; have f1 := hb1.free 0; have z1 := hb1.lt; have hput := WrK.put (wr := w1) (N := w1.heap.size) hwb hwB hBw hb1 (fun v => rfl) ho1 hat1 h0r hax.out hgr1 (Gr.refl w1) hkp.out h0r; replace hput := Lib.hid hput; replace ho1 := Lib.hid ho1; replace hb1 := Lib.hid hb1; clear hown1 hat1))
  go_end0
  exact ⟨rfl, hput.out.at⟩


theorem Own.older {W W1 w : World} {a : Option Addr} {c : Nat} {l : List UInt8} (h : Own W1 w a c l) (g : Gr W W1) : Own W w a c l := by
  obtain ⟨h1, h2, h3, h4, h5⟩ := h
  refine ⟨⟨h1.1, ?_⟩, h2, h3, fun x hx => Nat.le_trans g.size (h4 x hx), g.trans h5⟩
  rcases h1.2 with hn | ⟨b, cap, cur, e1, e2, e3⟩
  · exact .inl hn
  · exact .inr ⟨b, cap, cur, e1, Nat.le_trans g.size e2, e3⟩

set_option maxRecDepth 100000 in
set_option maxHeartbeats 1600000 in
theorem cloneB_any (w : World) (a : Option Addr) (c : Nat) (l : List UInt8) (h : BytesAt w a l) (hc : a = none → c = 0) (hm : l.length ≤ 1000000) :
    Calls Tryz.prog 76 #[.slice a l.length c] w fun e w' => ∃ a' c', e = .returned (.slice a' l.length c') ∧ Own w w' a' c' l := by
  obtain ⟨i5, hi, hz0, hz1, hz2⟩ := info_parts Tryz.infoU8
  have hmm : l.length ≤ maxLen := by unfold maxLen; omega
  have n2 : l.length * 1 ≤ 140737488355328 := by omega
  have hnil := fun (w : World) a n c => Lib.run_eql_slice_nil (P := Tryz.prog) w 44 5 a n c 0 0 Tryz.underlying44
  cases a with
  | none =>
    obtain rfl := hc rfl
    obtain rfl : l = [] := by
      cases l with
      | nil => rfl
      | cons y r => obtain ⟨b, off, hh, _⟩ := h 0 y rfl; cases hh
    go_enter Tryz.func76, Tryz.ntmps76
    go_wp2_with fail
    go_ret
    exact ⟨none, 0, rfl, Own.nil w w (Gr.refl w)⟩
  | some ad =>
    replace h := Lib.hid h
    go_enter Tryz.func76, Tryz.ntmps76
    go_wp2_with (at_builtin; go_loud (refine wpList_copyN (k := 1) (enc := byteC) rfl _ _ 44 rfl 5 i5 _ 1 Tryz.underlying44 hi hz0 hz1 hz2 rfl (by decide) byteC_len byteC_one w.heap.size rfl rfl (some ad) c l rfl h.out hc hmm n2 ?_; intro v1 w1 hown g1))
    obtain ⟨a', c', rfl, ho⟩ := Own.of hown g1
    go_wp2_with fail
    go_ret
    exact ⟨a', c', rfl, ho⟩

set_option maxRecDepth 100000 in
set_option maxHeartbeats 1600000 in
theorem done_any (W w : World) (wb B : Nat) (L : List UInt8) (h : WrAt W w wb B L) (hm : L.length ≤ 1000000) :
    Calls Tryz.prog 51 #[.pointer (some ⟨wb, 0, none⟩)] w fun e w' => ∃ a c, e = .returned (.tuple #[.slice a L.length c, .nilIface]) ∧ Own w w' a c L := by
  obtain ⟨a, c, hb, ho, hwb, hwB, hax, _⟩ := h
  have c0 := hb.cell (i := 0) (v := .slice a L.length c) rfl
  have c1 := hb.cell (i := 1) (v := .bool false) rfl
  have hcl := cloneB_any w a c L ho.2.1 ho.2.2.1 hm
  replace hcl := Lib.hid hcl
  replace ho := Lib.hid ho
  replace hb := Lib.hid hb
  go_enter Tryz.func51, Tryz.ntmps51
  go_wp2_with fail
  refine hcl.out.mono ?_
  rintro e w1 ⟨a1, c1, rfl, h1⟩
  replace h1 := Lib.hid h1
  go_wp2_with fail
  go_ret2
  exact ⟨a1, c1, rfl, h1.out⟩

set_option maxRecDepth 100000 in
set_option maxHeartbeats 1600000 in
theorem framed_any (W w : World) (wb B : Nat) (L : List UInt8) (h : WrAt W w wb B L) (hm : L.length ≤ 32768) :
    Calls Tryz.prog 33 #[.pointer (some ⟨wb, 0, none⟩)] w fun e w' => ∃ a c, e = .returned (.tuple #[.slice a (frameB L).length c, .nilIface]) ∧ Own w w' a c (frameB L) := by
  have hd := done_any W w wb B L h (by omega)
  have hf := fun w1 a c (ho : Own w w1 a c L) => frame_any w1 a c L ho.2.1 ho.2.2.1 hm
  replace hd := Lib.hid hd
  replace hf := Lib.hid hf
  replace h := Lib.hid h
  go_enter Tryz.func33, Tryz.ntmps33
  go_wp2_with fail
  refine hd.out.mono ?_
  rintro e w1 ⟨a1, c1, rfl, h1⟩
  have h1 := Lib.hid h1
  go_wp2_with fail
  refine (hf.out w1 a1 c1 h1.out).mono ?_
  rintro e w2 ⟨a2, c2, rfl, h2⟩
  have h2 := Lib.hid h2
  go_wp2_with fail
  go_ret2
  exact ⟨a2, c2, rfl, h2.out.older h1.out.2.2.2.2⟩
end Go.Proofs.YtglfdnfojpdkjaaGreatDoor
/- desk.entry; slices.Equal of tasks against none; order.Same against the order of nothing; desk.checkAsk. Printed by gen_p6.py. -/
namespace Go.Proofs.YtglfdnfojpdkjaaGreatDoor
open Go.RowKit

set_option maxHeartbeats 800000 in
theorem entry_any (k : Int) (x : EntM) (w : World) :
    Calls Tryz.prog 31 #[.agg #[.int .i64 k, .int .i64 x.e.cl, .int .i64 x.e.nu, .int .i64 x.e.kd, .int .i64 x.e.id, .int .i64 x.e.srv.k, .int .i64 x.e.srv.q, .int .i64 x.e.srv.t, .int .i64 x.e.po, .slice x.a x.e.tasks.length x.c, .int .i64 x.e.at_]] w fun e w' => e = .returned (.agg #[.int .i64 x.e.cl, .int .i64 x.e.nu, .int .i64 x.e.kd, .int .i64 x.e.id, .int .i64 x.e.srv.k, .int .i64 x.e.srv.q, .int .i64 x.e.srv.t, .int .i64 x.e.po, .slice x.a x.e.tasks.length x.c, .int .i64 x.e.at_]) ∧ Gr w w' := by
  go_enter Tryz.func31, Tryz.ntmps31
  go_wp2
  refine bodyPost_ret (v := .agg #[.int .i64 x.e.cl, .int .i64 x.e.nu, .int .i64 x.e.kd, .int .i64 x.e.id, .int .i64 x.e.srv.k, .int .i64 x.e.srv.q, .int .i64 x.e.srv.t, .int .i64 x.e.po, .slice x.a x.e.tasks.length x.c, .int .i64 x.e.at_]) (by simp [results, Tryz.results31, go_sem]) rfl ⟨rfl, ?_⟩
  repeat (first | exact Gr.refl _ | apply Gr.alloc | apply Gr.drew | apply Gr.drewN | (refine Gr.setCell ?_ (by simp) _) | (refine Gr.trans ?_ (by assumption)))

set_option maxHeartbeats 800000 in
theorem equal0_any (a : Option Addr) (n c : Nat) (w : World) :
    Calls Tryz.prog 78 #[.slice a n c, .slice none 0 0] w fun e w' => e = .returned (.bool (decide (n = 0))) ∧ w = w' := by
  by_cases hn : n = 0
  · subst hn
    go_enter Tryz.func78, Tryz.ntmps78
    go_wp2_with fail
    go_loop [13] (fun iv => iv = .int .i64 0) (fun _ => 0)
    case atStart => rfl
    case round =>
      obtain rfl := hrel
      go_wp2_with fail
      go_ret
      exact ⟨rfl, rfl⟩
  · rw [decide_eq_false hn]
    have h1 : ((n : Int) == 0) = false := beq_eq_false_iff_ne.2 (by omega)
    go_enter Tryz.func78, Tryz.ntmps78
    go_wp2_with fail
    go_ret
    exact ⟨rfl, rfl⟩

/-- An order of nothing. -/
def zoB (e : Ent) : Bool := decide (e.kd = 0) && decide (e.id = 0) && decide (e.srv.k = 0 ∧ e.srv.q = 0 ∧ e.srv.t = 0) && decide (e.po = 0) && decide (e.at_ = 0) && decide (e.tasks.length = 0)
theorem key_eql (a b : Int) (w : World) : (binOp .eql 110 (.agg #[.int .i64 a, .int .i64 b]) (.agg #[.int .i64 a, .int .i64 b])).run Tryz.prog w = .ok (.bool true) w := by
  simp [go_sem]

theorem Blk.new1 {w : World} {n : Nat} {cs : Array Value} {t : TypeId} (h : w.heap.size = n) : Blk (w.alloc (.cells cs t)) n cs t := by
  subst h
  exact Blk.new w cs t
theorem zo_iff (e : Ent) : zoB e = true ↔ e.kd = 0 ∧ e.id = 0 ∧ (e.srv.k = 0 ∧ e.srv.q = 0 ∧ e.srv.t = 0) ∧ e.po = 0 ∧ e.at_ = 0 ∧ e.tasks.length = 0 := by
  unfold zoB
  simp only [Bool.and_eq_true, decide_eq_true_iff, and_assoc]
theorem zo_no {e : Ent} {v : Bool} (hz : Hid (v = zoB e)) (h : ¬ (e.kd = 0 ∧ e.id = 0 ∧ (e.srv.k = 0 ∧ e.srv.q = 0 ∧ e.srv.t = 0) ∧ e.po = 0 ∧ e.at_ = 0 ∧ e.tasks.length = 0)) : false = v := by
  rw [hz.out]
  cases hv : zoB e with
  | false => rfl
  | true => exact absurd ((zo_iff e).1 hv) h
set_option maxRecDepth 100000 in
set_option maxHeartbeats 6400000 in
theorem same0_any (x : EntM) (w : World) :
    Calls Tryz.prog 58 #[.agg #[.int .i64 x.e.cl, .int .i64 x.e.nu, .int .i64 x.e.kd, .int .i64 x.e.id, .int .i64 x.e.srv.k, .int .i64 x.e.srv.q, .int .i64 x.e.srv.t, .int .i64 x.e.po, .slice x.a x.e.tasks.length x.c, .int .i64 x.e.at_], .agg #[.int .i64 x.e.cl, .int .i64 x.e.nu, .int .i64 0, .int .i64 0, .int .i64 0, .int .i64 0, .int .i64 0, .int .i64 0, .slice none 0 0, .int .i64 0]] w fun e w' => e = .returned (.bool (zoB x.e)) ∧ Gr w w' := by
  obtain ⟨v, hz⟩ : ∃ v, v = zoB x.e := ⟨_, rfl⟩
  rw [← hz]
  replace hz := Lib.hid hz
  go_enter Tryz.func58, Tryz.ntmps58
  go_upto_region 1 with fail
  go_cut [5, 6] (fun s5 s6 wx => ∃ b5 b6, s5 = .pointer (some ⟨b5, 0, none⟩) ∧ s6 = .pointer (some ⟨b6, 0, none⟩) ∧ Blk wx b5 #[.int .i64 x.e.kd, .int .i64 x.e.id, .int .i64 x.e.srv.k, .int .i64 x.e.srv.q, .int .i64 x.e.srv.t, .int .i64 x.e.po, .slice x.a x.e.tasks.length x.c, .int .i64 x.e.at_] 27 ∧ Blk wx b6 #[.int .i64 0, .int .i64 0, .int .i64 0, .int .i64 0, .int .i64 0, .int .i64 0, .slice none 0 0, .int .i64 0] 27 ∧ Gr ((w.alloc (.cells #[.int .i64 x.e.cl, .int .i64 x.e.nu, .int .i64 x.e.kd, .int .i64 x.e.id, .int .i64 x.e.srv.k, .int .i64 x.e.srv.q, .int .i64 x.e.srv.t, .int .i64 x.e.po, .slice x.a x.e.tasks.length x.c, .int .i64 x.e.at_] 60)).alloc (.cells #[.int .i64 x.e.cl, .int .i64 x.e.nu, .int .i64 0, .int .i64 0, .int .i64 0, .int .i64 0, .int .i64 0, .int .i64 0, .slice none 0 0, .int .i64 0] 60)) wx)
  case first =>
    go_region
    all_goals go_wp2_with fail
    all_goals go_meet
    all_goals refine ⟨_, _, rfl, rfl, ?_, ?_, ?_⟩
    all_goals first | exact (Blk.new1 (by simp)).drew | exact ((Blk.new1 (by simp)).alloc _).drew | exact (by repeat (first | exact Gr.refl _ | apply Gr.alloc | apply Gr.drew | apply Gr.drewN | (refine Gr.setCell ?_ (by first | (simp; done) | (simp; omega)) _) | (refine Gr.trans ?_ (by assumption))))
  case rest =>
    obtain ⟨b5, b6, rfl, rfl, hb5, hb6, g0⟩ := hcut
    have g : Gr w wc := (((Gr.refl w).alloc _).alloc _).trans g0
    have hb2 := ((Blk.new w #[.int .i64 x.e.cl, .int .i64 x.e.nu, .int .i64 x.e.kd, .int .i64 x.e.id, .int .i64 x.e.srv.k, .int .i64 x.e.srv.q, .int .i64 x.e.srv.t, .int .i64 x.e.po, .slice x.a x.e.tasks.length x.c, .int .i64 x.e.at_] 60).alloc (.cells #[.int .i64 x.e.cl, .int .i64 x.e.nu, .int .i64 0, .int .i64 0, .int .i64 0, .int .i64 0, .int .i64 0, .int .i64 0, .slice none 0 0, .int .i64 0] 60)).gr g0
    have hb3 := (Blk.new1 (w := w.alloc (.cells #[.int .i64 x.e.cl, .int .i64 x.e.nu, .int .i64 x.e.kd, .int .i64 x.e.id, .int .i64 x.e.srv.k, .int .i64 x.e.srv.q, .int .i64 x.e.srv.t, .int .i64 x.e.po, .slice x.a x.e.tasks.length x.c, .int .i64 x.e.at_] 60)) (n := w.heap.size + 1) (cs := #[.int .i64 x.e.cl, .int .i64 x.e.nu, .int .i64 0, .int .i64 0, .int .i64 0, .int .i64 0, .int .i64 0, .int .i64 0, .slice none 0 0, .int .i64 0]) (t := 60) (by simp)).gr g0
    have z5 := hb5.lt
    have z6 := hb6.lt
    have z2 := hb2.lt
    have z3 := hb3.lt
    have p0 := GrW.cell (hb5.cell (i := 0) (v := .int .i64 x.e.kd) rfl)
    have p1 := GrW.cell (hb5.cell (i := 1) (v := .int .i64 x.e.id) rfl)
    have p2 := GrW.cell (hb5.cell (i := 2) (v := .int .i64 x.e.srv.k) rfl)
    have p3 := GrW.cell (hb5.cell (i := 3) (v := .int .i64 x.e.srv.q) rfl)
    have p4 := GrW.cell (hb5.cell (i := 4) (v := .int .i64 x.e.srv.t) rfl)
    have p5 := GrW.cell (hb5.cell (i := 5) (v := .int .i64 x.e.po) rfl)
    have p6 := GrW.cell (hb5.cell (i := 6) (v := .slice x.a x.e.tasks.length x.c) rfl)
    have p7 := GrW.cell (hb5.cell (i := 7) (v := .int .i64 x.e.at_) rfl)
    have q0 := GrW.cell (hb6.cell (i := 0) (v := .int .i64 0) rfl)
    have q1 := GrW.cell (hb6.cell (i := 1) (v := .int .i64 0) rfl)
    have q2 := GrW.cell (hb6.cell (i := 2) (v := .int .i64 0) rfl)
    have q3 := GrW.cell (hb6.cell (i := 3) (v := .int .i64 0) rfl)
    have q4 := GrW.cell (hb6.cell (i := 4) (v := .int .i64 0) rfl)
    have q5 := GrW.cell (hb6.cell (i := 5) (v := .int .i64 0) rfl)
    have q6 := GrW.cell (hb6.cell (i := 6) (v := .slice none 0 0) rfl)
    have q7 := GrW.cell (hb6.cell (i := 7) (v := .int .i64 0) rfl)
    have r0 := GrW.cell (hb2.cell (i := 0) (v := .int .i64 x.e.cl) rfl)
    have r1 := GrW.cell (hb2.cell (i := 1) (v := .int .i64 x.e.nu) rfl)
    have r2 := GrW.cell (hb2.cell (i := 2) (v := .int .i64 x.e.kd) rfl)
    have r3 := GrW.cell (hb2.cell (i := 3) (v := .int .i64 x.e.id) rfl)
    have r4 := GrW.cell (hb2.cell (i := 4) (v := .int .i64 x.e.srv.k) rfl)
    have r5 := GrW.cell (hb2.cell (i := 5) (v := .int .i64 x.e.srv.q) rfl)
    have r6 := GrW.cell (hb2.cell (i := 6) (v := .int .i64 x.e.srv.t) rfl)
    have r7 := GrW.cell (hb2.cell (i := 7) (v := .int .i64 x.e.po) rfl)
    have r8 := GrW.cell (hb2.cell (i := 8) (v := .slice x.a x.e.tasks.length x.c) rfl)
    have r9 := GrW.cell (hb2.cell (i := 9) (v := .int .i64 x.e.at_) rfl)
    have s0 := GrW.cell (hb3.cell (i := 0) (v := .int .i64 x.e.cl) rfl)
    have s1 := GrW.cell (hb3.cell (i := 1) (v := .int .i64 x.e.nu) rfl)
    have s2 := GrW.cell (hb3.cell (i := 2) (v := .int .i64 0) rfl)
    have s3 := GrW.cell (hb3.cell (i := 3) (v := .int .i64 0) rfl)
    have s4 := GrW.cell (hb3.cell (i := 4) (v := .int .i64 0) rfl)
    have s5 := GrW.cell (hb3.cell (i := 5) (v := .int .i64 0) rfl)
    have s6 := GrW.cell (hb3.cell (i := 6) (v := .int .i64 0) rfl)
    have s7 := GrW.cell (hb3.cell (i := 7) (v := .int .i64 0) rfl)
    have s8 := GrW.cell (hb3.cell (i := 8) (v := .slice none 0 0) rfl)
    have s9 := GrW.cell (hb3.cell (i := 9) (v := .int .i64 0) rfl)
    have hky := fun w => key_eql x.e.cl x.e.nu w
    have hsv := fun w => srv_eql x.e.srv ⟨0, 0, 0⟩ w
    dsimp only at hsv
    replace g := Lib.hid g
    clear hb2 hb3 hb5 hb6 g0
    by_cases hkd : x.e.kd = 0
    · have tkd : (x.e.kd == 0) = true := by simpa using hkd
      replace hkd := Lib.hid hkd
      by_cases hid : x.e.id = 0
      · have tid : (x.e.id == 0) = true := by simpa using hid
        replace hid := Lib.hid hid
        by_cases hsv0 : (x.e.srv.k = 0 ∧ x.e.srv.q = 0 ∧ x.e.srv.t = 0)
        · rw [decide_eq_true hsv0] at hsv
          replace hsv0 := Lib.hid hsv0
          by_cases hpo : x.e.po = 0
          · have tpo : (x.e.po == 0) = true := by simpa using hpo
            replace hpo := Lib.hid hpo
            by_cases hat : x.e.at_ = 0
            · have tat : (x.e.at_ == 0) = true := by simpa using hat
              replace hat := Lib.hid hat
              have heq := fun w => equal0_any x.a x.e.tasks.length x.c w
              by_cases htl : x.e.tasks.length = 0
              · rw [decide_eq_true htl] at heq
                replace htl := Lib.hid htl
                replace heq := Lib.hid heq
                go_upto_region 2 with fail
                refine wp_region_grows (by kernel_rfl) (by kernel_rfl) ?_
                repeat (any_goals (first | go_big_quiet_step (first | (exact Calls.grows (keyOf_any x _)) | (exact Calls.grows (keyOf_any ⟨⟨x.e.cl, x.e.nu, 0, 0, ⟨0, 0, 0⟩, 0, [], 0⟩, none, 0⟩ _)) | (exact Calls.grows_same (by first | exact heq.out _ | exact equal0_any x.a x.e.tasks.length x.c _))) | quiet_step (first | (exact Calls.grows (keyOf_any x _)) | (exact Calls.grows (keyOf_any ⟨⟨x.e.cl, x.e.nu, 0, 0, ⟨0, 0, 0⟩, 0, [], 0⟩, none, 0⟩ _)) | (exact Calls.grows_same (by first | exact heq.out _ | exact equal0_any x.a x.e.tasks.length x.c _)))))
                refine wpQuiet_nil ?_
                intro wz hwq
                have gz := GrW.of hwq
                clear hwq
                obtain ⟨cz, fz, sz⟩ := gz.cells
                try simp only [size_drewN] at cz fz sz
                try simp only [World.size_alloc] at cz fz sz
                try simp only [World.size_drew] at cz fz sz
                try simp only [World.size_setCell] at cz fz sz
                go_wp2_with fail
                go_ret
                exact ⟨retb ((hz.out.trans ((zo_iff _).2 ⟨hkd.out, hid.out, hsv0.out, hpo.out, hat.out, htl.out⟩)).symm), g.out.trans gz⟩
              · rw [decide_eq_false htl] at heq
                replace htl := Lib.hid htl
                replace heq := Lib.hid heq
                go_upto_region 2 with fail
                refine wp_region_grows (by kernel_rfl) (by kernel_rfl) ?_
                repeat (any_goals (first | go_big_quiet_step (first | (exact Calls.grows (keyOf_any x _)) | (exact Calls.grows (keyOf_any ⟨⟨x.e.cl, x.e.nu, 0, 0, ⟨0, 0, 0⟩, 0, [], 0⟩, none, 0⟩ _)) | (exact Calls.grows_same (by first | exact heq.out _ | exact equal0_any x.a x.e.tasks.length x.c _))) | quiet_step (first | (exact Calls.grows (keyOf_any x _)) | (exact Calls.grows (keyOf_any ⟨⟨x.e.cl, x.e.nu, 0, 0, ⟨0, 0, 0⟩, 0, [], 0⟩, none, 0⟩ _)) | (exact Calls.grows_same (by first | exact heq.out _ | exact equal0_any x.a x.e.tasks.length x.c _)))))
                refine wpQuiet_nil ?_
                intro wz hwq
                have gz := GrW.of hwq
                clear hwq
                obtain ⟨cz, fz, sz⟩ := gz.cells
                try simp only [size_drewN] at cz fz sz
                try simp only [World.size_alloc] at cz fz sz
                try simp only [World.size_drew] at cz fz sz
                try simp only [World.size_setCell] at cz fz sz
                go_wp2_with fail
                go_ret
                exact ⟨retb (zo_no hz (fun h => htl.out h.2.2.2.2.2)), g.out.trans gz⟩
            · have tat : (x.e.at_ == 0) = false := by simpa using hat
              replace hat := Lib.hid hat
              go_upto_region 2 with fail
              refine wp_region_grows (by kernel_rfl) (by kernel_rfl) ?_
              repeat (any_goals (first | go_big_quiet_step (first | (exact Calls.grows (keyOf_any x _)) | (exact Calls.grows (keyOf_any ⟨⟨x.e.cl, x.e.nu, 0, 0, ⟨0, 0, 0⟩, 0, [], 0⟩, none, 0⟩ _)) | (exact Calls.grows_same (by first | exact heq.out _ | exact equal0_any x.a x.e.tasks.length x.c _))) | quiet_step (first | (exact Calls.grows (keyOf_any x _)) | (exact Calls.grows (keyOf_any ⟨⟨x.e.cl, x.e.nu, 0, 0, ⟨0, 0, 0⟩, 0, [], 0⟩, none, 0⟩ _)) | (exact Calls.grows_same (by first | exact heq.out _ | exact equal0_any x.a x.e.tasks.length x.c _)))))
              refine wpQuiet_nil ?_
              intro wz hwq
              have gz := GrW.of hwq
              clear hwq
              obtain ⟨cz, fz, sz⟩ := gz.cells
              try simp only [size_drewN] at cz fz sz
              try simp only [World.size_alloc] at cz fz sz
              try simp only [World.size_drew] at cz fz sz
              try simp only [World.size_setCell] at cz fz sz
              go_wp2_with fail
              go_ret
              exact ⟨retb (zo_no hz (fun h => hat.out h.2.2.2.2.1)), g.out.trans gz⟩
          · have tpo : (x.e.po == 0) = false := by simpa using hpo
            replace hpo := Lib.hid hpo
            go_upto_region 2 with fail
            refine wp_region_grows (by kernel_rfl) (by kernel_rfl) ?_
            repeat (any_goals (first | go_big_quiet_step (first | (exact Calls.grows (keyOf_any x _)) | (exact Calls.grows (keyOf_any ⟨⟨x.e.cl, x.e.nu, 0, 0, ⟨0, 0, 0⟩, 0, [], 0⟩, none, 0⟩ _)) | (exact Calls.grows_same (by first | exact heq.out _ | exact equal0_any x.a x.e.tasks.length x.c _))) | quiet_step (first | (exact Calls.grows (keyOf_any x _)) | (exact Calls.grows (keyOf_any ⟨⟨x.e.cl, x.e.nu, 0, 0, ⟨0, 0, 0⟩, 0, [], 0⟩, none, 0⟩ _)) | (exact Calls.grows_same (by first | exact heq.out _ | exact equal0_any x.a x.e.tasks.length x.c _)))))
            refine wpQuiet_nil ?_
            intro wz hwq
            have gz := GrW.of hwq
            clear hwq
            obtain ⟨cz, fz, sz⟩ := gz.cells
            try simp only [size_drewN] at cz fz sz
            try simp only [World.size_alloc] at cz fz sz
            try simp only [World.size_drew] at cz fz sz
            try simp only [World.size_setCell] at cz fz sz
            go_wp2_with fail
            go_ret
            exact ⟨retb (zo_no hz (fun h => hpo.out h.2.2.2.1)), g.out.trans gz⟩
        · rw [decide_eq_false hsv0] at hsv
          replace hsv0 := Lib.hid hsv0
          go_upto_region 2 with fail
          refine wp_region_grows (by kernel_rfl) (by kernel_rfl) ?_
          repeat (any_goals (first | go_big_quiet_step (first | (exact Calls.grows (keyOf_any x _)) | (exact Calls.grows (keyOf_any ⟨⟨x.e.cl, x.e.nu, 0, 0, ⟨0, 0, 0⟩, 0, [], 0⟩, none, 0⟩ _)) | (exact Calls.grows_same (by first | exact heq.out _ | exact equal0_any x.a x.e.tasks.length x.c _))) | quiet_step (first | (exact Calls.grows (keyOf_any x _)) | (exact Calls.grows (keyOf_any ⟨⟨x.e.cl, x.e.nu, 0, 0, ⟨0, 0, 0⟩, 0, [], 0⟩, none, 0⟩ _)) | (exact Calls.grows_same (by first | exact heq.out _ | exact equal0_any x.a x.e.tasks.length x.c _)))))
          refine wpQuiet_nil ?_
          intro wz hwq
          have gz := GrW.of hwq
          clear hwq
          obtain ⟨cz, fz, sz⟩ := gz.cells
          try simp only [size_drewN] at cz fz sz
          try simp only [World.size_alloc] at cz fz sz
          try simp only [World.size_drew] at cz fz sz
          try simp only [World.size_setCell] at cz fz sz
          go_wp2_with fail
          go_ret
          exact ⟨retb (zo_no hz (fun h => hsv0.out h.2.2.1)), g.out.trans gz⟩
      · have tid : (x.e.id == 0) = false := by simpa using hid
        replace hid := Lib.hid hid
        go_upto_region 2 with fail
        refine wp_region_grows (by kernel_rfl) (by kernel_rfl) ?_
        repeat (any_goals (first | go_big_quiet_step (first | (exact Calls.grows (keyOf_any x _)) | (exact Calls.grows (keyOf_any ⟨⟨x.e.cl, x.e.nu, 0, 0, ⟨0, 0, 0⟩, 0, [], 0⟩, none, 0⟩ _)) | (exact Calls.grows_same (by first | exact heq.out _ | exact equal0_any x.a x.e.tasks.length x.c _))) | quiet_step (first | (exact Calls.grows (keyOf_any x _)) | (exact Calls.grows (keyOf_any ⟨⟨x.e.cl, x.e.nu, 0, 0, ⟨0, 0, 0⟩, 0, [], 0⟩, none, 0⟩ _)) | (exact Calls.grows_same (by first | exact heq.out _ | exact equal0_any x.a x.e.tasks.length x.c _)))))
        refine wpQuiet_nil ?_
        intro wz hwq
        have gz := GrW.of hwq
        clear hwq
        obtain ⟨cz, fz, sz⟩ := gz.cells
        try simp only [size_drewN] at cz fz sz
        try simp only [World.size_alloc] at cz fz sz
        try simp only [World.size_drew] at cz fz sz
        try simp only [World.size_setCell] at cz fz sz
        go_wp2_with fail
        go_ret
        exact ⟨retb (zo_no hz (fun h => hid.out h.2.1)), g.out.trans gz⟩
    · have tkd : (x.e.kd == 0) = false := by simpa using hkd
      replace hkd := Lib.hid hkd
      go_upto_region 2 with fail
      refine wp_region_grows (by kernel_rfl) (by kernel_rfl) ?_
      repeat (any_goals (first | go_big_quiet_step (first | (exact Calls.grows (keyOf_any x _)) | (exact Calls.grows (keyOf_any ⟨⟨x.e.cl, x.e.nu, 0, 0, ⟨0, 0, 0⟩, 0, [], 0⟩, none, 0⟩ _)) | (exact Calls.grows_same (by first | exact heq.out _ | exact equal0_any x.a x.e.tasks.length x.c _))) | quiet_step (first | (exact Calls.grows (keyOf_any x _)) | (exact Calls.grows (keyOf_any ⟨⟨x.e.cl, x.e.nu, 0, 0, ⟨0, 0, 0⟩, 0, [], 0⟩, none, 0⟩ _)) | (exact Calls.grows_same (by first | exact heq.out _ | exact equal0_any x.a x.e.tasks.length x.c _)))))
      refine wpQuiet_nil ?_
      intro wz hwq
      have gz := GrW.of hwq
      clear hwq
      obtain ⟨cz, fz, sz⟩ := gz.cells
      try simp only [size_drewN] at cz fz sz
      try simp only [World.size_alloc] at cz fz sz
      try simp only [World.size_drew] at cz fz sz
      try simp only [World.size_setCell] at cz fz sz
      go_wp2_with fail
      go_ret
      exact ⟨retb (zo_no hz (fun h => hkd.out h.1)), g.out.trans gz⟩
end Go.Proofs.YtglfdnfojpdkjaaGreatDoor
/- desk.checkAsk. Printed by gen_p7.py. -/
namespace Go.Proofs.YtglfdnfojpdkjaaGreatDoor
open Go.RowKit

/-- A question in form. -/
def askF (k : Int) (e : Ent) : Bool := (decide (k = 1) && entF e) || (decide (k = 2) && zoB e && decide (0 ≤ e.cl ∧ e.cl < 16 ∧ 1 ≤ e.nu ∧ e.nu ≤ 1099511627776))
set_option maxRecDepth 100000 in
set_option maxHeartbeats 3200000 in
theorem checkAsk_any {G : List Nat} {E : Nat → Addr} (k : Int) (x : EntM) (w : World) (h : x.ok Any w) (hE : EAt G E w) (i0 : 1 ∈ G) :
    Calls Tryz.prog 27 #[.agg #[.int .i64 k, .int .i64 x.e.cl, .int .i64 x.e.nu, .int .i64 x.e.kd, .int .i64 x.e.id, .int .i64 x.e.srv.k, .int .i64 x.e.srv.q, .int .i64 x.e.srv.t, .int .i64 x.e.po, .slice x.a x.e.tasks.length x.c, .int .i64 x.e.at_]] w fun e w' => e = .returned (entV E (askF k x.e)) ∧ Gr w w' := by
  by_cases h1 : k = 1
  · subst h1
    have hv : entV E (askF 1 x.e) = entV E (entF x.e) := by unfold askF; simp
    rw [hv]
    have hch := fun w' (g : Gr w w') => check_any x w' (h.gr g) (hE.gr g) i0
    generalize entV E (entF x.e) = v at *
    replace hch := Lib.hid hch
    replace hv := Lib.hid hv
    replace h := Lib.hid h
    go_enter Tryz.func27, Tryz.ntmps27
    go_wp2_with fail
    refine (entry_any 1 x _).mono ?_
    rintro e wa ⟨rfl, ga⟩
    obtain ⟨ca, fa, sa⟩ := ga.cells
    try simp only [size_drewN] at ca fa sa
    try simp only [World.size_alloc] at ca fa sa
    try simp only [World.size_drew] at ca fa sa
    try simp only [World.size_setCell] at ca fa sa
    go_wp2_with fail
    go_wp2_with fail
    refine (hch.out _ (((Gr.refl w).alloc _).trans ga)).mono ?_
    rintro e wb ⟨rfl, gb⟩
    obtain ⟨cb, fb, sb⟩ := gb.cells
    try simp only [size_drewN] at cb fb sb
    try simp only [World.size_alloc] at cb fb sb
    try simp only [World.size_drew] at cb fb sb
    try simp only [World.size_setCell] at cb fb sb
    go_wp2_with fail
    go_ret
    exact ⟨rfl, (((Gr.refl w).alloc _).trans ga).trans gb⟩
  · have t1 : (k == 1) = false := by simpa using h1
    by_cases h2 : k = 2
    · subst h2
      have hv : askF 2 x.e = (zoB x.e && decide (0 ≤ x.e.cl ∧ x.e.cl < 16 ∧ 1 ≤ x.e.nu ∧ x.e.nu ≤ 1099511627776)) := by unfold askF; simp
      rw [hv]
      have hsm := fun w => same0_any x w
      clear h1 h hv
      cases hz : zoB x.e with
      | false =>
        rw [hz] at hsm
        rw [Bool.false_and]
        replace hsm := Lib.hid hsm
        replace hz := Lib.hid hz
        go_enter Tryz.func27, Tryz.ntmps27
        go_upto_region 5 with fail
        have hb := Blk.new w #[.int .i64 2, .int .i64 x.e.cl, .int .i64 x.e.nu, .int .i64 x.e.kd, .int .i64 x.e.id, .int .i64 x.e.srv.k, .int .i64 x.e.srv.q, .int .i64 x.e.srv.t, .int .i64 x.e.po, .slice x.a x.e.tasks.length x.c, .int .i64 x.e.at_] 29
        have q0 := GrW.cell (hb.cell (i := 0) (v := .int .i64 2) rfl)
        have q1 := GrW.cell (hb.cell (i := 1) (v := .int .i64 x.e.cl) rfl)
        have q2 := GrW.cell (hb.cell (i := 2) (v := .int .i64 x.e.nu) rfl)
        have q3 := GrW.cell (hb.cell (i := 3) (v := .int .i64 x.e.kd) rfl)
        have q4 := GrW.cell (hb.cell (i := 4) (v := .int .i64 x.e.id) rfl)
        have q5 := GrW.cell (hb.cell (i := 5) (v := .int .i64 x.e.srv.k) rfl)
        have q6 := GrW.cell (hb.cell (i := 6) (v := .int .i64 x.e.srv.q) rfl)
        have q7 := GrW.cell (hb.cell (i := 7) (v := .int .i64 x.e.srv.t) rfl)
        have q8 := GrW.cell (hb.cell (i := 8) (v := .int .i64 x.e.po) rfl)
        have q9 := GrW.cell (hb.cell (i := 9) (v := .slice x.a x.e.tasks.length x.c) rfl)
        have q10 := GrW.cell (hb.cell (i := 10) (v := .int .i64 x.e.at_) rfl)
        refine wp_region_grows (by kernel_rfl) (by kernel_rfl) ?_
        repeat (any_goals (first | go_big_quiet_step (first | (exact Calls.grows (entry_any 2 x _)) | (exact Calls.grows (hsm.out _))) | quiet_step (first | (exact Calls.grows (entry_any 2 x _)) | (exact Calls.grows (hsm.out _)))))
        refine wpQuiet_nil ?_
        intro wz hwq
        have gz := GrW.of hwq
        clear hwq
        obtain ⟨cz, fz, sz⟩ := gz.cells
        try simp only [size_drewN] at cz fz sz
        try simp only [World.size_alloc] at cz fz sz
        try simp only [World.size_drew] at cz fz sz
        try simp only [World.size_setCell] at cz fz sz
        have zz0 : w.heap.size < wz.heap.size := by omega
        have yz0 : w.heap.size ≤ wz.heap.size := by omega
        have kz0 := fun o => cz (w.heap.size) o (by omega)
        have jz0 := fun o => fz (w.heap.size) o (by omega)
        have he := (hE.gr (((Gr.refl w).alloc _).trans gz)).c0 i0
        clear cz fz
        go_wp2_with fail
        go_ret
        exact ⟨rfl, ((Gr.refl w).alloc _).trans gz⟩
      | true =>
        rw [hz] at hsm
        rw [Bool.true_and]
        replace hsm := Lib.hid hsm
        replace hz := Lib.hid hz
        by_cases n1 : 0 ≤ x.e.cl
        · by_cases n2 : x.e.cl < 16
          · by_cases n3 : 1 ≤ x.e.nu
            · by_cases n4 : x.e.nu ≤ 1099511627776
              · rw [decide_eq_true (show 0 ≤ x.e.cl ∧ x.e.cl < 16 ∧ 1 ≤ x.e.nu ∧ x.e.nu ≤ 1099511627776 from ⟨n1, n2, n3, n4⟩)]
                go_enter Tryz.func27, Tryz.ntmps27
                go_upto_region 5 with fail
                have hb := Blk.new w #[.int .i64 2, .int .i64 x.e.cl, .int .i64 x.e.nu, .int .i64 x.e.kd, .int .i64 x.e.id, .int .i64 x.e.srv.k, .int .i64 x.e.srv.q, .int .i64 x.e.srv.t, .int .i64 x.e.po, .slice x.a x.e.tasks.length x.c, .int .i64 x.e.at_] 29
                have q0 := GrW.cell (hb.cell (i := 0) (v := .int .i64 2) rfl)
                have q1 := GrW.cell (hb.cell (i := 1) (v := .int .i64 x.e.cl) rfl)
                have q2 := GrW.cell (hb.cell (i := 2) (v := .int .i64 x.e.nu) rfl)
                have q3 := GrW.cell (hb.cell (i := 3) (v := .int .i64 x.e.kd) rfl)
                have q4 := GrW.cell (hb.cell (i := 4) (v := .int .i64 x.e.id) rfl)
                have q5 := GrW.cell (hb.cell (i := 5) (v := .int .i64 x.e.srv.k) rfl)
                have q6 := GrW.cell (hb.cell (i := 6) (v := .int .i64 x.e.srv.q) rfl)
                have q7 := GrW.cell (hb.cell (i := 7) (v := .int .i64 x.e.srv.t) rfl)
                have q8 := GrW.cell (hb.cell (i := 8) (v := .int .i64 x.e.po) rfl)
                have q9 := GrW.cell (hb.cell (i := 9) (v := .slice x.a x.e.tasks.length x.c) rfl)
                have q10 := GrW.cell (hb.cell (i := 10) (v := .int .i64 x.e.at_) rfl)
                refine wp_region_grows (by kernel_rfl) (by kernel_rfl) ?_
                repeat (any_goals (first | go_big_quiet_step (first | (exact Calls.grows (entry_any 2 x _)) | (exact Calls.grows (hsm.out _))) | quiet_step (first | (exact Calls.grows (entry_any 2 x _)) | (exact Calls.grows (hsm.out _)))))
                refine wpQuiet_nil ?_
                intro wz hwq
                have gz := GrW.of hwq
                clear hwq
                obtain ⟨cz, fz, sz⟩ := gz.cells
                try simp only [size_drewN] at cz fz sz
                try simp only [World.size_alloc] at cz fz sz
                try simp only [World.size_drew] at cz fz sz
                try simp only [World.size_setCell] at cz fz sz
                have zz0 : w.heap.size < wz.heap.size := by omega
                have yz0 : w.heap.size ≤ wz.heap.size := by omega
                have kz0 := fun o => cz (w.heap.size) o (by omega)
                have jz0 := fun o => fz (w.heap.size) o (by omega)
                have he := (hE.gr (((Gr.refl w).alloc _).trans gz)).c0 i0
                clear cz fz
                go_wp2_with fail
                go_ret
                exact ⟨rfl, ((Gr.refl w).alloc _).trans gz⟩
              · rw [decide_eq_false (show ¬ (0 ≤ x.e.cl ∧ x.e.cl < 16 ∧ 1 ≤ x.e.nu ∧ x.e.nu ≤ 1099511627776) from fun e => n4 e.2.2.2)]
                go_enter Tryz.func27, Tryz.ntmps27
                go_upto_region 5 with fail
                have hb := Blk.new w #[.int .i64 2, .int .i64 x.e.cl, .int .i64 x.e.nu, .int .i64 x.e.kd, .int .i64 x.e.id, .int .i64 x.e.srv.k, .int .i64 x.e.srv.q, .int .i64 x.e.srv.t, .int .i64 x.e.po, .slice x.a x.e.tasks.length x.c, .int .i64 x.e.at_] 29
                have q0 := GrW.cell (hb.cell (i := 0) (v := .int .i64 2) rfl)
                have q1 := GrW.cell (hb.cell (i := 1) (v := .int .i64 x.e.cl) rfl)
                have q2 := GrW.cell (hb.cell (i := 2) (v := .int .i64 x.e.nu) rfl)
                have q3 := GrW.cell (hb.cell (i := 3) (v := .int .i64 x.e.kd) rfl)
                have q4 := GrW.cell (hb.cell (i := 4) (v := .int .i64 x.e.id) rfl)
                have q5 := GrW.cell (hb.cell (i := 5) (v := .int .i64 x.e.srv.k) rfl)
                have q6 := GrW.cell (hb.cell (i := 6) (v := .int .i64 x.e.srv.q) rfl)
                have q7 := GrW.cell (hb.cell (i := 7) (v := .int .i64 x.e.srv.t) rfl)
                have q8 := GrW.cell (hb.cell (i := 8) (v := .int .i64 x.e.po) rfl)
                have q9 := GrW.cell (hb.cell (i := 9) (v := .slice x.a x.e.tasks.length x.c) rfl)
                have q10 := GrW.cell (hb.cell (i := 10) (v := .int .i64 x.e.at_) rfl)
                refine wp_region_grows (by kernel_rfl) (by kernel_rfl) ?_
                repeat (any_goals (first | go_big_quiet_step (first | (exact Calls.grows (entry_any 2 x _)) | (exact Calls.grows (hsm.out _))) | quiet_step (first | (exact Calls.grows (entry_any 2 x _)) | (exact Calls.grows (hsm.out _)))))
                refine wpQuiet_nil ?_
                intro wz hwq
                have gz := GrW.of hwq
                clear hwq
                obtain ⟨cz, fz, sz⟩ := gz.cells
                try simp only [size_drewN] at cz fz sz
                try simp only [World.size_alloc] at cz fz sz
                try simp only [World.size_drew] at cz fz sz
                try simp only [World.size_setCell] at cz fz sz
                have zz0 : w.heap.size < wz.heap.size := by omega
                have yz0 : w.heap.size ≤ wz.heap.size := by omega
                have kz0 := fun o => cz (w.heap.size) o (by omega)
                have jz0 := fun o => fz (w.heap.size) o (by omega)
                have he := (hE.gr (((Gr.refl w).alloc _).trans gz)).c0 i0
                clear cz fz
                go_wp2_with fail
                go_ret
                exact ⟨rfl, ((Gr.refl w).alloc _).trans gz⟩
            · rw [decide_eq_false (show ¬ (0 ≤ x.e.cl ∧ x.e.cl < 16 ∧ 1 ≤ x.e.nu ∧ x.e.nu ≤ 1099511627776) from fun e => n3 e.2.2.1)]
              go_enter Tryz.func27, Tryz.ntmps27
              go_upto_region 5 with fail
              have hb := Blk.new w #[.int .i64 2, .int .i64 x.e.cl, .int .i64 x.e.nu, .int .i64 x.e.kd, .int .i64 x.e.id, .int .i64 x.e.srv.k, .int .i64 x.e.srv.q, .int .i64 x.e.srv.t, .int .i64 x.e.po, .slice x.a x.e.tasks.length x.c, .int .i64 x.e.at_] 29
              have q0 := GrW.cell (hb.cell (i := 0) (v := .int .i64 2) rfl)
              have q1 := GrW.cell (hb.cell (i := 1) (v := .int .i64 x.e.cl) rfl)
              have q2 := GrW.cell (hb.cell (i := 2) (v := .int .i64 x.e.nu) rfl)
              have q3 := GrW.cell (hb.cell (i := 3) (v := .int .i64 x.e.kd) rfl)
              have q4 := GrW.cell (hb.cell (i := 4) (v := .int .i64 x.e.id) rfl)
              have q5 := GrW.cell (hb.cell (i := 5) (v := .int .i64 x.e.srv.k) rfl)
              have q6 := GrW.cell (hb.cell (i := 6) (v := .int .i64 x.e.srv.q) rfl)
              have q7 := GrW.cell (hb.cell (i := 7) (v := .int .i64 x.e.srv.t) rfl)
              have q8 := GrW.cell (hb.cell (i := 8) (v := .int .i64 x.e.po) rfl)
              have q9 := GrW.cell (hb.cell (i := 9) (v := .slice x.a x.e.tasks.length x.c) rfl)
              have q10 := GrW.cell (hb.cell (i := 10) (v := .int .i64 x.e.at_) rfl)
              refine wp_region_grows (by kernel_rfl) (by kernel_rfl) ?_
              repeat (any_goals (first | go_big_quiet_step (first | (exact Calls.grows (entry_any 2 x _)) | (exact Calls.grows (hsm.out _))) | quiet_step (first | (exact Calls.grows (entry_any 2 x _)) | (exact Calls.grows (hsm.out _)))))
              refine wpQuiet_nil ?_
              intro wz hwq
              have gz := GrW.of hwq
              clear hwq
              obtain ⟨cz, fz, sz⟩ := gz.cells
              try simp only [size_drewN] at cz fz sz
              try simp only [World.size_alloc] at cz fz sz
              try simp only [World.size_drew] at cz fz sz
              try simp only [World.size_setCell] at cz fz sz
              have zz0 : w.heap.size < wz.heap.size := by omega
              have yz0 : w.heap.size ≤ wz.heap.size := by omega
              have kz0 := fun o => cz (w.heap.size) o (by omega)
              have jz0 := fun o => fz (w.heap.size) o (by omega)
              have he := (hE.gr (((Gr.refl w).alloc _).trans gz)).c0 i0
              clear cz fz
              go_wp2_with fail
              go_ret
              exact ⟨rfl, ((Gr.refl w).alloc _).trans gz⟩
          · rw [decide_eq_false (show ¬ (0 ≤ x.e.cl ∧ x.e.cl < 16 ∧ 1 ≤ x.e.nu ∧ x.e.nu ≤ 1099511627776) from fun e => n2 e.2.1)]
            go_enter Tryz.func27, Tryz.ntmps27
            go_upto_region 5 with fail
            have hb := Blk.new w #[.int .i64 2, .int .i64 x.e.cl, .int .i64 x.e.nu, .int .i64 x.e.kd, .int .i64 x.e.id, .int .i64 x.e.srv.k, .int .i64 x.e.srv.q, .int .i64 x.e.srv.t, .int .i64 x.e.po, .slice x.a x.e.tasks.length x.c, .int .i64 x.e.at_] 29
            have q0 := GrW.cell (hb.cell (i := 0) (v := .int .i64 2) rfl)
            have q1 := GrW.cell (hb.cell (i := 1) (v := .int .i64 x.e.cl) rfl)
            have q2 := GrW.cell (hb.cell (i := 2) (v := .int .i64 x.e.nu) rfl)
            have q3 := GrW.cell (hb.cell (i := 3) (v := .int .i64 x.e.kd) rfl)
            have q4 := GrW.cell (hb.cell (i := 4) (v := .int .i64 x.e.id) rfl)
            have q5 := GrW.cell (hb.cell (i := 5) (v := .int .i64 x.e.srv.k) rfl)
            have q6 := GrW.cell (hb.cell (i := 6) (v := .int .i64 x.e.srv.q) rfl)
            have q7 := GrW.cell (hb.cell (i := 7) (v := .int .i64 x.e.srv.t) rfl)
            have q8 := GrW.cell (hb.cell (i := 8) (v := .int .i64 x.e.po) rfl)
            have q9 := GrW.cell (hb.cell (i := 9) (v := .slice x.a x.e.tasks.length x.c) rfl)
            have q10 := GrW.cell (hb.cell (i := 10) (v := .int .i64 x.e.at_) rfl)
            refine wp_region_grows (by kernel_rfl) (by kernel_rfl) ?_
            repeat (any_goals (first | go_big_quiet_step (first | (exact Calls.grows (entry_any 2 x _)) | (exact Calls.grows (hsm.out _))) | quiet_step (first | (exact Calls.grows (entry_any 2 x _)) | (exact Calls.grows (hsm.out _)))))
            refine wpQuiet_nil ?_
            intro wz hwq
            have gz := GrW.of hwq
            clear hwq
            obtain ⟨cz, fz, sz⟩ := gz.cells
            try simp only [size_drewN] at cz fz sz
            try simp only [World.size_alloc] at cz fz sz
            try simp only [World.size_drew] at cz fz sz
            try simp only [World.size_setCell] at cz fz sz
            have zz0 : w.heap.size < wz.heap.size := by omega
            have yz0 : w.heap.size ≤ wz.heap.size := by omega
            have kz0 := fun o => cz (w.heap.size) o (by omega)
            have jz0 := fun o => fz (w.heap.size) o (by omega)
            have he := (hE.gr (((Gr.refl w).alloc _).trans gz)).c0 i0
            clear cz fz
            go_wp2_with fail
            go_ret
            exact ⟨rfl, ((Gr.refl w).alloc _).trans gz⟩
        · rw [decide_eq_false (show ¬ (0 ≤ x.e.cl ∧ x.e.cl < 16 ∧ 1 ≤ x.e.nu ∧ x.e.nu ≤ 1099511627776) from fun e => n1 e.1)]
          go_enter Tryz.func27, Tryz.ntmps27
          go_upto_region 5 with fail
          have hb := Blk.new w #[.int .i64 2, .int .i64 x.e.cl, .int .i64 x.e.nu, .int .i64 x.e.kd, .int .i64 x.e.id, .int .i64 x.e.srv.k, .int .i64 x.e.srv.q, .int .i64 x.e.srv.t, .int .i64 x.e.po, .slice x.a x.e.tasks.length x.c, .int .i64 x.e.at_] 29
          have q0 := GrW.cell (hb.cell (i := 0) (v := .int .i64 2) rfl)
          have q1 := GrW.cell (hb.cell (i := 1) (v := .int .i64 x.e.cl) rfl)
          have q2 := GrW.cell (hb.cell (i := 2) (v := .int .i64 x.e.nu) rfl)
          have q3 := GrW.cell (hb.cell (i := 3) (v := .int .i64 x.e.kd) rfl)
          have q4 := GrW.cell (hb.cell (i := 4) (v := .int .i64 x.e.id) rfl)
          have q5 := GrW.cell (hb.cell (i := 5) (v := .int .i64 x.e.srv.k) rfl)
          have q6 := GrW.cell (hb.cell (i := 6) (v := .int .i64 x.e.srv.q) rfl)
          have q7 := GrW.cell (hb.cell (i := 7) (v := .int .i64 x.e.srv.t) rfl)
          have q8 := GrW.cell (hb.cell (i := 8) (v := .int .i64 x.e.po) rfl)
          have q9 := GrW.cell (hb.cell (i := 9) (v := .slice x.a x.e.tasks.length x.c) rfl)
          have q10 := GrW.cell (hb.cell (i := 10) (v := .int .i64 x.e.at_) rfl)
          refine wp_region_grows (by kernel_rfl) (by kernel_rfl) ?_
          repeat (any_goals (first | go_big_quiet_step (first | (exact Calls.grows (entry_any 2 x _)) | (exact Calls.grows (hsm.out _))) | quiet_step (first | (exact Calls.grows (entry_any 2 x _)) | (exact Calls.grows (hsm.out _)))))
          refine wpQuiet_nil ?_
          intro wz hwq
          have gz := GrW.of hwq
          clear hwq
          obtain ⟨cz, fz, sz⟩ := gz.cells
          try simp only [size_drewN] at cz fz sz
          try simp only [World.size_alloc] at cz fz sz
          try simp only [World.size_drew] at cz fz sz
          try simp only [World.size_setCell] at cz fz sz
          have zz0 : w.heap.size < wz.heap.size := by omega
          have yz0 : w.heap.size ≤ wz.heap.size := by omega
          have kz0 := fun o => cz (w.heap.size) o (by omega)
          have jz0 := fun o => fz (w.heap.size) o (by omega)
          have he := (hE.gr (((Gr.refl w).alloc _).trans gz)).c0 i0
          clear cz fz
          go_wp2_with fail
          go_ret
          exact ⟨rfl, ((Gr.refl w).alloc _).trans gz⟩
    · have t2 : (k == 2) = false := by simpa using h2
      have hv : askF k x.e = false := by unfold askF; rw [decide_eq_false h1, decide_eq_false h2]; rfl
      rw [hv]
      have he := (hE.gr ((Gr.refl w).alloc (.cells #[.int .i64 k, .int .i64 x.e.cl, .int .i64 x.e.nu, .int .i64 x.e.kd, .int .i64 x.e.id, .int .i64 x.e.srv.k, .int .i64 x.e.srv.q, .int .i64 x.e.srv.t, .int .i64 x.e.po, .slice x.a x.e.tasks.length x.c, .int .i64 x.e.at_] 29))).c0 i0
      replace h := Lib.hid h
      replace hv := Lib.hid hv
      go_enter Tryz.func27, Tryz.ntmps27
      go_wp2_with fail
      go_ret
      exact ⟨rfl, (Gr.refl w).alloc _⟩
end Go.Proofs.YtglfdnfojpdkjaaGreatDoor
/- order.Put. desk.PutAsk. Printed by gen_p9.py. -/
namespace Go.Proofs.YtglfdnfojpdkjaaGreatDoor
open Go.RowKit

/-- An entry's numbers, in their order. -/
def tskN (t : Tsk) : List Int := [t.c, t.p, t.d, t.s]
def headN (e : Ent) : List Int := [e.cl, e.nu, e.kd, e.at_, e.id, e.srv.k, e.srv.q, e.srv.t, e.po, (e.tasks.length : Int)]
def entN (e : Ent) : List Int := headN e ++ e.tasks.flatMap tskN
def listB (l : List Int) : List UInt8 := l.flatMap fun n => numB n.toNat
theorem listB_snoc (l : List Int) (n : Int) : listB (l ++ [n]) = listB l ++ numB n.toNat := by simp [listB]
theorem listB_append (a b : List Int) : listB (a ++ b) = listB a ++ listB b := by simp [listB]
def Nums (l : List Int) : Prop := ∀ n ∈ l, 0 ≤ n ∧ n ≤ 1099511627776
theorem listB_len : ∀ {l : List Int}, Nums l → (listB l).length ≤ 6 * l.length
  | [], _ => by simp [listB]
  | n :: l, h => by
    have h1 := listB_len (l := l) (fun x hx => h x (List.mem_cons_of_mem _ hx))
    have h2 := h n (List.mem_cons_self ..)
    have h3 := numB_6 (n := n.toNat) (by omega)
    rw [show listB (n :: l) = numB n.toNat ++ listB l from rfl, List.length_append, List.length_cons]
    omega
theorem ent_tasks {e : Ent} (h : entF e = true) : e.tasks.length ≤ 8 ∧ ∀ t ∈ e.tasks, tskF t = true := by
  unfold entF ordFG at h
  simp only [Bool.and_eq_true] at h
  obtain ⟨-, -, h⟩ := h
  split at h
  · simp only [Bool.and_eq_true, decide_eq_true_iff] at h
    rw [h.1.2]
    exact ⟨by simp, fun t ht => by cases ht⟩
  · split at h
    · simp only [Bool.and_eq_true, decide_eq_true_iff] at h
      rw [h.1.2]
      exact ⟨by simp, fun t ht => by cases ht⟩
    · split at h
      · simp only [Bool.and_eq_true, decide_eq_true_iff] at h
        exact ⟨h.1.2, fun t ht => List.all_eq_true.1 h.2 t ht⟩
      · cases h
theorem ent_head {e : Ent} (h : entF e = true) : Nums (headN e) := by
  have ht := (ent_tasks h).1
  unfold entF ordFG at h
  simp only [Bool.and_eq_true, decide_eq_true_iff, okN_iff] at h
  obtain ⟨⟨h1, h2, h3, h4⟩, ⟨⟨h5, h6⟩, h7, h8⟩, h⟩ := h
  have hs : (0 ≤ e.srv.k ∧ e.srv.k ≤ 1099511627776) ∧ (0 ≤ e.srv.q ∧ e.srv.q ≤ 1099511627776) ∧ (0 ≤ e.srv.t ∧ e.srv.t ≤ 1099511627776) ∧ (0 ≤ e.po ∧ e.po ≤ 1099511627776) ∧ 0 ≤ e.kd ∧ e.kd ≤ 1099511627776 := by
    split at h
    · simp only [Bool.and_eq_true, decide_eq_true_iff, okN_iff] at h
      omega
    · split at h
      · simp only [Bool.and_eq_true, decide_eq_true_iff] at h
        omega
      · split at h
        · simp only [Bool.and_eq_true, decide_eq_true_iff, okN_iff] at h
          omega
        · cases h
  intro n hn
  simp only [headN, List.mem_cons, List.not_mem_nil, or_false] at hn
  rcases hn with rfl | rfl | rfl | rfl | rfl | rfl | rfl | rfl | rfl | rfl <;> omega
theorem tsk_nums {t : Tsk} (h : tskF t = true) : Nums (tskN t) := by
  unfold tskF at h
  simp only [Bool.and_eq_true, okN_iff] at h
  intro n hn
  simp only [tskN, List.mem_cons, List.not_mem_nil, or_false] at hn
  rcases hn with rfl | rfl | rfl | rfl <;> omega

theorem tsks_len (l : List Tsk) : (l.flatMap tskN).length = l.length * 4 := by
  induction l with
  | nil => rfl
  | cons t l ih =>
    rw [List.flatMap_cons, List.length_append, ih, List.length_cons]
    have : (tskN t).length = 4 := rfl
    omega
theorem idx_run {t : TypeId} {n : Nat} {cs : Array Value} {k : Nat} {v : Int} (w : World) (h : Tryz.prog.underlying t = some (.array n 3)) (hk : k < n) (hv : cs[k]? = some (.int .i64 v)) : (Instr.index t (.agg cs) (.int .i64 k)).run Tryz.prog w = .ok (.int .i64 v) w := by
  have h1 : (0 : Int) ≤ (k : Int) ∧ (k : Int) < (n : Int) := by omega
  simp [Instr.index, run_underlying h, asIntOf, h1, hv, go_sem]
  omega
theorem newWriter_at (w : World) {n : Nat} (hn : w.heap.size = n) : Calls Tryz.prog 28 #[] w fun e w' => e = .returned (.pointer (some ⟨n, 0, none⟩)) ∧ WrAt w w' n w'.heap.size [] := by
  subst hn
  exact newWriter_any w
set_option maxRecDepth 100000 in
set_option maxHeartbeats 6400000 in
theorem put_yes {G : List Nat} {E : Nat → Addr} (e : Ent) (a : Option Addr) (c : Nat) (w : World) (h : (⟨e, a, c⟩ : EntM).ok Any w) (hE : EAt G E w) (i0 : 1 ∈ G) (hf : entF e = true) :
    Calls Tryz.prog 30 #[.agg #[.int .i64 e.cl, .int .i64 e.nu, .int .i64 e.kd, .int .i64 e.id, .int .i64 e.srv.k, .int .i64 e.srv.q, .int .i64 e.srv.t, .int .i64 e.po, .slice a e.tasks.length c, .int .i64 e.at_]] w fun r w' => ∃ a' c', r = .returned (.tuple #[.slice a' (listB (entN e)).length c', .nilIface]) ∧ Own w w' a' c' (listB (entN e)) := by
  have hck := fun w' (g : Gr w w') => check_any ⟨e, a, c⟩ w' (h.gr g) (hE.gr g) i0
  dsimp only at hck
  rw [hf] at hck
  have hck2 : ∀ w', Gr w w' → Calls Tryz.prog 57 #[.agg #[.int .i64 e.cl, .int .i64 e.nu, .int .i64 e.kd, .int .i64 e.id, .int .i64 e.srv.k, .int .i64 e.srv.q, .int .i64 e.srv.t, .int .i64 e.po, .slice a e.tasks.length c, .int .i64 e.at_]] w' fun e w'' => e = .returned .nilIface ∧ Gr w' w'' := hck
  have hhd := ent_head hf
  obtain ⟨ht8, htk⟩ := ent_tasks hf
  obtain ⟨⟨htr, -⟩, -⟩ := h
  dsimp only at htr
  replace hck2 := Lib.hid hck2
  replace hhd := Lib.hid hhd
  replace htk := Lib.hid htk
  replace hf := Lib.hid hf
  replace htr := Lib.hid htr
  clear hck
  go_enter Tryz.func30, Tryz.ntmps30
  go_wp2_with fail
  refine (hck2.out _ ((Gr.refl w).alloc _)).mono ?_
  rintro e wa ⟨rfl, ga⟩
  obtain ⟨ca, fa, sa⟩ := ga.cells
  try simp only [size_drewN] at ca fa sa
  try simp only [World.size_alloc] at ca fa sa
  try simp only [World.size_drew] at ca fa sa
  try simp only [World.size_setCell] at ca fa sa
  have za0 : w.heap.size < wa.heap.size := by omega
  have ya0 : w.heap.size ≤ wa.heap.size := by omega
  have ka0 := fun o => ca (w.heap.size) o (by omega)
  have ja0 := fun o => fa (w.heap.size) o (by omega)
  go_wp2_with fail
  refine (newWriter_at _ (n := wa.heap.size + 1) (by simp)).mono ?_
  rintro r w3 ⟨rfl, hW⟩
  have g3 := hW.world
  have hbo := (Blk.new wa #[.int .i64 e.kd, .int .i64 e.id, .int .i64 e.srv.k, .int .i64 e.srv.q, .int .i64 e.srv.t, .int .i64 e.po, .slice a e.tasks.length c, .int .i64 e.at_] 27).gr g3
  have hbe := (((Blk.new w #[.int .i64 e.cl, .int .i64 e.nu, .int .i64 e.kd, .int .i64 e.id, .int .i64 e.srv.k, .int .i64 e.srv.q, .int .i64 e.srv.t, .int .i64 e.po, .slice a e.tasks.length c, .int .i64 e.at_] 60).gr ga).alloc (.cells #[.int .i64 e.kd, .int .i64 e.id, .int .i64 e.srv.k, .int .i64 e.srv.q, .int .i64 e.srv.t, .int .i64 e.po, .slice a e.tasks.length c, .int .i64 e.at_] 27)).gr g3
  have gw3 : Gr w w3 := ((((Gr.refl w).alloc _).trans ga).alloc _).trans g3
  have c0 := hbe.cell (i := 0) (v := .int .i64 e.cl) rfl
  have c1 := hbe.cell (i := 1) (v := .int .i64 e.nu) rfl
  have d0 := hbo.cell (i := 0) (v := .int .i64 e.kd) rfl
  have d1 := hbo.cell (i := 1) (v := .int .i64 e.id) rfl
  have d2 := hbo.cell (i := 2) (v := .int .i64 e.srv.k) rfl
  have d3 := hbo.cell (i := 3) (v := .int .i64 e.srv.q) rfl
  have d4 := hbo.cell (i := 4) (v := .int .i64 e.srv.t) rfl
  have d5 := hbo.cell (i := 5) (v := .int .i64 e.po) rfl
  have d6 := hbo.cell (i := 6) (v := .slice a e.tasks.length c) rfl
  have d7 := hbo.cell (i := 7) (v := .int .i64 e.at_) rfl
  replace hW := Lib.hid hW
  have hbo2 := hbo
  replace hbo2 := Lib.hid hbo2
  clear hbe hbo
  go_wp2_with fail
  go_loopw [46] (fun kv wr => ∃ k : Nat, k ≤ 10 ∧ kv = .int .i64 k ∧ WrAt (wa.alloc (.cells #[.int .i64 e.kd, .int .i64 e.id, .int .i64 e.srv.k, .int .i64 e.srv.q, .int .i64 e.srv.t, .int .i64 e.po, .slice a e.tasks.length c, .int .i64 e.at_] 27)) wr (wa.heap.size + 1) wr.heap.size (listB ((headN e).take k))) (fun kv _ => 10 - (intOf kv).toNat)
  case atStart => exact ⟨0, by omega, rfl, hW.out.full⟩
  case round =>
    obtain ⟨k, hk, rfl, hWr⟩ := hrel
    by_cases hlt : k < 10
    · have hlt2 : (k : Int) < 10 := by omega
      obtain ⟨v, hv⟩ := get_some (headN e) k hlt
      obtain ⟨v0, v1⟩ := hhd.out v (List.mem_of_getElem? hv)
      obtain ⟨m, rfl⟩ : ∃ m : Nat, v = m := ⟨v.toNat, by omega⟩
      have hcs : (#[.int .i64 e.cl, .int .i64 e.nu, .int .i64 e.kd, .int .i64 e.at_, .int .i64 e.id, .int .i64 e.srv.k, .int .i64 e.srv.q, .int .i64 e.srv.t, .int .i64 e.po, .int .i64 (e.tasks.length : Int)] : Array Value)[k]? = some (.int .i64 (m : Int)) := by
        show ((headN e).map (Value.int .i64)).toArray[k]? = _
        simp [hv]
      have hix := fun w => idx_run w Tryz.underlying122 hlt hcs
      have hlen := listB_len (l := (headN e).take k) (fun n hn => hhd.out n (List.mem_of_mem_take hn))
      have hlen2 : ((headN e).take k).length ≤ 10 := by rw [List.length_take]; omega
      have hnum := num_anyP _ wr _ wr.heap.size (listB ((headN e).take k)) m hWr (by omega) (by omega)
      have hsn : listB ((headN e).take (k + 1)) = listB ((headN e).take k) ++ numB m := by rw [take_snoc hv, listB_snoc]; rfl
      replace hWr := Lib.hid hWr
      replace hnum := Lib.hid hnum
      replace hsn := Lib.hid hsn
      replace hcs := Lib.hid hcs
      clear hv
      go_wp2_with fail
      refine hnum.out.mono ?_
      rintro r w4 ⟨rfl, hK⟩
      go_wp2_with fail
      go_roundw
      case rel => exact ⟨k + 1, by omega, by go_num, by rw [hsn.out]; exact hK.at⟩
      case measure => simp [intOf]; omega
    · have hk10 : k = 10 := by omega
      have hh : (headN e).take k = headN e := List.take_of_length_le (by rw [hk10]; simp [headN])
      have hk10b : decide ((k : Int) < 10) = false := decide_eq_false (by omega)
      rw [hh] at hWr
      replace hk10 := Lib.hid hk10
      replace hh := Lib.hid hh
      have g4 := hWr.world
      have hbw : Blk wr wa.heap.size #[.int .i64 e.kd, .int .i64 e.id, .int .i64 e.srv.k, .int .i64 e.srv.q, .int .i64 e.srv.t, .int .i64 e.po, .slice a e.tasks.length c, .int .i64 e.at_] 27 := (Blk.new wa #[.int .i64 e.kd, .int .i64 e.id, .int .i64 e.srv.k, .int .i64 e.srv.q, .int .i64 e.srv.t, .int .i64 e.po, .slice a e.tasks.length c, .int .i64 e.at_] 27).gr g4
      have f6 := hbw.cell (i := 6) (v := .slice a e.tasks.length c) rfl
      have z6 := hbw.lt
      have hlh := listB_len hhd.out
      replace hWr := Lib.hid hWr
      replace hbw := Lib.hid hbw
      have hhl : (headN e).length = 10 := rfl
      obtain ⟨H, hH⟩ : ∃ H, H = headN e := ⟨_, rfl⟩
      rw [← hH] at hWr hlh hhl
      replace hH := Lib.hid hH
      have gw2 : Gr w (wa.alloc (.cells #[.int .i64 e.kd, .int .i64 e.id, .int .i64 e.srv.k, .int .i64 e.srv.q, .int .i64 e.srv.t, .int .i64 e.po, .slice a e.tasks.length c, .int .i64 e.at_] 27)) := (((Gr.refl w).alloc _).trans ga).alloc _
      go_wp2_with fail
      go_loopw [56] (fun jv wr => ∃ j : Nat, j ≤ e.tasks.length ∧ jv = .int .i64 j ∧ WrAt (wa.alloc (.cells #[.int .i64 e.kd, .int .i64 e.id, .int .i64 e.srv.k, .int .i64 e.srv.q, .int .i64 e.srv.t, .int .i64 e.po, .slice a e.tasks.length c, .int .i64 e.at_] 27)) wr (wa.heap.size + 1) wr.heap.size (listB (H ++ (e.tasks.take j).flatMap tskN))) (fun jv _ => e.tasks.length - (intOf jv).toNat)
      case atStart => exact ⟨0, Nat.zero_le _, rfl, by simpa using hWr.out⟩
      case round =>
        obtain ⟨j, hj, rfl, hWj⟩ := hrel
        obtain ⟨wo, rfl⟩ : ∃ wo : World, wo = wr := ⟨_, rfl⟩
        by_cases hjl : j < e.tasks.length
        · obtain ⟨t, ht⟩ := get_some e.tasks j hjl
          obtain ⟨b, off, rfl, hb, hct⟩ := htr.out j t ht
          have gwo := gw2.trans hWj.world
          have e0 : wo.cell? ⟨b, off + j * 4, none⟩ = some (.int .i64 t.c) := by rw [gwo.cells.1 _ _ hb]; exact hct 0 _ rfl
          have e1 : wo.cell? ⟨b, off + j * 4 + 1, none⟩ = some (.int .i64 t.p) := by rw [gwo.cells.1 _ _ hb]; exact hct 1 _ rfl
          have e2 : wo.cell? ⟨b, off + j * 4 + 2, none⟩ = some (.int .i64 t.d) := by rw [gwo.cells.1 _ _ hb]; exact hct 2 _ rfl
          have e3 : wo.cell? ⟨b, off + j * 4 + 3, none⟩ = some (.int .i64 t.s) := by rw [gwo.cells.1 _ _ hb]; exact hct 3 _ rfl
          have hbo3 : b < wo.heap.size := Nat.lt_of_lt_of_le hb gwo.size
          have htn := tsk_nums (htk.out t (List.mem_of_getElem? ht))
          have hts : (e.tasks.take (j + 1)).flatMap tskN = (e.tasks.take j).flatMap tskN ++ tskN t := by rw [take_snoc ht, List.flatMap_append]; simp
          have hpre : Nums (H ++ (e.tasks.take j).flatMap tskN) := fun n hn => by
            rcases List.mem_append.1 hn with hn | hn
            · rw [hH.out] at hn; exact hhd.out n hn
            · obtain ⟨y, hy, hyn⟩ := List.mem_flatMap.1 hn
              exact tsk_nums (htk.out y (List.mem_of_mem_take hy)) n hyn
          have hpl : (H ++ (e.tasks.take j).flatMap tskN).length ≤ 42 := by
            rw [List.length_append, hhl, tsks_len, List.length_take]
            omega
          obtain ⟨F, hF⟩ : ∃ F, F = H ++ (e.tasks.take j).flatMap tskN := ⟨_, rfl⟩
          rw [← hF] at hWj hpre hpl
          have hF2 : H ++ (e.tasks.take (j + 1)).flatMap tskN = F ++ tskN t := by rw [hts, hF, List.append_assoc]
          have hWa := hWj.gr ((Gr.refl wo).alloc (.cells #[.int .i64 t.c, .int .i64 t.p, .int .i64 t.d, .int .i64 t.s] 115))
          have hWa2 := hWa.full
          replace hWa := Lib.hid hWa
          replace hWa2 := Lib.hid hWa2
          replace hWj := Lib.hid hWj
          replace hts := Lib.hid hts
          replace hF := Lib.hid hF
          replace hF2 := Lib.hid hF2
          replace ht := Lib.hid ht
          replace htn := Lib.hid htn
          replace hpre := Lib.hid hpre
          clear hct
          go_wp2_with fail
          go_loopw [69] (fun kv wr => ∃ k : Nat, k ≤ 4 ∧ kv = .int .i64 k ∧ WrAt (wa.alloc (.cells #[.int .i64 e.kd, .int .i64 e.id, .int .i64 e.srv.k, .int .i64 e.srv.q, .int .i64 e.srv.t, .int .i64 e.po, .slice (some ⟨b, off, none⟩) e.tasks.length c, .int .i64 e.at_] 27)) wr (wa.heap.size + 1) wr.heap.size (listB (F ++ (tskN t).take k))) (fun kv _ => 4 - (intOf kv).toNat)
          case atStart => exact ⟨0, by omega, rfl, by simpa using hWa2.out⟩
          case round =>
            obtain ⟨k, hk, rfl, hWr2⟩ := hrel
            by_cases hlt : k < 4
            · have hlt2 : (k : Int) < 4 := by omega
              obtain ⟨v, hv⟩ := get_some (tskN t) k hlt
              obtain ⟨v0, v1⟩ := htn.out v (List.mem_of_getElem? hv)
              obtain ⟨m, rfl⟩ : ∃ m : Nat, v = m := ⟨v.toNat, by omega⟩
              have hcs : (#[.int .i64 t.c, .int .i64 t.p, .int .i64 t.d, .int .i64 t.s] : Array Value)[k]? = some (.int .i64 (m : Int)) := by
                show ((tskN t).map (Value.int .i64)).toArray[k]? = _
                simp [hv]
              have hix := fun w => idx_run w Tryz.underlying123 hlt hcs
              have hlen := listB_len (l := F ++ (tskN t).take k) (fun n hn => (List.mem_append.1 hn).elim (hpre.out n) (fun h => htn.out n (List.mem_of_mem_take h)))
              have hlen2 : (F ++ (tskN t).take k).length ≤ 46 := by rw [List.length_append, List.length_take]; omega
              have hnum := num_anyP _ wr _ wr.heap.size (listB (F ++ (tskN t).take k)) m hWr2 (by omega) (by omega)
              have hsn : listB (F ++ (tskN t).take (k + 1)) = listB (F ++ (tskN t).take k) ++ numB m := by rw [take_snoc hv, ← List.append_assoc, listB_snoc]; rfl
              replace hWr2 := Lib.hid hWr2
              replace hnum := Lib.hid hnum
              replace hsn := Lib.hid hsn
              replace hcs := Lib.hid hcs
              clear hv
              go_wp2_with fail
              refine hnum.out.mono ?_
              rintro r w4 ⟨rfl, hK⟩
              go_wp2_with fail
              go_roundw
              case rel => exact ⟨k + 1, by omega, by go_num, by rw [hsn.out]; exact hK.at⟩
              case measure => simp [intOf]; omega
            · have hk4 : k = 4 := by omega
              have hWe : WrAt (wa.alloc (.cells #[.int .i64 e.kd, .int .i64 e.id, .int .i64 e.srv.k, .int .i64 e.srv.q, .int .i64 e.srv.t, .int .i64 e.po, .slice (some ⟨b, off, none⟩) e.tasks.length c, .int .i64 e.at_] 27)) wr (wa.heap.size + 1) wr.heap.size (listB (H ++ (e.tasks.take (j + 1)).flatMap tskN)) := by
                rw [hF2.out]
                rw [hk4] at hWr2
                exact hWr2
              have hk4b : decide ((k : Int) < 4) = false := decide_eq_false (by omega)
              replace hWe := Lib.hid hWe
              replace hWr2 := Lib.hid hWr2
              replace hk4 := Lib.hid hk4
              go_wp2_with fail
              go_roundw
              case rel => exact ⟨j + 1, by omega, by go_num, hWe.out⟩
              case measure => simp [intOf]; omega
        · have hall : e.tasks.take j = e.tasks := List.take_of_length_le (by omega)
          rw [hall, hH.out] at hWj
          have hln := listB_len (l := entN e) (fun n hn => by
            rcases List.mem_append.1 hn with hn | hn
            · exact hhd.out n hn
            · obtain ⟨y, hy, hyn⟩ := List.mem_flatMap.1 hn
              exact tsk_nums (htk.out y hy) n hyn)
          have hnl : (entN e).length ≤ 42 := by
            unfold entN
            rw [List.length_append, tsks_len]
            have : (headN e).length = 10 := rfl
            omega
          have hdn := done_any _ wo _ _ (listB (entN e)) hWj (by omega)
          have gwo := gw2.trans hWj.world
          replace hdn := Lib.hid hdn
          replace hWj := Lib.hid hWj
          replace hall := Lib.hid hall
          go_wp2_with fail
          refine hdn.out.mono ?_
          rintro r w5 ⟨a5, c5, rfl, h5⟩
          replace h5 := Lib.hid h5
          go_wp2_with fail
          go_ret2
          exact ⟨a5, c5, rfl, h5.out.older gwo⟩


/-- A question's payload. -/
def askB (k : Int) (e : Ent) : List UInt8 := listB [k, e.cl, e.nu] ++ (if k = 1 then numB (listB (entN e)).length ++ listB (entN e) else [])
theorem entN_nums {e : Ent} (h : entF e = true) : Nums (entN e) := fun n hn => by
  rcases List.mem_append.1 hn with hn | hn
  · exact ent_head h n hn
  · obtain ⟨y, hy, hyn⟩ := List.mem_flatMap.1 hn
    exact tsk_nums ((ent_tasks h).2 y hy) n hyn
theorem entB_len {e : Ent} (h : entF e = true) : (listB (entN e)).length ≤ 252 := by
  have h1 := listB_len (entN_nums h)
  have h2 : (entN e).length ≤ 42 := by
    unfold entN
    rw [List.length_append, tsks_len]
    have : (headN e).length = 10 := rfl
    have := (ent_tasks h).1
    omega
  omega
theorem askF_parts {k : Int} {e : Ent} (h : askF k e = true) : (k = 1 ∧ entF e = true ∨ k = 2) ∧ 0 ≤ e.cl ∧ e.cl < 16 ∧ 1 ≤ e.nu ∧ e.nu ≤ 1099511627776 := by
  unfold askF at h
  simp only [Bool.or_eq_true, Bool.and_eq_true, decide_eq_true_iff] at h
  rcases h with ⟨h1, h2⟩ | ⟨⟨h1, -⟩, h2⟩
  · have h3 := h2
    unfold entF at h3
    simp only [Bool.and_eq_true, decide_eq_true_iff] at h3
    exact ⟨.inl ⟨h1, h2⟩, h3.1⟩
  · exact ⟨.inr h1, h2⟩
set_option maxRecDepth 100000 in
set_option maxHeartbeats 6400000 in
theorem putAsk_yes {G : List Nat} {E : Nat → Addr} (k0 : Int) (e : Ent) (a : Option Addr) (c : Nat) (w : World) (h : (⟨e, a, c⟩ : EntM).ok Any w) (hE : EAt G E w) (i0 : 1 ∈ G) (hf : askF k0 e = true) :
    Calls Tryz.prog 16 #[.agg #[.int .i64 k0, .int .i64 e.cl, .int .i64 e.nu, .int .i64 e.kd, .int .i64 e.id, .int .i64 e.srv.k, .int .i64 e.srv.q, .int .i64 e.srv.t, .int .i64 e.po, .slice a e.tasks.length c, .int .i64 e.at_]] w fun r w' => ∃ a' c', r = .returned (.tuple #[.slice a' (frameB (askB k0 e)).length c', .nilIface]) ∧ Own w w' a' c' (frameB (askB k0 e)) := by
  have hck := fun w' (g : Gr w w') => checkAsk_any k0 ⟨e, a, c⟩ w' (h.gr g) (hE.gr g) i0
  dsimp only at hck
  rw [hf] at hck
  have hck2 : ∀ w', Gr w w' → Calls Tryz.prog 27 #[.agg #[.int .i64 k0, .int .i64 e.cl, .int .i64 e.nu, .int .i64 e.kd, .int .i64 e.id, .int .i64 e.srv.k, .int .i64 e.srv.q, .int .i64 e.srv.t, .int .i64 e.po, .slice a e.tasks.length c, .int .i64 e.at_]] w' fun e w'' => e = .returned .nilIface ∧ Gr w' w'' := hck
  clear hck
  obtain ⟨hk, n1, n2, n3, n4⟩ := askF_parts hf
  rcases hk with ⟨rfl, hfe⟩ | rfl
  · have hpt := fun w' (g : Gr w w') => put_yes e a c w' (h.gr g) (hE.gr g) i0 hfe
    have hbl := entB_len hfe
    replace hpt := Lib.hid hpt
    replace hck2 := Lib.hid hck2
    replace hf := Lib.hid hf
    replace hfe := Lib.hid hfe
    replace h := Lib.hid h
    have hhd : Nums [1, e.cl, e.nu] := fun n hn => by
      simp only [List.mem_cons, List.not_mem_nil, or_false] at hn
      rcases hn with rfl | rfl | rfl <;> omega
    obtain ⟨H, hH⟩ : ∃ H, H = [(1 : Int), e.cl, e.nu] := ⟨_, rfl⟩
    have hHl : H.length = 3 := by rw [hH]; rfl
    rw [← hH] at hhd
    have hlh := listB_len hhd
    replace hH := Lib.hid hH
    replace hhd := Lib.hid hhd
    go_enter Tryz.func16, Tryz.ntmps16
    go_wp2_with fail
    refine (hck2.out _ ((Gr.refl w).alloc _)).mono ?_
    rintro e wa ⟨rfl, ga⟩
    obtain ⟨ca, fa, sa⟩ := ga.cells
    try simp only [size_drewN] at ca fa sa
    try simp only [World.size_alloc] at ca fa sa
    try simp only [World.size_drew] at ca fa sa
    try simp only [World.size_setCell] at ca fa sa
    have za0 : w.heap.size < wa.heap.size := by omega
    have ya0 : w.heap.size ≤ wa.heap.size := by omega
    have ka0 := fun o => ca (w.heap.size) o (by omega)
    have ja0 := fun o => fa (w.heap.size) o (by omega)
    have gwa : Gr w wa := ((Gr.refl w).alloc _).trans ga
    go_wp2_with fail
    refine (newWriter_at _ (n := wa.heap.size) rfl).mono ?_
    rintro r w3 ⟨rfl, hW⟩
    have g3 := hW.world
    have hbe := ((Blk.new w #[.int .i64 1, .int .i64 e.cl, .int .i64 e.nu, .int .i64 e.kd, .int .i64 e.id, .int .i64 e.srv.k, .int .i64 e.srv.q, .int .i64 e.srv.t, .int .i64 e.po, .slice a e.tasks.length c, .int .i64 e.at_] 29).gr ga).gr g3
    have c0 := hbe.cell (i := 0) (v := .int .i64 1) rfl
    have c1 := hbe.cell (i := 1) (v := .int .i64 e.cl) rfl
    have c2 := hbe.cell (i := 2) (v := .int .i64 e.nu) rfl
    replace hW := Lib.hid hW
    replace hbe := Lib.hid hbe
    go_wp2_with fail
    go_loopw [23] (fun kv wr => ∃ q : Nat, q ≤ 3 ∧ kv = .int .i64 q ∧ WrAt wa wr wa.heap.size wr.heap.size (listB (H.take q))) (fun kv _ => 3 - (intOf kv).toNat)
    case atStart => exact ⟨0, by omega, rfl, hW.out.full⟩
    case round =>
      obtain ⟨k, hk, rfl, hWr⟩ := hrel
      by_cases hlt : k < 3
      · have hlt2 : (k : Int) < 3 := by omega
        obtain ⟨v, hv⟩ := get_some H k (by omega)
        obtain ⟨v0, v1⟩ := hhd.out v (List.mem_of_getElem? hv)
        obtain ⟨m, rfl⟩ : ∃ m : Nat, v = m := ⟨v.toNat, by omega⟩
        have hcs : (#[.int .i64 1, .int .i64 e.cl, .int .i64 e.nu] : Array Value)[k]? = some (.int .i64 (m : Int)) := by
          have hv2 := hv
          rw [hH.out] at hv2
          show (([(1 : Int), e.cl, e.nu] : List Int).map (Value.int .i64)).toArray[k]? = _
          rw [List.getElem?_toArray, List.getElem?_map, hv2]
          rfl
        have hix := fun w => idx_run w Tryz.underlying78 hlt hcs
        have hlen := listB_len (l := H.take k) (fun n hn => hhd.out n (List.mem_of_mem_take hn))
        have hlen2 : (H.take k).length ≤ 3 := by rw [List.length_take]; omega
        have hnum := num_anyP _ wr _ wr.heap.size (listB (H.take k)) m hWr (by omega) (by omega)
        have hsn : listB (H.take (k + 1)) = listB (H.take k) ++ numB m := by rw [take_snoc hv, listB_snoc]; rfl
        replace hWr := Lib.hid hWr
        replace hnum := Lib.hid hnum
        replace hsn := Lib.hid hsn
        replace hcs := Lib.hid hcs
        clear hv
        go_wp2_with fail
        refine hnum.out.mono ?_
        rintro r w4 ⟨rfl, hK⟩
        go_wp2_with fail
        go_roundw
        case rel => exact ⟨k + 1, by omega, by go_num, by rw [hsn.out]; exact hK.at⟩
        case measure => simp [intOf]; omega
      · have hk3 : k = 3 := by omega
        have hh : H.take k = H := List.take_of_length_le (by omega)
        have hk3b : decide ((k : Int) < 3) = false := decide_eq_false (by omega)
        rw [hh] at hWr
        have g4 := hWr.world
        have gwr := gwa.trans g4
        have hbw := ((Blk.new w #[.int .i64 1, .int .i64 e.cl, .int .i64 e.nu, .int .i64 e.kd, .int .i64 e.id, .int .i64 e.srv.k, .int .i64 e.srv.q, .int .i64 e.srv.t, .int .i64 e.po, .slice a e.tasks.length c, .int .i64 e.at_] 29).gr ga).gr g4
        have f0 := hbw.cell (i := 0) (v := .int .i64 1) rfl
        have f1 := hbw.cell (i := 1) (v := .int .i64 e.cl) rfl
        have f2 := hbw.cell (i := 2) (v := .int .i64 e.nu) rfl
        have f3 := hbw.cell (i := 3) (v := .int .i64 e.kd) rfl
        have f4 := hbw.cell (i := 4) (v := .int .i64 e.id) rfl
        have f5 := hbw.cell (i := 5) (v := .int .i64 e.srv.k) rfl
        have f6 := hbw.cell (i := 6) (v := .int .i64 e.srv.q) rfl
        have f7 := hbw.cell (i := 7) (v := .int .i64 e.srv.t) rfl
        have f8 := hbw.cell (i := 8) (v := .int .i64 e.po) rfl
        have f9 := hbw.cell (i := 9) (v := .slice a e.tasks.length c) rfl
        have f10 := hbw.cell (i := 10) (v := .int .i64 e.at_) rfl
        have z6 := hbw.lt
        replace hWr := Lib.hid hWr
        replace hbw := Lib.hid hbw
        replace hk3 := Lib.hid hk3
        replace hh := Lib.hid hh
        go_wp2_with fail
        refine (entry_any 1 ⟨e, a, c⟩ wr).mono ?_
        rintro r w5 ⟨rfl, g5⟩
        go_wp2_with fail
        refine (hpt.out w5 (gwr.trans g5)).mono ?_
        rintro r w6 ⟨a6, c6, rfl, h6⟩
        have g6 := h6.2.2.2.2
        have hW6 := hWr.out.gr (g5.trans g6)
        have s5 := g5.size
        have hwb := wbytes_any _ w6 _ _ _ a6 c6 (listB (entN e)) hW6 (by omega) h6.2.1 h6.2.2.1 (fun x hx => .inr ⟨by have := h6.2.2.2.1 x hx; omega, h6.lt hx⟩) (by omega)
        replace hwb := Lib.hid hwb
        replace h6 := Lib.hid h6
        replace hW6 := Lib.hid hW6
        go_wp2_with fail
        refine hwb.out.mono ?_
        rintro r w7 ⟨rfl, hW7⟩
        have hfr := framed_any _ w7 _ _ _ hW7 (by rw [List.length_append, List.length_append]; have := numB_10 (n := (listB (entN e)).length) (by omega); omega)
        rw [show listB H ++ numB (listB (entN e)).length ++ listB (entN e) = askB 1 e by rw [hH.out]; unfold askB; rw [if_pos rfl, List.append_assoc]] at hfr
        have g7 := hW7.world
        replace hfr := Lib.hid hfr
        replace hW7 := Lib.hid hW7
        go_wp2_with fail
        refine hfr.out.mono ?_
        rintro r w8 ⟨a8, c8, rfl, h8⟩
        replace h8 := Lib.hid h8
        go_wp2_with fail
        go_ret2
        exact ⟨a8, c8, rfl, h8.out.older (gwa.trans g7)⟩
  · replace hck2 := Lib.hid hck2
    replace hf := Lib.hid hf
    replace h := Lib.hid h
    have hhd : Nums [2, e.cl, e.nu] := fun n hn => by
      simp only [List.mem_cons, List.not_mem_nil, or_false] at hn
      rcases hn with rfl | rfl | rfl <;> omega
    obtain ⟨H, hH⟩ : ∃ H, H = [(2 : Int), e.cl, e.nu] := ⟨_, rfl⟩
    have hHl : H.length = 3 := by rw [hH]; rfl
    rw [← hH] at hhd
    have hlh := listB_len hhd
    replace hH := Lib.hid hH
    replace hhd := Lib.hid hhd
    go_enter Tryz.func16, Tryz.ntmps16
    go_wp2_with fail
    refine (hck2.out _ ((Gr.refl w).alloc _)).mono ?_
    rintro e wa ⟨rfl, ga⟩
    obtain ⟨ca, fa, sa⟩ := ga.cells
    try simp only [size_drewN] at ca fa sa
    try simp only [World.size_alloc] at ca fa sa
    try simp only [World.size_drew] at ca fa sa
    try simp only [World.size_setCell] at ca fa sa
    have za0 : w.heap.size < wa.heap.size := by omega
    have ya0 : w.heap.size ≤ wa.heap.size := by omega
    have ka0 := fun o => ca (w.heap.size) o (by omega)
    have ja0 := fun o => fa (w.heap.size) o (by omega)
    have gwa : Gr w wa := ((Gr.refl w).alloc _).trans ga
    go_wp2_with fail
    refine (newWriter_at _ (n := wa.heap.size) rfl).mono ?_
    rintro r w3 ⟨rfl, hW⟩
    have g3 := hW.world
    have hbe := ((Blk.new w #[.int .i64 2, .int .i64 e.cl, .int .i64 e.nu, .int .i64 e.kd, .int .i64 e.id, .int .i64 e.srv.k, .int .i64 e.srv.q, .int .i64 e.srv.t, .int .i64 e.po, .slice a e.tasks.length c, .int .i64 e.at_] 29).gr ga).gr g3
    have c0 := hbe.cell (i := 0) (v := .int .i64 2) rfl
    have c1 := hbe.cell (i := 1) (v := .int .i64 e.cl) rfl
    have c2 := hbe.cell (i := 2) (v := .int .i64 e.nu) rfl
    replace hW := Lib.hid hW
    replace hbe := Lib.hid hbe
    go_wp2_with fail
    go_loopw [23] (fun kv wr => ∃ q : Nat, q ≤ 3 ∧ kv = .int .i64 q ∧ WrAt wa wr wa.heap.size wr.heap.size (listB (H.take q))) (fun kv _ => 3 - (intOf kv).toNat)
    case atStart => exact ⟨0, by omega, rfl, hW.out.full⟩
    case round =>
      obtain ⟨k, hk, rfl, hWr⟩ := hrel
      by_cases hlt : k < 3
      · have hlt2 : (k : Int) < 3 := by omega
        obtain ⟨v, hv⟩ := get_some H k (by omega)
        obtain ⟨v0, v1⟩ := hhd.out v (List.mem_of_getElem? hv)
        obtain ⟨m, rfl⟩ : ∃ m : Nat, v = m := ⟨v.toNat, by omega⟩
        have hcs : (#[.int .i64 2, .int .i64 e.cl, .int .i64 e.nu] : Array Value)[k]? = some (.int .i64 (m : Int)) := by
          have hv2 := hv
          rw [hH.out] at hv2
          show (([(2 : Int), e.cl, e.nu] : List Int).map (Value.int .i64)).toArray[k]? = _
          rw [List.getElem?_toArray, List.getElem?_map, hv2]
          rfl
        have hix := fun w => idx_run w Tryz.underlying78 hlt hcs
        have hlen := listB_len (l := H.take k) (fun n hn => hhd.out n (List.mem_of_mem_take hn))
        have hlen2 : (H.take k).length ≤ 3 := by rw [List.length_take]; omega
        have hnum := num_anyP _ wr _ wr.heap.size (listB (H.take k)) m hWr (by omega) (by omega)
        have hsn : listB (H.take (k + 1)) = listB (H.take k) ++ numB m := by rw [take_snoc hv, listB_snoc]; rfl
        replace hWr := Lib.hid hWr
        replace hnum := Lib.hid hnum
        replace hsn := Lib.hid hsn
        replace hcs := Lib.hid hcs
        clear hv
        go_wp2_with fail
        refine hnum.out.mono ?_
        rintro r w4 ⟨rfl, hK⟩
        go_wp2_with fail
        go_roundw
        case rel => exact ⟨k + 1, by omega, by go_num, by rw [hsn.out]; exact hK.at⟩
        case measure => simp [intOf]; omega
      · have hk3 : k = 3 := by omega
        have hh : H.take k = H := List.take_of_length_le (by omega)
        have hk3b : decide ((k : Int) < 3) = false := decide_eq_false (by omega)
        rw [hh] at hWr
        have g4 := hWr.world
        have gwr := gwa.trans g4
        have hbw := ((Blk.new w #[.int .i64 2, .int .i64 e.cl, .int .i64 e.nu, .int .i64 e.kd, .int .i64 e.id, .int .i64 e.srv.k, .int .i64 e.srv.q, .int .i64 e.srv.t, .int .i64 e.po, .slice a e.tasks.length c, .int .i64 e.at_] 29).gr ga).gr g4
        have f0 := hbw.cell (i := 0) (v := .int .i64 2) rfl
        have f1 := hbw.cell (i := 1) (v := .int .i64 e.cl) rfl
        have f2 := hbw.cell (i := 2) (v := .int .i64 e.nu) rfl
        have f3 := hbw.cell (i := 3) (v := .int .i64 e.kd) rfl
        have f4 := hbw.cell (i := 4) (v := .int .i64 e.id) rfl
        have f5 := hbw.cell (i := 5) (v := .int .i64 e.srv.k) rfl
        have f6 := hbw.cell (i := 6) (v := .int .i64 e.srv.q) rfl
        have f7 := hbw.cell (i := 7) (v := .int .i64 e.srv.t) rfl
        have f8 := hbw.cell (i := 8) (v := .int .i64 e.po) rfl
        have f9 := hbw.cell (i := 9) (v := .slice a e.tasks.length c) rfl
        have f10 := hbw.cell (i := 10) (v := .int .i64 e.at_) rfl
        have z6 := hbw.lt
        replace hWr := Lib.hid hWr
        replace hbw := Lib.hid hbw
        replace hk3 := Lib.hid hk3
        replace hh := Lib.hid hh
        have hfr := framed_any _ wr _ _ _ hWr.out (by omega)
        rw [show listB H = askB 2 e by rw [hH.out]; unfold askB; rw [if_neg (by decide), List.append_nil]] at hfr
        replace hfr := Lib.hid hfr
        go_wp2_with fail
        refine hfr.out.mono ?_
        rintro r w8 ⟨a8, c8, rfl, h8⟩
        replace h8 := Lib.hid h8
        go_wp2_with fail
        go_ret2
        exact ⟨a8, c8, rfl, h8.out.older gwr⟩
set_option maxRecDepth 100000 in
set_option maxHeartbeats 1600000 in
theorem putAsk_no {G : List Nat} {E : Nat → Addr} (k0 : Int) (e : Ent) (a : Option Addr) (c : Nat) (w : World) (h : (⟨e, a, c⟩ : EntM).ok Any w) (hE : EAt G E w) (i0 : 1 ∈ G) (hf : askF k0 e = false) :
    Calls Tryz.prog 16 #[.agg #[.int .i64 k0, .int .i64 e.cl, .int .i64 e.nu, .int .i64 e.kd, .int .i64 e.id, .int .i64 e.srv.k, .int .i64 e.srv.q, .int .i64 e.srv.t, .int .i64 e.po, .slice a e.tasks.length c, .int .i64 e.at_]] w fun r w' => r = .returned (.tuple #[.slice none 0 0, (Value.iface 258 (.pointer (some (E 1))))]) ∧ Gr w w' := by
  have hck := fun w' (g : Gr w w') => checkAsk_any k0 ⟨e, a, c⟩ w' (h.gr g) (hE.gr g) i0
  dsimp only at hck
  rw [hf] at hck
  have hck2 : ∀ w', Gr w w' → Calls Tryz.prog 27 #[.agg #[.int .i64 k0, .int .i64 e.cl, .int .i64 e.nu, .int .i64 e.kd, .int .i64 e.id, .int .i64 e.srv.k, .int .i64 e.srv.q, .int .i64 e.srv.t, .int .i64 e.po, .slice a e.tasks.length c, .int .i64 e.at_]] w' fun e w'' => e = .returned (Value.iface 258 (.pointer (some (E 1)))) ∧ Gr w' w'' := hck
  clear hck
  replace hck2 := Lib.hid hck2
  replace hf := Lib.hid hf
  replace h := Lib.hid h
  go_enter Tryz.func16, Tryz.ntmps16
  go_wp2_with fail
  refine (hck2.out _ ((Gr.refl w).alloc _)).mono ?_
  rintro e wa ⟨rfl, ga⟩
  obtain ⟨ca, fa, sa⟩ := ga.cells
  try simp only [size_drewN] at ca fa sa
  try simp only [World.size_alloc] at ca fa sa
  try simp only [World.size_drew] at ca fa sa
  try simp only [World.size_setCell] at ca fa sa
  have za0 : w.heap.size < wa.heap.size := by omega
  have ya0 : w.heap.size ≤ wa.heap.size := by omega
  have ka0 := fun o => ca (w.heap.size) o (by omega)
  have ja0 := fun o => fa (w.heap.size) o (by omega)
  go_wp2_with fail
  go_ret2
  exact ⟨rfl, ((Gr.refl w).alloc _).trans ga⟩
end Go.Proofs.YtglfdnfojpdkjaaGreatDoor
/- almonerref04: Update, Sum, four, Frame. string(bytes); law 20's alive. -/
namespace Go.Proofs.YtglfdnfojpdkjaaGreatDoor
open Go.RowKit

theorem bit1_odd {m : Nat} (hm : m < 4294967296) (h : m % 2 = 1) : bits .xor .u32 ((m : Int) / 2) 3988292384 = ((bit1 m : Nat) : Int) := by
  have := xor_u32 (a := m / 2) (b := poly) (by omega) (by decide)
  unfold bit1
  rw [if_pos h]
  exact this
theorem bit1_even {m : Nat} (h : ¬ m % 2 = 1) : (m : Int) / 2 = ((bit1 m : Nat) : Int) := by
  unfold bit1
  rw [if_neg h, Nat.xor_zero]
  rfl
set_option maxRecDepth 100000 in
set_option maxHeartbeats 1600000 in
theorem rupdate_any (a : Option Addr) (c : Nat) (l : List UInt8) (n : Nat) (hn : n < 4294967296) (w : World) (h : BytesAt w a l) (hm : l.length ≤ maxLen) :
    Calls Tryz.prog 60 #[.int .u32 n, .slice a l.length c] w fun e w' => e = .returned (.int .u32 (crcW n l)) ∧ w = w' := by
  have hmm := hm
  unfold maxLen at hmm
  replace h := Lib.hid h
  go_enter Tryz.func60, Tryz.ntmps60
  go_wp2_with fail
  go_loop [10, 0] (fun iv nv => ∃ k : Nat, k ≤ l.length ∧ iv = .int .i64 k ∧ nv = .int .u32 (crcW n (l.take k))) (fun iv _ => l.length - (intOf iv).toNat)
  case atStart => exact ⟨0, Nat.zero_le _, rfl, rfl⟩
  case round =>
    obtain ⟨k, hk, rfl, rfl⟩ := hrel
    by_cases hlt : k < l.length
    · obtain ⟨x, hx⟩ := get_some l k hlt
      obtain ⟨b, off, rfl, hb, c0⟩ := h.out.get hx
      have hc := x.toNat_lt
      have hw := crcW_lt (l.take k) hn
      have hs : crcW n (l.take (k + 1)) = upd (crcW n (l.take k)) x.toNat := by rw [take_snoc hx, crcW_snoc]
      generalize crcW n (l.take k) = m at *
      have e1 : bits .xor .u32 (m : Int) (x.toNat : Int) = ((m ^^^ x.toNat : Nat) : Int) := xor_u32 hw (by omega)
      have hz := Nat.xor_lt_two_pow (n := 32) hw (show x.toNat < 2 ^ 32 by omega)
      have hb8 := upd_ref hc m
      rw [← hb8] at hs
      generalize m ^^^ x.toNat = z at *
      replace hs := Lib.hid hs
      replace hx := Lib.hid hx
      replace hb8 := Lib.hid hb8
      go_wp2_with fail
      go_loop [7, 0] (fun iv nv => ∃ (j y : Nat), j ≤ 8 ∧ iv = .int .i64 j ∧ nv = .int .u32 y ∧ y < 4294967296 ∧ bitN (8 - j) y = bitN 8 z) (fun iv _ => 8 - (intOf iv).toNat)
      case atStart => exact ⟨0, z, by omega, rfl, rfl, hz, rfl⟩
      case round =>
        obtain ⟨j, y, hj, rfl, rfl, hy, he⟩ := hrel
        by_cases hjl : j < 8
        · have hjl2 : (j : Int) < 8 := by omega
          have hy2 := bit1_lt hy
          have he2 : bitN (8 - (j + 1)) (bit1 y) = bitN 8 z := by rw [← he, show 8 - j = 8 - (j + 1) + 1 by omega]; rfl
          replace he := Lib.hid he
          replace he2 := Lib.hid he2
          by_cases ho : y % 2 = 1
          · have v1 := bit1_odd hy ho
            have v2 : ((y : Int) % 2 == 1) = true := by simp; omega
            have v3 : (y : Int) % 2 = 1 := by omega
            replace ho := Lib.hid ho
            go_wp2_with fail
            go_round
            case rel => exact ⟨j + 1, bit1 y, by omega, by go_num, by first | rfl | rw [v1], hy2, he2.out⟩
            case measure => simp [intOf]; omega
          · have v1 := bit1_even ho
            have v2 : ((y : Int) % 2 == 1) = false := by simp; omega
            have v3 : (y : Int) % 2 = 0 := by omega
            replace ho := Lib.hid ho
            go_wp2_with fail
            go_round
            case rel => exact ⟨j + 1, bit1 y, by omega, by go_num, by first | rfl | rw [v1], hy2, he2.out⟩
            case measure => simp [intOf]; omega
        · have hj8 : j = 8 := by omega
          have hjb : decide ((j : Int) < 8) = false := decide_eq_false (by omega)
          rw [hj8] at he
          have hyz : y = bitN 8 z := he
          replace hyz := Lib.hid hyz
          replace hj8 := Lib.hid hj8
          replace he := Lib.hid he
          go_wp2_with fail
          go_round
          case rel => exact ⟨k + 1, by omega, by go_num, by rw [hs.out, hyz.out]⟩
          case measure => simp [intOf]; omega
    · have hall : l.take k = l := List.take_of_length_le (by omega)
      rw [hall]
      go_wp2_with fail
      go_ret
      exact ⟨rfl, rfl⟩
theorem rsum_any (a : Option Addr) (c : Nat) (l : List UInt8) (w : World) (h : BytesAt w a l) (hm : l.length ≤ maxLen) :
    Calls Tryz.prog 35 #[.slice a l.length c] w fun e w' => e = .returned (.int .u32 (crc l)) ∧ w = w' := by
  have hu := rupdate_any a c l 4294967295 (by omega) w h hm
  have hw := crcW_lt l (w := 4294967295) (by omega)
  unfold crc
  generalize crcW 4294967295 l = m at *
  have hv : bits .xor .u32 (m : Int) 4294967295 = ((4294967295 - m : Nat) : Int) := by
    have := xor_u32 (a := m) (b := 4294967295) hw (by omega)
    rw [not_xor hw] at this
    exact this
  replace hu := Lib.hid hu
  replace hv := Lib.hid hv
  go_enter Tryz.func35, Tryz.ntmps35
  go_wp2_with fail
  refine hu.out.mono ?_
  rintro e w2 ⟨rfl, rfl⟩
  go_wp2_with fail
  go_ret
  exact ⟨congrArg (fun v => Ending.returned (.int .u32 v)) hv.out, rfl⟩
theorem owns_lit (w : World) {n : Nat} {l : List UInt8} (hn : l.length = n) (cs : Array Value) (h : cs.toList = l.flatMap byteC) (hm : n ≤ 1000000) : (w.alloc (.cells cs 5)).ownsRow w.heap.size 5 1 (.slice (some ⟨w.heap.size, 0, none⟩) n n) l.length (l.flatMap byteC) := by
  subst hn
  have hl : (l.flatMap byteC).length = l.length := by rw [flat_len byteC_len, Nat.mul_one]
  have hcs : cs.size = l.length := by rw [← hl, ← h]; simp
  refine ⟨by rw [hl, Nat.mul_one], .inr ⟨w.heap.size, l.length, cs, rfl, Nat.le_refl _, heap_alloc_new w _, by omega, by unfold maxLen; omega, by omega, ?_⟩⟩
  rw [← h]
  exact List.take_of_length_le (by simp; omega)
set_option maxRecDepth 100000 in
set_option maxHeartbeats 1600000 in
theorem four_any (n : Nat) (hn : n < 4294967296) (w : World) :
    Calls Tryz.prog 34 #[.int .u32 n] w fun e w' => ∃ a c, e = .returned (.slice a (le32 n).length c) ∧ Own w w' a c (le32 n) := by
  have hcl := le32_cells hn
  replace hcl := Lib.hid hcl
  go_enter Tryz.func34, Tryz.ntmps34
  go_wp2_with fail
  go_ret
  have ho := owns_lit w (le32_len n) _ hcl.out (by decide)
  obtain ⟨a, c, hv, hO⟩ := Own.of ho ((Gr.refl w).alloc _)
  cases hv
  exact ⟨_, _, rfl, hO⟩

set_option maxRecDepth 100000 in
set_option maxHeartbeats 1600000 in
theorem rframe_any (w : World) (a : Option Addr) (c : Nat) (l : List UInt8) (h : BytesAt w a l) (hc : a = none → c = 0) (hl : l.length ≤ 32768) :
    Calls Tryz.prog 17 #[.slice a l.length c] w fun e w' => ∃ a' c', e = .returned (.slice a' (frameB l).length c') ∧ Own w w' a' c' (frameB l) := by
  obtain ⟨i5, hi, hz0, hz1, hz2⟩ := info_parts Tryz.infoU8
  have hp1 := four_any l.length (by omega) w
  obtain ⟨L2, hL2⟩ : ∃ L2, L2 = le32 l.length ++ l := ⟨_, rfl⟩
  have hL2l : L2.length = 4 + l.length := by rw [hL2, List.length_append, le32_len]
  have hsu := fun a1 c1 w1 (hb : BytesAt w1 a1 L2) => rsum_any a1 c1 L2 w1 hb (by unfold maxLen; omega)
  have hp2 := fun w1 => four_any (crc L2) (crc_lt _) w1
  obtain ⟨L3, hL3⟩ : ∃ L3, L3 = L2 ++ le32 (crc L2) := ⟨_, rfl⟩
  have hfr : L3 = frameB l := by rw [hL3, hL2]; rfl
  rw [← hfr]
  have n1 : (le32 l.length).length + l.length ≤ maxLen := by rw [le32_len]; unfold maxLen; omega
  have n2 : ((le32 l.length).length + l.length) * 1 ≤ 140737488355328 := by rw [le32_len]; omega
  have m1 : L2.length + (le32 (crc L2)).length ≤ maxLen := by rw [le32_len]; unfold maxLen; omega
  have m2 : (L2.length + (le32 (crc L2)).length) * 1 ≤ 140737488355328 := by rw [le32_len]; omega
  replace hp1 := Lib.hid hp1
  replace hp2 := Lib.hid hp2
  replace hsu := Lib.hid hsu
  replace h := Lib.hid h
  replace hL2 := Lib.hid hL2
  replace hL3 := Lib.hid hL3
  replace hfr := Lib.hid hfr
  replace hL2l := Lib.hid hL2l
  go_enter Tryz.func17, Tryz.ntmps17
  go_wp2_with fail
  refine hp1.out.mono ?_
  rintro e w1 ⟨a1, c1, rfl, ho1⟩
  obtain ⟨ow, br, bn, bb, g1⟩ := ho1
  have n3 := g1.size
  have hs1 := h.out.gr g1
  replace br := Lib.hid br
  replace bb := Lib.hid bb
  replace bn := Lib.hid bn
  replace hs1 := Lib.hid hs1
  go_wp2_with (at_builtin; go_loud (refine wpList_append_recs (k := 1) (enc := byteC) rfl _ _ 44 rfl w.heap.size 5 i5 _ 1 Tryz.underlying44 hi hz0 hz1 hz2 rfl (by decide) byteC_len byteC_one (.slice a1 (le32 l.length).length c1) (le32 l.length) rfl ow a c l rfl hs1.out hc n1 n2 n3 ?_; intro v2 w2 hown2 hgr2; rw [← hL2.out] at hown2; have g2 : Gr w w2 := g1.grown hgr2 (own_block ow); obtain ⟨a2, c2, hv2, ho2⟩ := Own.of hown2 g2; subst hv2; have hb2 := ho2.2.1; replace ho2 := Lib.hid ho2; replace hb2 := Lib.hid hb2; replace hown2 := Lib.hid hown2))
  refine (hsu.out a2 c2 w2 hb2.out).mono ?_
  rintro e w3 ⟨rfl, rfl⟩
  go_wp2_with fail
  refine (hp2.out w2).mono ?_
  rintro e w4 ⟨a4, c4, rfl, ho4⟩
  have hO := ho2.out.gr ho4.2.2.2.2
  obtain ⟨ow5, br5, bn5, bb5, g5⟩ := hO
  have n5 := g5.size
  have hb4 := ho4.2.1
  have hc4 := ho4.2.2.1
  replace ho4 := Lib.hid ho4
  replace br5 := Lib.hid br5
  replace bb5 := Lib.hid bb5
  replace bn5 := Lib.hid bn5
  replace hb4 := Lib.hid hb4
  go_wp2_with (at_builtin; go_loud (refine wpList_append_recs (k := 1) (enc := byteC) rfl _ _ 44 rfl w.heap.size 5 i5 _ 1 Tryz.underlying44 hi hz0 hz1 hz2 rfl (by decide) byteC_len byteC_one (.slice a2 L2.length c2) L2 rfl ow5 a4 c4 (le32 (crc L2)) rfl hb4.out hc4 m1 m2 n5 ?_; intro v6 w6 hown6 hgr6; rw [← hL3.out] at hown6; have g6 : Gr w w6 := g5.grown hgr6 (own_block ow5); obtain ⟨a6, c6, hv6, ho6⟩ := Own.of hown6 g6; subst hv6; replace ho6 := Lib.hid ho6; replace hown6 := Lib.hid hown6))
  go_ret
  exact ⟨a6, c6, rfl, ho6.out⟩


/-- The string of bytes. -/
abbrev strB (l : List UInt8) : Value := .string ⟨l.toArray⟩
theorem conv_any {w : World} {a : Option Addr} {l : List UInt8} (c : Nat) (h : BytesAt w a l) : (convert 44 9 (.slice a l.length c)).run Tryz.prog w = .ok (strB l) w := by
  cases a with
  | none =>
    have hl : l = [] := by
      cases l with
      | nil => rfl
      | cons x r =>
        obtain ⟨b, off, hn, _⟩ := h.get (i := 0) rfl
        cases hn
    subst hl
    have hl := @run_convert_bytes_string Tryz.prog
    exact (hl w 44 9 5 none 0 c (by kernel_rfl) (by kernel_rfl) (by kernel_rfl)).trans rfl
  | some a =>
    refine run_convert_bytes_back (P := Tryz.prog) w 44 9 5 a c l (by kernel_rfl) (by kernel_rfl) (by kernel_rfl) fun j hj => ?_
    obtain ⟨b, off, hn, _, hc⟩ := h.get (List.getElem?_eq_getElem hj)
    cases hn
    have ha : (⟨b, off, none⟩ : Addr).add j = ⟨b, off + j, none⟩ := by simp [Addr.add]
    rw [ha]
    exact hc
abbrev exE : Ent := ⟨1, 2, 0, 0, ⟨0, 0, 0⟩, 0, [], 0⟩
theorem exE_askF : askF 2 exE = true := by decide
theorem exE_askB : askB 2 exE = [2, 1, 2] := by
  have h1 : numB 1 = [1] := numB_small (by decide)
  have h2 : numB 2 = [2] := numB_small (by decide)
  show numB 2 ++ (numB 1 ++ (numB 2 ++ [])) ++ [] = _
  rw [h1, h2]
  rfl
theorem exE_ok (w : World) : (⟨exE, none, 0⟩ : EntM).ok Any w := ⟨⟨fun i s hi => by simp at hi, fun x hx => by cases hx⟩, fun _ => rfl, Nat.le_refl _, Nat.zero_le _, by decide⟩

set_option maxRecDepth 100000 in
set_option maxHeartbeats 1600000 in
theorem alive20_any {G : List Nat} {E : Nat → Addr} (w : World) (hE : EAt G E w) (i0 : 1 ∈ G) :
    Calls Tryz.prog 5 #[] w fun e w' => e = .returned (.bool true) ∧ Gr w w' := by
  have hp := putAsk_yes 2 exE none 0 w (exE_ok w) hE i0 exE_askF
  rw [exE_askB] at hp
  have hr : ∀ W : World, Calls Tryz.prog 17 #[.slice (some ⟨W.heap.size, 0, none⟩) 3 3] (W.alloc (.cells #[.int .u8 2, .int .u8 1, .int .u8 2] 5)).drew fun e w' => ∃ a c, e = .returned (.slice a (frameB [2, 1, 2]).length c) ∧ Own (W.alloc (.cells #[.int .u8 2, .int .u8 1, .int .u8 2] 5)).drew w' a c (frameB [2, 1, 2]) := fun W =>
    rframe_any _ (some ⟨W.heap.size, 0, none⟩) 3 [2, 1, 2] (BytesAt.gr (recs_alloc byteC_len W [2, 1, 2] _ _ rfl) ((Gr.refl _).drew)) (fun h => by cases h) (by decide)
  obtain ⟨L, hL⟩ : ∃ L, L = frameB [2, 1, 2] := ⟨_, rfl⟩
  rw [← hL] at hp hr
  replace hp := Lib.hid hp
  replace hr := Lib.hid hr
  replace hL := Lib.hid hL
  go_enter Tryz.func5, Tryz.ntmps5
  go_wp2_with fail
  refine hp.out.mono ?_
  rintro e w1 ⟨a1, c1, rfl, ho⟩
  obtain ⟨-, hb, -, -, g1⟩ := ho
  have q0 := conv_any c1 (hb.gr ((Gr.refl w1).drew))
  have q1 := fun o => conv_any c1 (hb.gr (((Gr.refl w1).alloc o).drew))
  replace hb := Lib.hid hb
  go_upto_region 2 with fail
  go_region_with (go_at_call 17; refine (hr.out _).mono ?_; rintro e w3 ⟨a3, c3, rfl, ho3⟩; have g3 : Gr w1 w3 := (((Gr.refl w1).alloc _).drew).trans ho3.2.2.2.2; have q2 := conv_any c3 ho3.2.1; have q3 := conv_any c1 (hb.out.gr g3); replace ho3 := Lib.hid ho3)
  all_goals (go_wp2_with fail; go_ret; exact ⟨rfl, g1.trans g3⟩)
end Go.Proofs.YtglfdnfojpdkjaaGreatDoor
