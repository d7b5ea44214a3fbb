/- The cyclic check, in plain numbers: bits, bytes, frames; one byte that is another is found. -/
import Derived.Test.YtlgbnjaoadlolaaDoorS0
namespace Go.Proofs.YtlgbnjaoadlolaaDoor
open Go.RowKit

def poly : Nat := 0xedb88320
def bit1 (w : Nat) : Nat := (w / 2) ^^^ (if w % 2 = 1 then poly else 0)
def bitN : Nat → Nat → Nat
  | 0, w => w
  | k + 1, w => bitN k (bit1 w)
theorem xor_left_comm (a b c : Nat) : a ^^^ (b ^^^ c) = b ^^^ (a ^^^ c) := by rw [← Nat.xor_assoc, Nat.xor_comm a b, Nat.xor_assoc]
theorem xor_cancel {a b c : Nat} (h : a ^^^ c = b ^^^ c) : a = b := by
  have h1 : (a ^^^ c) ^^^ c = (b ^^^ c) ^^^ c := by rw [h]
  rw [Nat.xor_assoc, Nat.xor_assoc, Nat.xor_self, Nat.xor_zero, Nat.xor_zero] at h1
  exact h1
theorem bit1_xor (a b : Nat) : bit1 (a ^^^ b) = bit1 a ^^^ bit1 b := by
  unfold bit1
  rw [Nat.xor_div_two]
  have ha := Nat.mod_two_eq_zero_or_one a
  have hb := Nat.mod_two_eq_zero_or_one b
  generalize a / 2 = x at *
  generalize b / 2 = y at *
  rcases ha with ha | ha <;> rcases hb with hb | hb
  · rw [if_neg (by rw [Nat.xor_mod_two_eq_one]; omega), if_neg (by omega), if_neg (by omega)]; simp
  · rw [if_pos (by rw [Nat.xor_mod_two_eq_one]; omega), if_neg (by omega), if_pos hb, Nat.xor_zero, Nat.xor_assoc]
  · rw [if_pos (by rw [Nat.xor_mod_two_eq_one]; omega), if_pos ha, if_neg (by omega), Nat.xor_zero, Nat.xor_assoc, Nat.xor_assoc, Nat.xor_comm y poly]
  · rw [if_neg (by rw [Nat.xor_mod_two_eq_one]; omega), if_pos ha, if_pos hb, Nat.xor_zero, Nat.xor_assoc, xor_left_comm poly, Nat.xor_self, Nat.xor_zero]
theorem bitN_xor : ∀ (k a b : Nat), bitN k (a ^^^ b) = bitN k a ^^^ bitN k b
  | 0, _, _ => rfl
  | k + 1, a, b => by rw [bitN, bitN, bitN, bit1_xor, bitN_xor k]
theorem bitN_split : ∀ (k X : Nat), bitN k X = X / 2 ^ k ^^^ bitN k (X % 2 ^ k)
  | 0, X => by simp [bitN, Nat.mod_one]
  | k + 1, X => by
    have h1 : X % 2 ^ (k + 1) % 2 = X % 2 := Nat.mod_mod_of_dvd X (Nat.pow_dvd_pow 2 (show 1 ≤ k + 1 by omega))
    have h2 : X % 2 ^ (k + 1) / 2 = (X / 2) % 2 ^ k := by
      rw [Nat.pow_succ, Nat.mul_comm]
      exact Nat.mod_mul_right_div_self X 2 (2 ^ k)
    rw [bitN, bitN]
    unfold bit1
    rw [h1, h2, bitN_xor, bitN_xor, bitN_split k (X / 2), Nat.div_div_eq_div_mul, Nat.pow_succ, Nat.mul_comm 2, Nat.xor_assoc]
/-- One byte, as the program takes it. -/
def upd (w c : Nat) : Nat := (w / 256) ^^^ bitN 8 ((w % 256) ^^^ c)
theorem upd_ref {c : Nat} (hc : c < 256) (w : Nat) : bitN 8 (w ^^^ c) = upd w c := by
  rw [bitN_split 8 (w ^^^ c), Nat.xor_div_two_pow, Nat.xor_mod_two_pow, Nat.mod_eq_of_lt (a := c) (by simpa using hc), Nat.div_eq_of_lt (a := c) (by simpa using hc), Nat.xor_zero]
  rfl
theorem bit1_lt {w : Nat} (h : w < 4294967296) : bit1 w < 4294967296 := by
  unfold bit1
  refine Nat.xor_lt_two_pow (n := 32) (by omega) ?_
  split
  · decide
  · decide
theorem bitN_lt : ∀ (k : Nat) {w : Nat}, w < 4294967296 → bitN k w < 4294967296
  | 0, _, h => h
  | k + 1, _, h => bitN_lt k (bit1_lt h)
theorem upd_lt {w c : Nat} (h : w < 4294967296) (hc : c < 256) : upd w c < 4294967296 := by
  rw [← upd_ref hc]
  exact bitN_lt 8 (Nat.xor_lt_two_pow (n := 32) h (by omega))
theorem bit1_top {w : Nat} (h : w < 4294967296) : (bit1 w).testBit 31 = decide (w % 2 = 1) := by
  unfold bit1
  rw [Nat.testBit_xor, Nat.testBit_lt_two_pow (show w / 2 < 2 ^ 31 by omega)]
  by_cases hw : w % 2 = 1
  · rw [if_pos hw, decide_eq_true hw]; decide
  · rw [if_neg hw, decide_eq_false hw]; decide
theorem bit1_inj {a b : Nat} (ha : a < 4294967296) (hb : b < 4294967296) (h : bit1 a = bit1 b) : a = b := by
  have ht := bit1_top ha
  rw [h, bit1_top hb, decide_eq_decide] at ht
  have h2 : a / 2 = b / 2 := by
    unfold bit1 at h
    by_cases hw : a % 2 = 1
    · rw [if_pos hw, if_pos (ht.2 hw)] at h
      exact xor_cancel h
    · rw [if_neg hw, if_neg (fun e => hw (ht.1 e))] at h
      exact xor_cancel h
  omega
theorem bitN_inj : ∀ (k : Nat) {a b : Nat}, a < 4294967296 → b < 4294967296 → bitN k a = bitN k b → a = b
  | 0, _, _, _, _, h => h
  | k + 1, _, _, ha, hb, h => bit1_inj ha hb (bitN_inj k (bit1_lt ha) (bit1_lt hb) h)
theorem upd_word {a b c : Nat} (ha : a < 4294967296) (hb : b < 4294967296) (hc : c < 256) (h : upd a c = upd b c) : a = b := by
  rw [← upd_ref hc, ← upd_ref hc] at h
  exact xor_cancel (bitN_inj 8 (Nat.xor_lt_two_pow (n := 32) ha (by omega)) (Nat.xor_lt_two_pow (n := 32) hb (by omega)) h)
theorem upd_byte {a c d : Nat} (ha : a < 4294967296) (hc : c < 256) (hd : d < 256) (h : upd a c = upd a d) : c = d := by
  rw [← upd_ref hc, ← upd_ref hd] at h
  have h2 := bitN_inj 8 (Nat.xor_lt_two_pow (n := 32) ha (by omega)) (Nat.xor_lt_two_pow (n := 32) ha (by omega)) h
  rw [Nat.xor_comm a c, Nat.xor_comm a d] at h2
  exact xor_cancel h2
/-- The check's word behind bytes. -/
def crcW (w : Nat) (l : List UInt8) : Nat := l.foldl (fun w c => upd w c.toNat) w
theorem crcW_cons (w : Nat) (c : UInt8) (l : List UInt8) : crcW w (c :: l) = crcW (upd w c.toNat) l := rfl
theorem crcW_append (w : Nat) (a b : List UInt8) : crcW w (a ++ b) = crcW (crcW w a) b := List.foldl_append
theorem crcW_snoc (w : Nat) (a : List UInt8) (c : UInt8) : crcW w (a ++ [c]) = upd (crcW w a) c.toNat := by rw [crcW_append]; rfl
theorem crcW_lt : ∀ (l : List UInt8) {w : Nat}, w < 4294967296 → crcW w l < 4294967296
  | [], _, h => h
  | c :: l, _, h => crcW_lt l (upd_lt h c.toNat_lt)
theorem crcW_word : ∀ (l : List UInt8) {a b : Nat}, a < 4294967296 → b < 4294967296 → crcW a l = crcW b l → a = b
  | [], _, _, _, _, h => h
  | c :: l, _, _, ha, hb, h => upd_word ha hb c.toNat_lt (crcW_word l (upd_lt ha c.toNat_lt) (upd_lt hb c.toNat_lt) h)
/-- One byte that is another. -/
theorem crcW_slip (p q : List UInt8) {c d : UInt8} {w : Nat} (hw : w < 4294967296) (h : crcW w (p ++ c :: q) = crcW w (p ++ d :: q)) : c = d := by
  rw [crcW_append, crcW_append, crcW_cons, crcW_cons] at h
  have h1 := crcW_lt p hw
  have h2 := crcW_word q (upd_lt h1 c.toNat_lt) (upd_lt h1 d.toNat_lt) h
  exact UInt8.toNat_inj.1 (upd_byte h1 c.toNat_lt d.toNat_lt h2)
/-- The check of bytes. -/
def crc (l : List UInt8) : Nat := 4294967295 - crcW 4294967295 l
theorem crc_lt (l : List UInt8) : crc l < 4294967296 := by unfold crc; omega
theorem crc_slip (p q : List UInt8) {c d : UInt8} (h : crc (p ++ c :: q) = crc (p ++ d :: q)) : c = d := by
  unfold crc at h
  have h1 := crcW_lt (p ++ c :: q) (w := 4294967295) (by omega)
  have h2 := crcW_lt (p ++ d :: q) (w := 4294967295) (by omega)
  exact crcW_slip p q (w := 4294967295) (by omega) (by omega)
theorem not_xor {x : Nat} (h : x < 4294967296) : x ^^^ 4294967295 = 4294967295 - x := by
  have h1 := congrArg BitVec.toNat (BitVec.xor_allOnes (x := BitVec.ofNat 32 x))
  rw [BitVec.toNat_xor, BitVec.toNat_not, BitVec.toNat_ofNat, Nat.mod_eq_of_lt (by simpa using h)] at h1
  exact h1
/-- A word as four bytes, lowest first. -/
def le32 (n : Nat) : List UInt8 := [UInt8.ofNat n, UInt8.ofNat (n / 256), UInt8.ofNat (n / 65536), UInt8.ofNat (n / 16777216)]
def un32 (l : List UInt8) : Nat := match l with
  | a :: b :: c :: d :: _ => a.toNat + 256 * b.toNat + 65536 * c.toNat + 16777216 * d.toNat
  | _ => 0
theorem un32_le32 {n : Nat} (h : n < 4294967296) (r : List UInt8) : un32 (le32 n ++ r) = n := by
  simp only [le32, List.cons_append, un32, UInt8.toNat_ofNat']
  omega
theorem un32_lt (l : List UInt8) : un32 l < 4294967296 := by
  unfold un32
  split
  · rename_i a b c d _
    have := a.toNat_lt; have := b.toNat_lt; have := c.toNat_lt; have := d.toNat_lt
    omega
  · omega
/-- A payload's frame. -/
def frameB (p : List UInt8) : List UInt8 := le32 p.length ++ p ++ le32 (crc (le32 p.length ++ p))
theorem frameB_len (p : List UInt8) : (frameB p).length = p.length + 8 := by unfold frameB; simp [le32]
end Go.Proofs.YtlgbnjaoadlolaaDoor
