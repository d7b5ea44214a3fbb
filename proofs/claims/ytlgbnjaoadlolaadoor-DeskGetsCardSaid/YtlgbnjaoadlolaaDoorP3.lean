/- The cyclic check, in plain numbers: bits, bytes, frames; one byte that is another is found. Bytes in memory; package crc: step, Update, Sum. crc.put, crc.Frame, crc.get. -/
import Derived.Test.YtlgbnjaoadlolaaDoorS0
import Derived.Test.YtlgbnjaoadlolaaDoorG2
import Derived.Laws.BitsLemmas
namespace Go.Proofs.YtlgbnjaoadlolaaDoor
open Go.RowKit

def poly : Nat := 0xedb88320
def bit1 (w : Nat) : Nat := (w / 2) ^^^ (if w % 2 = 1 then poly else 0)
def bitN : Nat → Nat → Nat
  | 0, w => w
  | k + 1, w => bitN k (bit1 w)
theorem xor_left_comm (a b c : Nat) : a ^^^ (b ^^^ c) = b ^^^ (a ^^^ c) := by rw [← Nat.xor_assoc, Nat.xor_comm a b, Nat.xor_assoc]
theorem xor_cancel {a b c : Nat} (h : a ^^^ c = b ^^^ c) : a = b := by
  have h1 : (a ^^^ c) ^^^ c = (b ^^^ c) ^^^ c := by rw [h]
  rw [Nat.xor_assoc, Nat.xor_assoc, Nat.xor_self, Nat.xor_zero, Nat.xor_zero] at h1
  exact h1
theorem bit1_xor (a b : Nat) : bit1 (a ^^^ b) = bit1 a ^^^ bit1 b := by
  unfold bit1
  rw [Nat.xor_div_two]
  have ha := Nat.mod_two_eq_zero_or_one a
  have hb := Nat.mod_two_eq_zero_or_one b
  generalize a / 2 = x at *
  generalize b / 2 = y at *
  rcases ha with ha | ha <;> rcases hb with hb | hb
  · rw [if_neg (by rw [Nat.xor_mod_two_eq_one]; omega), if_neg (by omega), if_neg (by omega)]; simp
  · rw [if_pos (by rw [Nat.xor_mod_two_eq_one]; omega), if_neg (by omega), if_pos hb, Nat.xor_zero, Nat.xor_assoc]
  · rw [if_pos (by rw [Nat.xor_mod_two_eq_one]; omega), if_pos ha, if_neg (by omega), Nat.xor_zero, Nat.xor_assoc, Nat.xor_assoc, Nat.xor_comm y poly]
  · rw [if_neg (by rw [Nat.xor_mod_two_eq_one]; omega), if_pos ha, if_pos hb, Nat.xor_zero, Nat.xor_assoc, xor_left_comm poly, Nat.xor_self, Nat.xor_zero]
theorem bitN_xor : ∀ (k a b : Nat), bitN k (a ^^^ b) = bitN k a ^^^ bitN k b
  | 0, _, _ => rfl
  | k + 1, a, b => by rw [bitN, bitN, bitN, bit1_xor, bitN_xor k]
theorem bitN_split : ∀ (k X : Nat), bitN k X = X / 2 ^ k ^^^ bitN k (X % 2 ^ k)
  | 0, X => by simp [bitN, Nat.mod_one]
  | k + 1, X => by
    have h1 : X % 2 ^ (k + 1) % 2 = X % 2 := Nat.mod_mod_of_dvd X (Nat.pow_dvd_pow 2 (show 1 ≤ k + 1 by omega))
    have h2 : X % 2 ^ (k + 1) / 2 = (X / 2) % 2 ^ k := by
      rw [Nat.pow_succ, Nat.mul_comm]
      exact Nat.mod_mul_right_div_self X 2 (2 ^ k)
    rw [bitN, bitN]
    unfold bit1
    rw [h1, h2, bitN_xor, bitN_xor, bitN_split k (X / 2), Nat.div_div_eq_div_mul, Nat.pow_succ, Nat.mul_comm 2, Nat.xor_assoc]
/-- One byte, as the program takes it. -/
def upd (w c : Nat) : Nat := (w / 256) ^^^ bitN 8 ((w % 256) ^^^ c)
theorem upd_ref {c : Nat} (hc : c < 256) (w : Nat) : bitN 8 (w ^^^ c) = upd w c := by
  rw [bitN_split 8 (w ^^^ c), Nat.xor_div_two_pow, Nat.xor_mod_two_pow, Nat.mod_eq_of_lt (a := c) (by simpa using hc), Nat.div_eq_of_lt (a := c) (by simpa using hc), Nat.xor_zero]
  rfl
theorem bit1_lt {w : Nat} (h : w < 4294967296) : bit1 w < 4294967296 := by
  unfold bit1
  refine Nat.xor_lt_two_pow (n := 32) (by omega) ?_
  split
  · decide
  · decide
theorem bitN_lt : ∀ (k : Nat) {w : Nat}, w < 4294967296 → bitN k w < 4294967296
  | 0, _, h => h
  | k + 1, _, h => bitN_lt k (bit1_lt h)
theorem upd_lt {w c : Nat} (h : w < 4294967296) (hc : c < 256) : upd w c < 4294967296 := by
  rw [← upd_ref hc]
  exact bitN_lt 8 (Nat.xor_lt_two_pow (n := 32) h (by omega))
theorem bit1_top {w : Nat} (h : w < 4294967296) : (bit1 w).testBit 31 = decide (w % 2 = 1) := by
  unfold bit1
  rw [Nat.testBit_xor, Nat.testBit_lt_two_pow (show w / 2 < 2 ^ 31 by omega)]
  by_cases hw : w % 2 = 1
  · rw [if_pos hw, decide_eq_true hw]; decide
  · rw [if_neg hw, decide_eq_false hw]; decide
theorem bit1_inj {a b : Nat} (ha : a < 4294967296) (hb : b < 4294967296) (h : bit1 a = bit1 b) : a = b := by
  have ht := bit1_top ha
  rw [h, bit1_top hb, decide_eq_decide] at ht
  have h2 : a / 2 = b / 2 := by
    unfold bit1 at h
    by_cases hw : a % 2 = 1
    · rw [if_pos hw, if_pos (ht.2 hw)] at h
      exact xor_cancel h
    · rw [if_neg hw, if_neg (fun e => hw (ht.1 e))] at h
      exact xor_cancel h
  omega
theorem bitN_inj : ∀ (k : Nat) {a b : Nat}, a < 4294967296 → b < 4294967296 → bitN k a = bitN k b → a = b
  | 0, _, _, _, _, h => h
  | k + 1, _, _, ha, hb, h => bit1_inj ha hb (bitN_inj k (bit1_lt ha) (bit1_lt hb) h)
theorem upd_word {a b c : Nat} (ha : a < 4294967296) (hb : b < 4294967296) (hc : c < 256) (h : upd a c = upd b c) : a = b := by
  rw [← upd_ref hc, ← upd_ref hc] at h
  exact xor_cancel (bitN_inj 8 (Nat.xor_lt_two_pow (n := 32) ha (by omega)) (Nat.xor_lt_two_pow (n := 32) hb (by omega)) h)
theorem upd_byte {a c d : Nat} (ha : a < 4294967296) (hc : c < 256) (hd : d < 256) (h : upd a c = upd a d) : c = d := by
  rw [← upd_ref hc, ← upd_ref hd] at h
  have h2 := bitN_inj 8 (Nat.xor_lt_two_pow (n := 32) ha (by omega)) (Nat.xor_lt_two_pow (n := 32) ha (by omega)) h
  rw [Nat.xor_comm a c, Nat.xor_comm a d] at h2
  exact xor_cancel h2
/-- The check's word behind bytes. -/
def crcW (w : Nat) (l : List UInt8) : Nat := l.foldl (fun w c => upd w c.toNat) w
theorem crcW_cons (w : Nat) (c : UInt8) (l : List UInt8) : crcW w (c :: l) = crcW (upd w c.toNat) l := rfl
theorem crcW_append (w : Nat) (a b : List UInt8) : crcW w (a ++ b) = crcW (crcW w a) b := List.foldl_append
theorem crcW_snoc (w : Nat) (a : List UInt8) (c : UInt8) : crcW w (a ++ [c]) = upd (crcW w a) c.toNat := by rw [crcW_append]; rfl
theorem crcW_lt : ∀ (l : List UInt8) {w : Nat}, w < 4294967296 → crcW w l < 4294967296
  | [], _, h => h
  | c :: l, _, h => crcW_lt l (upd_lt h c.toNat_lt)
theorem crcW_word : ∀ (l : List UInt8) {a b : Nat}, a < 4294967296 → b < 4294967296 → crcW a l = crcW b l → a = b
  | [], _, _, _, _, h => h
  | c :: l, _, _, ha, hb, h => upd_word ha hb c.toNat_lt (crcW_word l (upd_lt ha c.toNat_lt) (upd_lt hb c.toNat_lt) h)
/-- One byte that is another. -/
theorem crcW_slip (p q : List UInt8) {c d : UInt8} {w : Nat} (hw : w < 4294967296) (h : crcW w (p ++ c :: q) = crcW w (p ++ d :: q)) : c = d := by
  rw [crcW_append, crcW_append, crcW_cons, crcW_cons] at h
  have h1 := crcW_lt p hw
  have h2 := crcW_word q (upd_lt h1 c.toNat_lt) (upd_lt h1 d.toNat_lt) h
  exact UInt8.toNat_inj.1 (upd_byte h1 c.toNat_lt d.toNat_lt h2)
/-- The check of bytes. -/
def crc (l : List UInt8) : Nat := 4294967295 - crcW 4294967295 l
theorem crc_lt (l : List UInt8) : crc l < 4294967296 := by unfold crc; omega
theorem crc_slip (p q : List UInt8) {c d : UInt8} (h : crc (p ++ c :: q) = crc (p ++ d :: q)) : c = d := by
  unfold crc at h
  have h1 := crcW_lt (p ++ c :: q) (w := 4294967295) (by omega)
  have h2 := crcW_lt (p ++ d :: q) (w := 4294967295) (by omega)
  exact crcW_slip p q (w := 4294967295) (by omega) (by omega)
theorem not_xor {x : Nat} (h : x < 4294967296) : x ^^^ 4294967295 = 4294967295 - x := by
  have h1 := congrArg BitVec.toNat (BitVec.xor_allOnes (x := BitVec.ofNat 32 x))
  rw [BitVec.toNat_xor, BitVec.toNat_not, BitVec.toNat_ofNat, Nat.mod_eq_of_lt (by simpa using h)] at h1
  exact h1
/-- A word as four bytes, lowest first. -/
def le32 (n : Nat) : List UInt8 := [UInt8.ofNat n, UInt8.ofNat (n / 256), UInt8.ofNat (n / 65536), UInt8.ofNat (n / 16777216)]
def un32 (l : List UInt8) : Nat := match l with
  | a :: b :: c :: d :: _ => a.toNat + 256 * b.toNat + 65536 * c.toNat + 16777216 * d.toNat
  | _ => 0
theorem un32_le32 {n : Nat} (h : n < 4294967296) (r : List UInt8) : un32 (le32 n ++ r) = n := by
  simp only [le32, List.cons_append, un32, UInt8.toNat_ofNat']
  omega
theorem un32_lt (l : List UInt8) : un32 l < 4294967296 := by
  unfold un32
  split
  · rename_i a b c d _
    have := a.toNat_lt; have := b.toNat_lt; have := c.toNat_lt; have := d.toNat_lt
    omega
  · omega
/-- A payload's frame. -/
def frameB (p : List UInt8) : List UInt8 := le32 p.length ++ p ++ le32 (crc (le32 p.length ++ p))
theorem frameB_len (p : List UInt8) : (frameB p).length = p.length + 8 := by unfold frameB; simp [le32]


abbrev byteC (b : UInt8) : List Value := [.int .u8 (b.toNat : Int)]
theorem byteC_len (b : UInt8) : (byteC b).length = 1 := rfl
theorem byteC_one (b : UInt8) : ∀ u ∈ byteC b, u.oneCell' = true := by intro u hu; simp at hu; subst hu; rfl
def BytesAt (w : World) (a : Option Addr) (l : List UInt8) : Prop := RecsAt 1 byteC w a l
theorem BytesAt.get {w : World} {a : Option Addr} {l : List UInt8} (h : BytesAt w a l) {i : Nat} {d : UInt8} (hd : l[i]? = some d) : ∃ b off, a = some ⟨b, off, none⟩ ∧ b < w.heap.size ∧ w.cell? ⟨b, off + i, none⟩ = some (.int .u8 (d.toNat : Int)) := by
  obtain ⟨b, off, ha, hb, hc⟩ := h i d hd
  exact ⟨b, off, ha, hb, by have := hc 0 _ rfl; rwa [Nat.mul_one, Nat.add_zero] at this⟩
theorem BytesAt.gr {w w' : World} {a : Option Addr} {l : List UInt8} (h : BytesAt w a l) (g : Gr w w') : BytesAt w' a l := by
  intro i s hi
  obtain ⟨b, off, ha, hb, hc⟩ := h i s hi
  exact ⟨b, off, ha, Nat.lt_of_lt_of_le hb g.size, fun j u hu => by rw [g.cells.1 _ _ hb]; exact hc j u hu⟩

theorem wraps_u32 (n : Int) (h₀ : 0 ≤ n) (h₁ : n < 2 ^ 32) : IntKind.u32.wrap n = n := by rw [IntKind.wrap_u32]; omega
theorem xor_nat (k : IntKind) (j : Nat) (hj : j ≤ k.bits) (hk : ∀ n : Int, 0 ≤ n → n < 2 ^ j → k.wrap n = n) (a b : Nat) (ha : a < 2 ^ j) (hb : b < 2 ^ j) : bits .xor k a b = ((a ^^^ b : Nat) : Int) := by
  have hp : 2 ^ j ≤ 2 ^ k.bits := Nat.pow_le_pow_right (by decide) hj
  have ha' : a % 2 ^ k.bits = a := Nat.mod_eq_of_lt (Nat.lt_of_lt_of_le ha hp)
  have hb' : b % 2 ^ k.bits = b := Nat.mod_eq_of_lt (Nat.lt_of_lt_of_le hb hp)
  simp only [bits, BitVec.ofInt_natCast, BitVec.toNat_xor, BitVec.toNat_ofNat, ha', hb']
  exact hk _ (Int.natCast_nonneg _) (by exact_mod_cast Nat.xor_lt_two_pow ha hb)
theorem xor_u32 {a b : Nat} (ha : a < 4294967296) (hb : b < 4294967296) : bits .xor .u32 a b = ((a ^^^ b : Nat) : Int) := xor_nat .u32 32 (by decide) wraps_u32 a b ha hb
theorem xor_u8 {a b : Nat} (ha : a < 256) (hb : b < 256) : bits .xor .u8 a b = ((a ^^^ b : Nat) : Int) := xor_nat .u8 8 (by decide) wraps_u8 a b ha hb
theorem and_u32 {a b : Nat} (ha : a < 4294967296) (hb : b < 4294967296) : bits .and .u32 a b = ((a &&& b : Nat) : Int) := (bits_nat .u32 32 (by decide) wraps_u32 a b ha hb).1
theorem and_one (a : Nat) : a &&& 1 = a % 2 := Nat.and_two_pow_sub_one_eq_mod a 1

/-- One bit, as the program reckons it. -/
theorem bit1_val {m : Nat} (hm : m < 4294967296) : bits .xor .u32 ((m : Int) / 2) (bits .and .u32 3988292384 (-((m : Int) % 2) % 4294967296)) = ((bit1 m : Nat) : Int) := by
  have hq : (m : Int) / 2 = ((m / 2 : Nat) : Int) := rfl
  unfold bit1
  by_cases h : m % 2 = 1
  · have e1 : -((m : Int) % 2) % 4294967296 = ((4294967295 : Nat) : Int) := by omega
    have e2 : bits .and .u32 3988292384 ((4294967295 : Nat) : Int) = ((poly : Nat) : Int) := by
      have := and_u32 (a := poly) (b := 4294967295) (by decide) (by decide)
      rw [show poly &&& 4294967295 = poly by decide] at this
      exact this
    rw [e1, e2, hq, xor_u32 (by omega) (by decide), if_pos h]
  · have e1 : -((m : Int) % 2) % 4294967296 = ((0 : Nat) : Int) := by omega
    have e2 : bits .and .u32 3988292384 ((0 : Nat) : Int) = ((0 : Nat) : Int) := by
      have := and_u32 (a := poly) (b := 0) (by decide) (by decide)
      rw [show poly &&& 0 = 0 by decide] at this
      exact this
    rw [e1, e2, hq, xor_u32 (by omega) (by decide), if_neg h]
set_option maxHeartbeats 800000 in
theorem step_any (n : Nat) (hn : n < 4294967296) (w : World) :
    Calls Tryd.prog 74 #[.int .u32 n] w fun e w' => e = .returned (.int .u32 (bitN 8 n)) ∧ w = w' := by
  go_enter Tryd.func74, Tryd.ntmps74
  go_wp2_with fail
  go_loop [4, 0] (fun iv nv => ∃ k : Nat, ∃ m : Nat, k ≤ 8 ∧ iv = .int .i64 k ∧ nv = .int .u32 m ∧ m < 4294967296 ∧ bitN (8 - k) m = bitN 8 n) (fun iv _ => 8 - (intOf iv).toNat)
  case atStart => exact ⟨0, n, by omega, rfl, rfl, hn, rfl⟩
  case round =>
    obtain ⟨k, m, hk, rfl, rfl, hm, he⟩ := hrel
    by_cases hlt : k < 8
    · have hlt2 : (k : Int) < 8 := by omega
      have h1 : bits .and .u32 (m : Int) 1 = ((m % 2 : Nat) : Int) := by
        have := and_u32 (a := m) (b := 1) hm (by omega)
        rw [and_one] at this
        exact this
      have hv := bit1_val hm
      have he2 : bitN (8 - (k + 1)) (bit1 m) = bitN 8 n := by rw [← he, show 8 - k = 8 - (k + 1) + 1 by omega]; rfl
      replace he2 := Lib.hid he2
      replace he := Lib.hid he
      go_wp2_with fail
      go_round
      case rel => exact ⟨k + 1, bit1 m, by omega, by go_num, rfl, bit1_lt hm, he2.out⟩
      case measure => simp [intOf]; omega
    · obtain rfl : k = 8 := by omega
      have hm2 : m = bitN 8 n := he
      replace he := Lib.hid hm2
      go_wp2_with fail
      go_ret
      exact ⟨rfl, rfl⟩

set_option maxHeartbeats 800000 in
theorem update_any (a : Option Addr) (c : Nat) (l : List UInt8) (n : Nat) (hn : n < 4294967296) (w : World) (h : BytesAt w a l) (hm : l.length ≤ maxLen) :
    Calls Tryd.prog 70 #[.int .u32 n, .slice a l.length c] w fun e w' => e = .returned (.int .u32 (crcW n l)) ∧ w = w' := by
  have hmm := hm
  unfold maxLen at hmm
  go_enter Tryd.func70, Tryd.ntmps70
  go_wp2_with fail
  go_loop [9, 0] (fun iv nv => ∃ k : Nat, k ≤ l.length ∧ iv = .int .i64 k ∧ nv = .int .u32 (crcW n (l.take k))) (fun iv _ => l.length - (intOf iv).toNat)
  case atStart => exact ⟨0, Nat.zero_le _, rfl, rfl⟩
  case round =>
    obtain ⟨k, hk, rfl, rfl⟩ := hrel
    by_cases hlt : k < l.length
    · obtain ⟨x, hx⟩ := get_some l k hlt
      obtain ⟨b, off, rfl, hb, c0⟩ := h.get hx
      have hc := x.toNat_lt
      have hw := crcW_lt (l.take k) hn
      have hs : crcW n (l.take (k + 1)) = upd (crcW n (l.take k)) x.toNat := by rw [take_snoc hx, crcW_snoc]
      generalize crcW n (l.take k) = m at *
      have e1 : bits .xor .u8 ((m : Int) % 256) (x.toNat : Int) = (((m % 256) ^^^ x.toNat : Nat) : Int) := xor_u8 (a := m % 256) (by omega) (by omega)
      have hx8 : (m % 256) ^^^ x.toNat < 2 ^ 8 := Nat.xor_lt_two_pow (by omega) (by omega)
      have hst := fun w => step_any ((m % 256) ^^^ x.toNat) (by omega) w
      have hb8 := bitN_lt 8 (w := (m % 256) ^^^ x.toNat) (by omega)
      have e2 : bits .xor .u32 ((m : Int) / 256) ((bitN 8 ((m % 256) ^^^ x.toNat) : Nat) : Int) = ((upd m x.toNat : Nat) : Int) := xor_u32 (a := m / 256) (by omega) hb8
      generalize hz : (m % 256) ^^^ x.toNat = z at *
      generalize bitN 8 z = y at *
      generalize upd m x.toNat = u at *
      replace hs := Lib.hid hs
      replace hst := Lib.hid hst
      replace hx := Lib.hid hx
      replace hz := Lib.hid hz
      go_wp2_with fail
      refine (hst.out _).mono ?_
      rintro e w2 ⟨rfl, rfl⟩
      go_wp2_with fail
      go_round
      case rel => exact ⟨k + 1, by omega, by go_num, by rw [hs.out]⟩
      case measure => simp [intOf]; omega
    · have hall : l.take k = l := List.take_of_length_le (by omega)
      rw [hall]
      go_wp2_with fail
      go_ret
      exact ⟨rfl, rfl⟩
theorem csum_any (a : Option Addr) (c : Nat) (l : List UInt8) (w : World) (h : BytesAt w a l) (hm : l.length ≤ maxLen) :
    Calls Tryd.prog 65 #[.slice a l.length c] w fun e w' => e = .returned (.int .u32 (crc l)) ∧ w = w' := by
  have hu := update_any a c l 4294967295 (by omega) w h hm
  have hw := crcW_lt l (w := 4294967295) (by omega)
  unfold crc
  generalize crcW 4294967295 l = m at *
  have hv : bits .xor .u32 IntKind.u32.max (m : Int) = ((4294967295 - m : Nat) : Int) := by
    have := xor_u32 (a := 4294967295) (b := m) (by omega) hw
    rw [Nat.xor_comm, not_xor hw] at this
    exact this
  replace hv := Lib.hid hv
  replace hu := Lib.hid hu
  go_enter Tryd.func65, Tryd.ntmps65
  go_wp2_with fail
  refine hu.out.mono ?_
  rintro e w2 ⟨rfl, rfl⟩
  go_wp2_with fail
  go_ret
  exact ⟨congrArg (fun v => Ending.returned (.int .u32 v)) hv.out, rfl⟩


theorem Tryd.infoU8 : (Tryd.prog.info? 5).map (fun i => (i.zero, i.size, i.bytes)) = some (some (.int .u8 0), 1, 1) := by kernel_rfl
theorem recs_alloc1 {α : Type} {k : Nat} {enc : α → List Value} (hk : ∀ s, (enc s).length = k) (W : World) {n : Nat} (hn : W.heap.size = n) (l : List α) (e : TypeId) (cs : Array Value) (h : cs.toList = l.flatMap enc) : RecsAt k enc (W.alloc (.cells cs e)) (some ⟨n, 0, none⟩) l := by
  subst hn
  exact recs_alloc hk W l e cs h
/-- A row of bytes that the call itself made. -/
def Own (W w : World) (a : Option Addr) (c : Nat) (l : List UInt8) : Prop := w.ownsRow W.heap.size 5 1 (.slice a l.length c) l.length (l.flatMap byteC) ∧ BytesAt w a l ∧ (a = none → c = 0) ∧ (∀ x, a = some x → W.heap.size ≤ x.block) ∧ Gr W w
theorem Own.nil (W w : World) (g : Gr W w) : Own W w none 0 [] := ⟨World.ownsRow_nil _ _ _ _, fun i s hi => by simp at hi, (fun _ => rfl), (fun x hx => by cases hx), g⟩
theorem Own.of {W w : World} {v : Value} {l : List UInt8} (h : w.ownsRow W.heap.size 5 1 v l.length (l.flatMap byteC)) (g : Gr W w) : ∃ a c, v = .slice a l.length c ∧ Own W w a c l := by
  obtain ⟨a, c, rfl, hr, hn, hb⟩ := recs_of_owns byteC_len h
  exact ⟨a, c, rfl, h, hr, hn, hb, g⟩
theorem Own.gr {W w w' : World} {a : Option Addr} {c : Nat} {l : List UInt8} (h : Own W w a c l) (g : Gr w w') : Own W w' a c l := ⟨owns_gr h.1 g, h.2.1.gr g, h.2.2.1, h.2.2.2.1, h.2.2.2.2.trans g⟩
theorem le32_len (n : Nat) : (le32 n).length = 4 := rfl
theorem le32_cells {n : Nat} (hn : n < 4294967296) : #[Value.int .u8 ((n : Int) % 256), .int .u8 ((n : Int) / 256 % 256), .int .u8 ((n : Int) / 65536 % 256), .int .u8 ((n : Int) / 16777216)].toList = (le32 n).flatMap byteC := by
  have e : ∀ m : Nat, ((UInt8.ofNat m).toNat : Int) = (m : Int) % 256 := fun m => by rw [UInt8.toNat_ofNat']; rfl
  have e2 : (n : Int) / 16777216 = ((n / 16777216 : Nat) : Int) % 256 := by omega
  rw [e2]
  simp only [le32, byteC, List.flatMap_cons, List.flatMap_nil, e, List.cons_append, List.nil_append]
  rfl

set_option maxRecDepth 100000 in
set_option maxHeartbeats 800000 in
theorem put_any (W w : World) (a : Option Addr) (c : Nat) (l : List UInt8) (n : Nat) (hn : n < 4294967296) (h : Own W w a c l) (hm : l.length ≤ 1000000) :
    Calls Tryd.prog 64 #[.slice a l.length c, .int .u32 n] w fun e w' => ∃ a' c', e = .returned (.slice a' (l ++ le32 n).length c') ∧ Own W w' a' c' (l ++ le32 n) := by
  obtain ⟨i5, hi, hz0, hz1, hz2⟩ := info_parts Tryd.infoU8
  obtain ⟨hown, hr, hc, hb, g⟩ := h
  have n1 : l.length + (le32 n).length ≤ maxLen := by rw [le32_len]; unfold maxLen; omega
  have n2 : (l.length + (le32 n).length) * 1 ≤ 140737488355328 := by rw [le32_len]; omega
  have n3 := g.size
  replace hr := Lib.hid hr
  replace hb := Lib.hid hb
  replace hc := Lib.hid hc
  go_enter Tryd.func64, Tryd.ntmps64
  go_wp2_with (at_builtin; go_loud (refine wpList_append_recs (k := 1) (enc := byteC) rfl _ _ 22 rfl W.heap.size 5 i5 _ 1 Tryd.underlying22 hi hz0 hz1 hz2 rfl (by decide) byteC_len byteC_one (.slice a l.length c) l rfl (owns_gr hown ((Gr.refl w).alloc _)) (some ⟨w.heap.size, 0, none⟩) 4 (le32 n) rfl (recs_alloc byteC_len w (le32 n) _ _ (le32_cells hn)) (fun h => by cases h) n1 n2 (le_alloc n3 _) ?_; intro v1 w1 hown1 hgr1; have hg1 : Gr W w1 := (g.alloc _).grown hgr1 (own_block hown)))
  go_ret
  obtain ⟨a', c', rfl, ho⟩ := Own.of hown1 hg1
  exact ⟨a', c', rfl, ho⟩

set_option maxRecDepth 100000 in
set_option maxHeartbeats 1600000 in
theorem frame_any (w : World) (a : Option Addr) (c : Nat) (l : List UInt8) (h : BytesAt w a l) (hc : a = none → c = 0) (hl : l.length ≤ 32768) :
    Calls Tryd.prog 50 #[.slice a l.length c] w fun e w' => ∃ a' c', e = .returned (.tuple #[.slice a' (frameB l).length c', .nilIface]) ∧ Own w w' a' c' (frameB l) := by
  obtain ⟨i5, hi, hz0, hz1, hz2⟩ := info_parts Tryd.infoU8
  have hp1 := put_any w w none 0 [] l.length (by omega) (Own.nil w w (Gr.refl w)) (by simp)
  have hfl := frameB_len l
  obtain ⟨L2, hL2⟩ : ∃ L2, L2 = le32 l.length ++ l := ⟨_, rfl⟩
  have hL2l : L2.length = 4 + l.length := by rw [hL2, List.length_append, le32_len]
  have hsu := fun a1 c1 w1 (hb : BytesAt w1 a1 L2) => csum_any a1 c1 L2 w1 hb (by unfold maxLen; omega)
  have hp2 := fun a1 c1 w1 (ho : Own w w1 a1 c1 L2) => put_any w w1 a1 c1 L2 (crc L2) (crc_lt _) ho (by omega)
  have hfr : L2 ++ le32 (crc L2) = frameB l := by rw [hL2]; rfl
  rw [hfr] at hp2
  have n1 : (le32 l.length).length + l.length ≤ maxLen := by rw [le32_len]; unfold maxLen; omega
  have n2 : ((le32 l.length).length + l.length) * 1 ≤ 140737488355328 := by rw [le32_len]; omega
  rw [show ([] : List UInt8) ++ le32 l.length = le32 l.length from rfl] at hp1
  replace hp1 := Lib.hid hp1
  replace hp2 := Lib.hid hp2
  replace hsu := Lib.hid hsu
  replace h := Lib.hid h
  replace hfl := Lib.hid hfl
  replace hL2 := Lib.hid hL2
  replace hfr := Lib.hid hfr
  replace hL2l := Lib.hid hL2l
  go_enter Tryd.func50, Tryd.ntmps50
  go_wp2_with fail
  refine hp1.out.mono ?_
  rintro e w1 ⟨a1, c1, rfl, ho1⟩
  obtain ⟨ow, br, bn, bb, g1⟩ := ho1
  have n3 := g1.size
  have hs1 := h.out.gr g1
  replace br := Lib.hid br
  replace bb := Lib.hid bb
  replace bn := Lib.hid bn
  replace hs1 := Lib.hid hs1
  go_wp2_with (at_builtin; go_loud (refine wpList_append_recs (k := 1) (enc := byteC) rfl _ _ 22 rfl w.heap.size 5 i5 _ 1 Tryd.underlying22 hi hz0 hz1 hz2 rfl (by decide) byteC_len byteC_one (.slice a1 (le32 l.length).length c1) (le32 l.length) rfl ow a c l rfl hs1.out hc n1 n2 n3 ?_; intro v2 w2 hown2 hgr2; rw [← hL2.out] at hown2; have g2 : Gr w w2 := g1.grown hgr2 (own_block ow); obtain ⟨a2, c2, hv2, ho2⟩ := Own.of hown2 g2; subst hv2; have hb2 := ho2.2.1; replace ho2 := Lib.hid ho2; replace hb2 := Lib.hid hb2))
  refine (hsu.out a2 c2 w2 hb2.out).mono ?_
  rintro e w3 ⟨rfl, rfl⟩
  go_wp2_with fail
  refine (hp2.out a2 c2 w2 ho2.out).mono ?_
  rintro e w4 ⟨a4, c4, rfl, ho4⟩
  replace ho4 := Lib.hid ho4
  go_wp2_with fail
  go_ret2
  exact ⟨a4, c4, rfl, ho4.out⟩

theorem or_low (i : Nat) (hi : i ≤ 32) {x y : Nat} (hx : x < 2 ^ i) (hy : y * 2 ^ i < 4294967296) : bits .or .u32 (x : Int) ((y * 2 ^ i : Nat) : Int) = ((x + y * 2 ^ i : Nat) : Int) := by
  have h1 : 2 ^ i ≤ 2 ^ 32 := Nat.pow_le_pow_right (by decide) hi
  rw [(bits_nat .u32 32 (by decide) wraps_u32 x (y * 2 ^ i) (Nat.lt_of_lt_of_le hx h1) hy).2, Nat.or_comm, Nat.mul_comm, ← Nat.two_pow_add_eq_or_of_lt hx y, Nat.add_comm]
theorem or_word {a b c d : Nat} (ha : a < 2 ^ 8) (hb : b < 2 ^ 8) (hc : c < 2 ^ 8) (hd : d < 2 ^ 8) :
    bits .or .u32 (bits .or .u32 (bits .or .u32 (a : Int) ((b : Int) * 256)) ((c : Int) * 65536)) ((d : Int) * 16777216) = ((a + 256 * b + 65536 * c + 16777216 * d : Nat) : Int) := by
  have h1 : bits .or .u32 (a : Int) ((b : Int) * 256) = ((a + b * 256 : Nat) : Int) := or_low 8 (by decide) ha (by omega)
  have h2 : bits .or .u32 ((a + b * 256 : Nat) : Int) ((c : Int) * 65536) = ((a + b * 256 + c * 65536 : Nat) : Int) := or_low 16 (by decide) (by omega) (by omega)
  have h3 : bits .or .u32 ((a + b * 256 + c * 65536 : Nat) : Int) ((d : Int) * 16777216) = ((a + b * 256 + c * 65536 + d * 16777216 : Nat) : Int) := or_low 24 (by decide) (by omega) (by omega)
  rw [h1, h2, h3]
  omega
set_option maxHeartbeats 1600000 in
theorem get_any (w : World) (b o n c : Nat) (x0 x1 x2 x3 : UInt8) (hn : 4 ≤ n) (h0 : w.cell? ⟨b, o, none⟩ = some (.int .u8 (x0.toNat : Int))) (h1 : w.cell? ⟨b, o + 1, none⟩ = some (.int .u8 (x1.toNat : Int))) (h2 : w.cell? ⟨b, o + 2, none⟩ = some (.int .u8 (x2.toNat : Int))) (h3 : w.cell? ⟨b, o + 3, none⟩ = some (.int .u8 (x3.toNat : Int))) :
    Calls Tryd.prog 66 #[.slice (some ⟨b, o, none⟩) n c] w fun e w' => e = .returned (.int .u32 (un32 [x0, x1, x2, x3])) ∧ Gr w w' := by
  have q0 := GrW.cell h0
  have q1 := GrW.cell h1
  have q2 := GrW.cell h2
  have q3 := GrW.cell h3
  have t0 := x0.toNat_lt
  have t1 := x1.toNat_lt
  have t2 := x2.toNat_lt
  have t3 := x3.toNat_lt
  have m1 : (1 : Int) < n := by omega
  have m2 : (2 : Int) < n := by omega
  have m3 : (3 : Int) < n := by omega
  have m0 : (0 : Int) < n := by omega
  go_enter Tryd.func66, Tryd.ntmps66
  go_wp2_with fail
  refine wp_region_grows (by kernel_rfl) (by kernel_rfl) ?_
  repeat (any_goals (first | go_big_quiet_step (first | fail) | quiet_step (first | fail)))
  refine wpQuiet_nil ?_
  intro wz hwq
  have gz := GrW.of hwq
  clear hwq
  obtain ⟨cz, fz, sz⟩ := gz.cells
  try simp only [size_drewN] at cz fz sz
  try simp only [World.size_alloc] at cz fz sz
  try simp only [World.size_drew] at cz fz sz
  try simp only [World.size_setCell] at cz fz sz
  go_wp2_with fail
  go_ret
  exact ⟨congrArg (fun v => Ending.returned (.int .u32 v)) (or_word t0 t1 t2 t3), gz⟩
end Go.Proofs.YtlgbnjaoadlolaaDoor
