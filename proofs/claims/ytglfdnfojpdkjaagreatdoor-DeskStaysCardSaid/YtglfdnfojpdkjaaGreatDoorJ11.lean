/- The law DemandSplits. -/
import Derived.Test.YtglfdnfojpdkjaaGreatDoorJ10
import Derived.Test.YtglfdnfojpdkjaaGreatDoorJ8
import Derived.Test.YtglfdnfojpdkjaaGreatDoorJ3
namespace Go.Proofs.YtglfdnfojpdkjaaGreatDoor
open Go.RowKit

theorem div_add_le {a b t : Int} (ht : 1 ≤ t) : a / t + b / t ≤ (a + b) / t ∧ (a + b) / t ≤ a / t + b / t + 1 := by
  have e1 := Int.mul_ediv_add_emod a t
  have e2 := Int.mul_ediv_add_emod b t
  have l1 := Int.emod_lt_of_pos a (show 0 < t by omega)
  have l2 := Int.emod_lt_of_pos b (show 0 < t by omega)
  have n1 := Int.emod_nonneg a (show t ≠ 0 by omega)
  have n2 := Int.emod_nonneg b (show t ≠ 0 by omega)
  constructor
  · rw [Int.le_ediv_iff_mul_le (by omega), Int.add_mul, Int.mul_comm (a / t), Int.mul_comm (b / t)]; omega
  · have : (a + b) / t < a / t + b / t + 2 := by
      rw [Int.ediv_lt_iff_lt_mul (by omega), Int.add_mul, Int.add_mul, Int.mul_comm (a / t), Int.mul_comm (b / t)]; omega
    omega

theorem up_add_le {a b t : Int} (ht : 1 ≤ t) : upI (a + b) t ≤ upI a t + upI b t := by
  unfold upI
  have e1 := Int.mul_ediv_add_emod (a + t - 1) t
  have e2 := Int.mul_ediv_add_emod (b + t - 1) t
  have n1 := Int.emod_lt_of_pos (a + t - 1) (show 0 < t by omega)
  have n2 := Int.emod_lt_of_pos (b + t - 1) (show 0 < t by omega)
  have : (a + b + t - 1) / t < (a + t - 1) / t + (b + t - 1) / t + 1 := by
    rw [Int.ediv_lt_iff_lt_mul (by omega), Int.add_mul, Int.add_mul, Int.mul_comm ((a + t - 1) / t), Int.mul_comm ((b + t - 1) / t)]; omega
  omega
theorem up_ge_div {a t : Int} (ht : 1 ≤ t) : a / t ≤ upI a t ∧ (a % t ≠ 0 → a / t + 1 ≤ upI a t) := by
  unfold upI
  have e1 := Int.mul_ediv_add_emod a t
  have n1 := Int.emod_nonneg a (show t ≠ 0 by omega)
  constructor
  · rw [Int.le_ediv_iff_mul_le (by omega), Int.mul_comm]; omega
  · intro h
    rw [Int.le_ediv_iff_mul_le (by omega), Int.add_mul, Int.mul_comm (a / t)]; omega
theorem mul_mono {a b q : Int} (h : a ≤ b) (hq : 0 ≤ q) : a * q ≤ b * q := Int.mul_le_mul_of_nonneg_right h hq

/-- Demands are at most requests. -/
theorem asked_le_req {s : Srv} (hs : Leg s) {l : Int} (hl : 0 ≤ l) : askedI s l ≤ reqI s l := by
  obtain ⟨_, _, h3, h4, h5⟩ := hs
  have hu := up_ge_div (a := l) (show 1 ≤ s.t by omega)
  have m1 := mul_mono hu.1 (show 0 ≤ s.q by omega)
  unfold askedI reqI
  by_cases hk : s.k = 3
  · rw [if_pos hk]
    by_cases h0 : 0 < l
    · rw [if_pos ⟨hk, h0⟩]; omega
    · obtain rfl : l = 0 := by omega
      rw [if_neg (fun h => h0 h.2)]
      simp
      simp at m1
      omega
  · rw [if_neg hk, if_neg (fun h => hk h.1)]; exact m1

theorem splits_plain {s : Srv} (hs : Leg s) {a b : Int} (hk : s.k ≠ 3) :
    askedI s a + askedI s b ≤ askedI s (a + b) ∧ reqI s (a + b) ≤ reqI s a + reqI s b := by
  obtain ⟨_, _, h3, h4, h5⟩ := hs
  have h1 := div_add_le (a := a) (b := b) (show 1 ≤ s.t by omega)
  have h2 := up_add_le (a := a) (b := b) (show 1 ≤ s.t by omega)
  have m1 := mul_mono h1.1 (show 0 ≤ s.q by omega)
  have m2 := mul_mono h2 (show 0 ≤ s.q by omega)
  rw [Int.add_mul] at m1 m2
  unfold askedI reqI
  rw [if_neg hk, if_neg hk, if_neg hk, if_neg (fun h => hk h.1), if_neg (fun h => hk h.1), if_neg (fun h => hk h.1)]
  omega

theorem splits_def {s : Srv} (hs : Leg s) {a b : Int} (ha : 0 ≤ a) (hb : 0 ≤ b) (hk : s.k = 3) :
    askedI s (a + b) ≤ askedI s a + askedI s b + s.q ∧ askedI s a + askedI s b ≤ askedI s (a + b) + s.q ∧ reqI s (a + b) ≤ reqI s a + reqI s b := by
  obtain ⟨_, _, h3, h4, h5⟩ := hs
  have ht : 1 ≤ s.t := by omega
  have h1 := div_add_le (a := a) (b := b) ht
  have h2 := up_add_le (a := a) (b := b) ht
  have m2 := mul_mono h2 (show 0 ≤ s.q by omega)
  rw [Int.add_mul] at m2
  have e1 := Int.mul_ediv_add_emod a s.t
  have e2 := Int.mul_ediv_add_emod b s.t
  have e3 := Int.mul_ediv_add_emod (a + b) s.t
  have l1 := Int.emod_lt_of_pos a (show 0 < s.t by omega)
  have l2 := Int.emod_lt_of_pos b (show 0 < s.t by omega)
  have l3 := Int.emod_lt_of_pos (a + b) (show 0 < s.t by omega)
  have n1 := Int.emod_nonneg a (show s.t ≠ 0 by omega)
  have n2 := Int.emod_nonneg b (show s.t ≠ 0 by omega)
  have n3 := Int.emod_nonneg (a + b) (show s.t ≠ 0 by omega)
  have u0 : 0 ≤ upI b s.t * s.q := (up_mul_le hb (show 0 ≤ s.q by omega) ht h4).2.1
  have u1 : 0 ≤ upI a s.t * s.q := (up_mul_le ha (show 0 ≤ s.q by omega) ht h4).2.1
  refine ⟨?_, ?_, ?_⟩
  · unfold askedI
    rw [if_pos hk, if_pos hk, if_pos hk]
    have hc : (a + b) / s.t = a / s.t + b / s.t ∨ (a + b) / s.t = a / s.t + b / s.t + 1 := by omega
    rcases hc with hc | hc
    · rw [hc, Int.add_mul]; omega
    · rw [hc, Int.add_mul, Int.add_mul, Int.one_mul]
      rw [hc, Int.mul_add, Int.mul_add] at e3
      omega
  · unfold askedI
    rw [if_pos hk, if_pos hk, if_pos hk]
    have hc : (a + b) / s.t = a / s.t + b / s.t ∨ (a + b) / s.t = a / s.t + b / s.t + 1 := by omega
    rcases hc with hc | hc
    · rw [hc, Int.add_mul]
      rw [hc, Int.mul_add] at e3
      omega
    · rw [hc, Int.add_mul, Int.add_mul, Int.one_mul]
      omega
  · unfold reqI
    by_cases a0 : 0 < a
    · rw [if_pos ⟨hk, by omega⟩, if_pos ⟨hk, a0⟩]
      split <;> omega
    · obtain rfl : a = 0 := by omega
      rw [Int.zero_add, if_neg (c := s.k = 3 ∧ (0 : Int) < 0) (fun h => by omega)]
      omega

theorem mask30 (n : Int) : 0 ≤ bits .and .i64 n 1073741823 ∧ bits .and .i64 n 1073741823 ≤ 1073741823 := by
  have e : bits .and .i64 n 1073741823 = n % 1073741824 := by
    have h30 : (BitVec.ofInt 64 1073741823).toNat = 2 ^ 30 - 1 := by decide
    have key : (BitVec.ofInt 64 n &&& BitVec.ofInt 64 1073741823).toNat = (n % ((2 ^ 64 : Nat) : Int)).toNat % 2 ^ 30 := by
      rw [BitVec.toNat_and, BitVec.toNat_ofInt, h30, Nat.and_two_pow_sub_one_eq_mod]
    show IntKind.i64.wrap ((BitVec.ofInt 64 n &&& BitVec.ofInt 64 1073741823).toNat : Nat) = n % 1073741824
    rw [key, IntKind.wrap_i64]
    omega
  rw [e]; omega

theorem chk1_bad {s : Srv} (h : s.leg = false) (n : Int) : chk1 s n = some 4 := by unfold chk1; rw [if_pos h]

end Go.Proofs.YtglfdnfojpdkjaaGreatDoor
/- The law DemandGrows. -/
namespace Go.Proofs.YtglfdnfojpdkjaaGreatDoor
open Go.RowKit

theorem div_mono {a b t : Int} (h : a ≤ b) (ht : 1 ≤ t) : a / t ≤ b / t := Int.ediv_le_ediv (by omega) h
theorem up_mono {a b t : Int} (h : a ≤ b) (ht : 1 ≤ t) : upI a t ≤ upI b t := by unfold upI; exact div_mono (by omega) ht

theorem asked_grows {s : Srv} (hs : Leg s) {l : Int} : askedI s l ≤ askedI s (l + 1) := by
  obtain ⟨_, _, h3, h4, h5⟩ := hs
  have ht : 1 ≤ s.t := by omega
  have m1 := mul_mono (div_mono (show l ≤ l + 1 by omega) ht) (show 0 ≤ s.q by omega)
  unfold askedI
  by_cases hk : s.k = 3
  · rw [if_pos hk, if_pos hk]
    have e1 := Int.mul_ediv_add_emod l s.t
    have e2 := Int.mul_ediv_add_emod (l + 1) s.t
    have l1 := Int.emod_lt_of_pos l (show 0 < s.t by omega)
    have l2 := Int.emod_lt_of_pos (l + 1) (show 0 < s.t by omega)
    have n1 := Int.emod_nonneg l (show s.t ≠ 0 by omega)
    have n2 := Int.emod_nonneg (l + 1) (show s.t ≠ 0 by omega)
    have hc := div_add_le (a := l) (b := 1) ht
    have h1t : (1 : Int) / s.t ≤ 1 := Int.ediv_le_self _ (by decide)
    have h0t : 0 ≤ (1 : Int) / s.t := Int.ediv_nonneg (by decide) (by omega)
    have hcases : (l + 1) / s.t = l / s.t ∨ l / s.t + 1 ≤ (l + 1) / s.t := by omega
    rcases hcases with h | h
    · rw [h] at e2 ⊢; omega
    · have m2 := mul_mono h (show 0 ≤ s.q by omega)
      rw [Int.add_mul, Int.one_mul] at m2
      omega
  · rw [if_neg hk, if_neg hk]; exact m1
theorem req_grows {s : Srv} (hs : Leg s) {l : Int} : reqI s l ≤ reqI s (l + 1) := by
  obtain ⟨_, _, h3, h4, h5⟩ := hs
  have m1 := mul_mono (up_mono (show l ≤ l + 1 by omega) (show 1 ≤ s.t by omega)) (show 0 ≤ s.q by omega)
  unfold reqI
  split <;> split <;> omega

/-- The demand less a budget is at most the share of the length. -/
theorem asked_share {s : Srv} (hs : Leg s) {l : Int} : (askedI s l - (if s.k = 3 then s.q else 0)) * s.t ≤ s.q * l := by
  obtain ⟨_, _, h3, h4, h5⟩ := hs
  have h1 : (l / s.t * s.q) * s.t ≤ s.q * l := by
    rw [Int.mul_comm (l / s.t), Int.mul_assoc]
    exact Int.mul_le_mul_of_nonneg_left (Int.ediv_mul_le l (by omega)) (by omega)
  unfold askedI
  by_cases hk : s.k = 3
  · rw [if_pos hk, if_pos hk]
    have : l / s.t * s.q + min s.q (l % s.t) - s.q ≤ l / s.t * s.q := by omega
    exact Int.le_trans (mul_mono this (by omega)) h1
  · rw [if_neg hk, if_neg hk, Int.sub_zero]; exact h1

theorem asked_low {s : Srv} (hs : Leg s) {l : Int} (h0 : 0 ≤ l) (h1 : l ≤ 1073741823) :
    -65536 ≤ (askedI s l - (if s.k = 3 then s.q else 0)) * s.t ∧ 0 ≤ s.q * l ∧ s.q * l ≤ 274877906688 ∧ 0 ≤ askedI s l ∧ askedI s l ≤ 1073742079 := by
  have ht := hs
  obtain ⟨_, _, h3, h4, h5⟩ := hs
  have q := quo_mul_le h0 (show 0 ≤ s.q by omega) (show 1 ≤ s.t by omega) h4
  have m := Int.emod_nonneg l (show s.t ≠ 0 by omega)
  have a1 : 0 ≤ askedI s l ∧ askedI s l ≤ 1073742079 := by unfold askedI; split <;> omega
  have e : -256 ≤ askedI s l - (if s.k = 3 then s.q else 0) := by split <;> omega
  have p1 := mul_mono e (show 0 ≤ s.t by omega)
  have p2 := mul_bd (show 0 ≤ s.q by omega) (show s.q ≤ 256 by omega) h0 h1
  exact ⟨by omega, p2.1, by omega, a1.1, a1.2⟩

theorem chkS_of {l : List Srv} {n m : Int} (hn : LenOk n) (hm : LenOk m) : chkS l n = chkS l m := by
  unfold LenOk at hn hm
  unfold chkS
  split
  · rfl
  · split
    · rfl
    · rw [if_neg (by omega), if_neg (by omega)]

end Go.Proofs.YtglfdnfojpdkjaaGreatDoor
