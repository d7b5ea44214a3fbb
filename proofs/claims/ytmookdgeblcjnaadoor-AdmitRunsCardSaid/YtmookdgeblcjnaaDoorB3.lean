/- The law DemandGrows. -/
import Derived.Test.YtmookdgeblcjnaaDoorB2
import Derived.Test.YtmookdgeblcjnaaDoorA6
namespace Go.Proofs.YtmookdgeblcjnaaDoor
open Go.RowKit

theorem div_mono {a b t : Int} (h : a ≤ b) (ht : 1 ≤ t) : a / t ≤ b / t := Int.ediv_le_ediv (by omega) h
theorem up_mono {a b t : Int} (h : a ≤ b) (ht : 1 ≤ t) : upI a t ≤ upI b t := by unfold upI; exact div_mono (by omega) ht

theorem asked_grows {s : Srv} (hs : Leg s) {l : Int} : askedI s l ≤ askedI s (l + 1) := by
  obtain ⟨_, _, h3, h4, h5⟩ := hs
  have ht : 1 ≤ s.t := by omega
  have m1 := mul_mono (div_mono (show l ≤ l + 1 by omega) ht) (show 0 ≤ s.q by omega)
  unfold askedI
  by_cases hk : s.k = 3
  · rw [if_pos hk, if_pos hk]
    have e1 := Int.mul_ediv_add_emod l s.t
    have e2 := Int.mul_ediv_add_emod (l + 1) s.t
    have l1 := Int.emod_lt_of_pos l (show 0 < s.t by omega)
    have l2 := Int.emod_lt_of_pos (l + 1) (show 0 < s.t by omega)
    have n1 := Int.emod_nonneg l (show s.t ≠ 0 by omega)
    have n2 := Int.emod_nonneg (l + 1) (show s.t ≠ 0 by omega)
    have hc := div_add_le (a := l) (b := 1) ht
    have h1t : (1 : Int) / s.t ≤ 1 := Int.ediv_le_self _ (by decide)
    have h0t : 0 ≤ (1 : Int) / s.t := Int.ediv_nonneg (by decide) (by omega)
    have hcases : (l + 1) / s.t = l / s.t ∨ l / s.t + 1 ≤ (l + 1) / s.t := by omega
    rcases hcases with h | h
    · rw [h] at e2 ⊢; omega
    · have m2 := mul_mono h (show 0 ≤ s.q by omega)
      rw [Int.add_mul, Int.one_mul] at m2
      omega
  · rw [if_neg hk, if_neg hk]; exact m1
theorem req_grows {s : Srv} (hs : Leg s) {l : Int} : reqI s l ≤ reqI s (l + 1) := by
  obtain ⟨_, _, h3, h4, h5⟩ := hs
  have m1 := mul_mono (up_mono (show l ≤ l + 1 by omega) (show 1 ≤ s.t by omega)) (show 0 ≤ s.q by omega)
  unfold reqI
  split <;> split <;> omega

/-- The demand less a budget is at most the share of the length. -/
theorem asked_share {s : Srv} (hs : Leg s) {l : Int} : (askedI s l - (if s.k = 3 then s.q else 0)) * s.t ≤ s.q * l := by
  obtain ⟨_, _, h3, h4, h5⟩ := hs
  have h1 : (l / s.t * s.q) * s.t ≤ s.q * l := by
    rw [Int.mul_comm (l / s.t), Int.mul_assoc]
    exact Int.mul_le_mul_of_nonneg_left (Int.ediv_mul_le l (by omega)) (by omega)
  unfold askedI
  by_cases hk : s.k = 3
  · rw [if_pos hk, if_pos hk]
    have : l / s.t * s.q + min s.q (l % s.t) - s.q ≤ l / s.t * s.q := by omega
    exact Int.le_trans (mul_mono this (by omega)) h1
  · rw [if_neg hk, if_neg hk, Int.sub_zero]; exact h1

theorem asked_low {s : Srv} (hs : Leg s) {l : Int} (h0 : 0 ≤ l) (h1 : l ≤ 1073741823) :
    -65536 ≤ (askedI s l - (if s.k = 3 then s.q else 0)) * s.t ∧ 0 ≤ s.q * l ∧ s.q * l ≤ 274877906688 ∧ 0 ≤ askedI s l ∧ askedI s l ≤ 1073742079 := by
  have ht := hs
  obtain ⟨_, _, h3, h4, h5⟩ := hs
  have q := quo_mul_le h0 (show 0 ≤ s.q by omega) (show 1 ≤ s.t by omega) h4
  have m := Int.emod_nonneg l (show s.t ≠ 0 by omega)
  have a1 : 0 ≤ askedI s l ∧ askedI s l ≤ 1073742079 := by unfold askedI; split <;> omega
  have e : -256 ≤ askedI s l - (if s.k = 3 then s.q else 0) := by split <;> omega
  have p1 := mul_mono e (show 0 ≤ s.t by omega)
  have p2 := mul_bd (show 0 ≤ s.q by omega) (show s.q ≤ 256 by omega) h0 h1
  exact ⟨by omega, p2.1, by omega, a1.1, a1.2⟩

theorem chkS_of {l : List Srv} {n m : Int} (hn : LenOk n) (hm : LenOk m) : chkS l n = chkS l m := by
  unfold LenOk at hn hm
  unfold chkS
  split
  · rfl
  · split
    · rfl
    · rw [if_neg (by omega), if_neg (by omega)]

end Go.Proofs.YtmookdgeblcjnaaDoor
