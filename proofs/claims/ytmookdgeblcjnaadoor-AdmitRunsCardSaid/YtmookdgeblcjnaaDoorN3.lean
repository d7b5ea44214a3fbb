/- almonerref01: at, Less, Fits. -/
import Derived.Test.YtmookdgeblcjnaaDoorN2
import Derived.Laws.BitsLemmas
namespace Go.Proofs.YtmookdgeblcjnaaDoor
open Go.RowKit

def dig (ds : List Int) (i : Nat) : Int := ds.getD i 0
theorem dig_some {ds : List Int} {i : Nat} {x : Int} (h : ds[i]? = some x) : dig ds i = x := by unfold dig; rw [List.getD_eq_getElem?_getD, h]; rfl
theorem dig_none {ds : List Int} {i : Nat} (h : ds.length ≤ i) : dig ds i = 0 := by unfold dig; rw [List.getD_eq_getElem?_getD, List.getElem?_eq_none h]; rfl
theorem dig_bd {ds : List Int} (h : Dig ds) (i : Nat) : 0 ≤ dig ds i ∧ dig ds i < 65536 := by
  by_cases hi : i < ds.length
  · obtain ⟨x, hx⟩ := get_some ds i hi
    rw [dig_some hx]; exact h.get hx
  · rw [dig_none (by omega)]; decide
theorem take_dig (ds : List Int) (i : Nat) : valD (ds.take (i + 1)) = valD (ds.take i) + P64 i * dig ds i := by
  by_cases hi : i < ds.length
  · obtain ⟨x, hx⟩ := get_some ds i hi
    rw [dig_some hx]; exact take_some hx
  · rw [dig_none (by omega), take_none (by omega)]; simp
theorem take_bd {ds : List Int} (h : Dig ds) (i : Nat) : 0 ≤ valD (ds.take i) ∧ valD (ds.take i) < P64 i := by
  have h1 := valD_bd (h.take i)
  refine ⟨h1.1, Int.lt_of_lt_of_le h1.2 ?_⟩
  rw [List.length_take]
  unfold P64
  have := Nat.pow_le_pow_right (show 0 < 65536 by decide) (Nat.min_le_left i ds.length)
  omega

theorem bat_any (a : Option Addr) (da : List Int) (ca i : Nat) (w : World) (ha : BigAt w a da) :
    Calls Tryd.prog 89 #[.slice a da.length ca, .int .i64 i] w fun e w' => e = .returned (.int .u32 (dig da i)) ∧ w = w' := by
  by_cases hi : i < da.length
  · obtain ⟨x, hx⟩ := get_some da i hi
    obtain ⟨ba, oa, rfl, hba, cx⟩ := ha.get hx
    rw [dig_some hx]
    go_enter Tryd.func89, Tryd.ntmps89
    go_wp2_with fail
    go_ret
    exact ⟨rfl, rfl⟩
  · rw [dig_none (by omega)]
    go_enter Tryd.func89, Tryd.ntmps89
    go_wp2_with fail
    go_ret
    exact ⟨rfl, rfl⟩

theorem less_digs {P A B x y : Int} (hA : 0 ≤ A ∧ A < P) (hB : 0 ≤ B ∧ B < P) (h : x < y) : A + P * x < B + P * y := by
  have h1 : P * (x + 1) ≤ P * y := Int.mul_le_mul_of_nonneg_left (by omega) (by omega)
  rw [Int.mul_add] at h1
  omega
theorem less_step {da db : List Int} (ga : Dig da) (gb : Dig db) {i : Nat} (h : valD da + valD (db.take (i + 1)) = valD db + valD (da.take (i + 1))) (hne : dig da i ≠ dig db i) :
    (decide (valD da < valD db)) = decide (dig da i < dig db i) := by
  rw [take_dig, take_dig] at h
  have h1 := take_bd ga i
  have h2 := take_bd gb i
  rcases Int.lt_or_gt_of_ne hne with hl | hl
  · have := less_digs h1 h2 hl
    rw [decide_eq_true hl, decide_eq_true (by omega)]
  · have := less_digs h2 h1 hl
    rw [decide_eq_false (by omega), decide_eq_false (by omega)]

set_option maxHeartbeats 800000 in
theorem bless_any (a b : Option Addr) (da db : List Int) (ca cb : Nat) (w : World) (ha : BigAt w a da) (hb : BigAt w b db) (ga : Dig da) (gb : Dig db) (la : da.length ≤ 1000) (lb : db.length ≤ 1000) :
    Calls Tryd.prog 81 #[.slice a da.length ca, .slice b db.length cb] w fun e w' => e = .returned (.bool (decide (valD da < valD db))) ∧ w = w' := by
  go_enter Tryd.func81, Tryd.ntmps81
  go_wp2_with fail
  all_goals
    go_loopw [5] (fun iv wr => ∃ i : Int, -1 ≤ i ∧ i < (max da.length db.length : Nat) ∧ iv = .int .i64 i ∧ valD da + valD (db.take (i + 1).toNat) = valD db + valD (da.take (i + 1).toNat) ∧ wr = w) (fun iv _ => (intOf iv + 1).toNat)
    case atStart =>
      refine ⟨(max da.length db.length : Nat) - 1, by omega, by omega, ?_, ?_, rfl⟩
      · go_num
      · rw [List.take_of_length_le (by omega), List.take_of_length_le (by omega)]; omega
    case round =>
      obtain ⟨i, h1, h2, rfl, he, rfl⟩ := hrel
      by_cases h0 : 0 ≤ i
      · obtain ⟨n, rfl⟩ := Int.eq_ofNat_of_zero_le h0
        have hn : n ≤ 1000 := by omega
        rw [show ((n : Int) + 1).toNat = n + 1 by omega] at he
        by_cases hne : dig da n = dig db n
        · have he' : valD da + valD (db.take n) = valD db + valD (da.take n) := by
            rw [take_dig, take_dig, hne] at he; omega
          clear he
          replace he' := Lib.hid he'
          go_wp2_with fail
          refine (bat_any a da ca n _ ha).mono ?_
          rintro e wa ⟨rfl, rfl⟩
          go_wp2_with fail
          refine (bat_any b db cb n _ hb).mono ?_
          rintro e wb ⟨rfl, rfl⟩
          go_wp2_with fail
          go_roundw
          case rel => exact ⟨(n : Int) - 1, by omega, by omega, by go_num, by rw [show ((n : Int) - 1 + 1).toNat = n by omega]; exact he'.out, trivial⟩
          case measure => simp [intOf]
        · have hdec := less_step ga gb he hne
          clear he
          replace hdec := Lib.hid hdec
          go_wp2_with fail
          refine (bat_any a da ca n _ ha).mono ?_
          rintro e wa ⟨rfl, rfl⟩
          go_wp2_with fail
          refine (bat_any b db cb n _ hb).mono ?_
          rintro e wb ⟨rfl, rfl⟩
          go_wp2_with fail
          go_wp2_with fail
          refine (bat_any a da ca n _ ha).mono ?_
          rintro e wc ⟨rfl, rfl⟩
          go_wp2_with fail
          refine (bat_any b db cb n _ hb).mono ?_
          rintro e wd ⟨rfl, rfl⟩
          go_wp2_with fail
          go_ret
          exact ⟨by rw [hdec.out]; rfl, rfl⟩
      · obtain rfl : i = -1 := by omega
        have hr : ¬ valD da < valD db := by
          simp [valD] at he; omega
        have hdec := decide_eq_false hr
        clear he hr
        replace hdec := Lib.hid hdec
        go_wp2_with fail
        go_ret
        exact ⟨by rw [hdec.out]; rfl, rfl⟩
end Go.Proofs.YtmookdgeblcjnaaDoor
