/- almonerref11: floor, Server, Request, Servers, Requests. -/
import Derived.Test.YtmookdgeblcjnaaDoorD2
namespace Go.Proofs.YtmookdgeblcjnaaDoor
open Go.RowKit

theorem floor_step {x t : Int} (ht : 1 ≤ t) : x / t = (x - t) / t + 1 := by
  have := Int.add_mul_ediv_right (x - t) 1 (show t ≠ 0 by omega)
  rw [Int.one_mul, Int.sub_add_cancel] at this
  exact this
theorem floor_cut {x t n : Int} (ht : 1 ≤ t) : x / t = n + (x - n * t) / t := by
  have := Int.add_mul_ediv_right (x - n * t) n (show t ≠ 0 by omega)
  rw [Int.sub_add_cancel] at this
  omega

set_option maxHeartbeats 800000 in
theorem floor_any (l t : Int) (w : World) (hl : LenOk l) (ht : 1 ≤ t) (ht' : t ≤ 256) :
    Calls Tryd.prog 44 #[.int .i64 l, .int .i64 t] w fun e w' => e = .returned (.int .i64 (l / t)) ∧ w = w' := by
  obtain ⟨l1, l2⟩ := hl
  have q0 := (quo_mul_le l1 (show (0 : Int) ≤ 1 by decide) ht ht).1
  have q1 : l / t ≤ l := Int.ediv_le_self _ l1
  by_cases h : 100 * t < l
  · have c0 := quo_mul_le (l := l - 50 * t) (q := t) (by omega) (by omega) ht (Int.le_refl _)
    obtain ⟨c1, c2, c3⟩ := c0
    have c4 : (l - 50 * t) / t ≤ l - 50 * t := Int.ediv_le_self _ (by omega)
    have hcut := floor_cut (x := l) (n := (l - 50 * t) / t) ht
    replace hcut := Lib.hid hcut
    go_enter Tryd.func44, Tryd.ntmps44
    go_wp2_with fail
    go_loop [0, 5] (fun a b => ∃ x n : Int, 0 ≤ x ∧ x ≤ l ∧ 0 ≤ n ∧ n ≤ l ∧ l / t = n + x / t ∧ a = .int .i64 x ∧ b = .int .i64 n) (fun a _ => (intOf a).toNat)
    case atStart => exact ⟨_, _, by omega, by omega, c1, by omega, hcut.out, rfl, rfl⟩
    case round =>
      obtain ⟨x, n, x1, x2, n1, n2, he, rfl, rfl⟩ := hrel
      by_cases hx : t ≤ x
      · have hs := floor_step (x := x) ht
        have p0 : 0 ≤ (x - t) / t := Int.ediv_nonneg (by omega) (by omega)
        have p1 : n + 1 ≤ l := by omega
        have he2 : l / t = n + 1 + (x - t) / t := by omega
        clear hs he
        replace he2 := Lib.hid he2
        go_wp2_with fail
        go_round
        case rel => exact ⟨_, _, by omega, by omega, by omega, p1, he2.out, rfl, rfl⟩
        case measure => simp [intOf]; omega
      · have hz := Int.ediv_eq_zero_of_lt x1 (show x < t by omega)
        have he2 : n = l / t := by omega
        clear hz he
        replace he2 := Lib.hid he2
        go_wp2_with fail
        go_ret
        exact ⟨ret1 he2.out, rfl⟩
  · go_enter Tryd.func44, Tryd.ntmps44
    go_wp2_with fail
    go_loop [0, 5] (fun a b => ∃ x n : Int, 0 ≤ x ∧ x ≤ l ∧ 0 ≤ n ∧ n ≤ l ∧ l / t = n + x / t ∧ a = .int .i64 x ∧ b = .int .i64 n) (fun a _ => (intOf a).toNat)
    case atStart => exact ⟨l, 0, by omega, by omega, by omega, by omega, by omega, rfl, rfl⟩
    case round =>
      obtain ⟨x, n, x1, x2, n1, n2, he, rfl, rfl⟩ := hrel
      by_cases hx : t ≤ x
      · have hs := floor_step (x := x) ht
        have p0 : 0 ≤ (x - t) / t := Int.ediv_nonneg (by omega) (by omega)
        have p1 : n + 1 ≤ l := by omega
        have he2 : l / t = n + 1 + (x - t) / t := by omega
        clear hs he
        replace he2 := Lib.hid he2
        go_wp2_with fail
        go_round
        case rel => exact ⟨_, _, by omega, by omega, by omega, p1, he2.out, rfl, rfl⟩
        case measure => simp [intOf]; omega
      · have hz := Int.ediv_eq_zero_of_lt x1 (show x < t by omega)
        have he2 : n = l / t := by omega
        clear hz he
        replace he2 := Lib.hid he2
        go_wp2_with fail
        go_ret
        exact ⟨ret1 he2.out, rfl⟩

theorem emod_eq (l t : Int) : l % t = l - l / t * t := by rw [Int.emod_def, Int.mul_comm]

set_option maxHeartbeats 800000 in
theorem rserver_any (s : Srv) (l : Int) (w : World) (hs : Leg s) (hl : LenOk l) :
    Calls Tryd.prog 40 #[.agg #[.int .i64 s.k, .int .i64 s.q, .int .i64 s.t], .int .i64 l] w fun e w' => e = .returned (.int .i64 (askedI s l)) ∧ Gr w w' := by
  have hb := asked_bd hs hl
  obtain ⟨h1, h2, h3, h4, h5⟩ := hs
  have ll := hl
  obtain ⟨l1, l2⟩ := hl
  obtain ⟨q0, q1, q2⟩ := quo_mul_le l1 (show 0 ≤ s.q by omega) (show 1 ≤ s.t by omega) h4
  obtain ⟨q3, q4, q5⟩ := quo_mul_le l1 (show 0 ≤ s.t by omega) (show 1 ≤ s.t by omega) (Int.le_refl _)
  have m0 := Int.emod_nonneg l (show s.t ≠ 0 by omega)
  have m1 := Int.emod_lt_of_pos l (show 0 < s.t by omega)
  have t1 : 1 ≤ s.t := by omega
  unfold askedI at hb ⊢
  rw [emod_eq] at m0 m1 hb ⊢
  have q6 : l / s.t ≤ l := Int.ediv_le_self _ l1
  by_cases hk : s.k = 3
  · rw [if_pos hk] at hb ⊢
    have hk' : (s.k != 3) = false := by simp [hk]
    clear hk
    by_cases hr : s.q < l - l / s.t * s.t
    · go_enter Tryd.func40, Tryd.ntmps40
      go_wp2_with fail
      refine (floor_any l s.t _ ll t1 h5).mono ?_
      rintro e wa ⟨rfl, rfl⟩
      go_wp2_with fail
      go_ret
      refine ⟨ret1 (by omega), ?_⟩
      repeat (first | exact Gr.refl _ | apply Gr.alloc | apply Gr.drew | apply Gr.drewN | (refine Gr.setCell ?_ (by simp) _) | (refine Gr.trans ?_ (by assumption)))
    · go_enter Tryd.func40, Tryd.ntmps40
      go_wp2_with fail
      refine (floor_any l s.t _ ll t1 h5).mono ?_
      rintro e wa ⟨rfl, rfl⟩
      go_wp2_with fail
      go_ret
      refine ⟨ret1 (by omega), ?_⟩
      repeat (first | exact Gr.refl _ | apply Gr.alloc | apply Gr.drew | apply Gr.drewN | (refine Gr.setCell ?_ (by simp) _) | (refine Gr.trans ?_ (by assumption)))
  · rw [if_neg hk] at hb ⊢
    have hk' : (s.k != 3) = true := by simpa using hk
    clear hk
    go_enter Tryd.func40, Tryd.ntmps40
    go_wp2_with fail
    refine (floor_any l s.t _ ll t1 h5).mono ?_
    rintro e wa ⟨rfl, rfl⟩
    go_wp2_with fail
    go_ret
    refine ⟨rfl, ?_⟩
    repeat (first | exact Gr.refl _ | apply Gr.alloc | apply Gr.drew | apply Gr.drewN | (refine Gr.setCell ?_ (by simp) _) | (refine Gr.trans ?_ (by assumption)))

theorem up_floor {l t : Int} (ht : 1 ≤ t) : upI l t = if l / t * t < l then l / t + 1 else l / t := by
  unfold upI
  have e := Int.emod_add_mul_ediv l t
  have e0 := emod_eq l t
  have m0 := Int.emod_nonneg l (show t ≠ 0 by omega)
  have m1 := Int.emod_lt_of_pos l (show 0 < t by omega)
  have hc := floor_cut (x := l + t - 1) (n := l / t) ht
  rw [show l + t - 1 - l / t * t = l % t + t - 1 by omega] at hc
  split
  · have : (l % t + t - 1) / t = 1 := by
      have := floor_step (x := l % t + t - 1) ht
      rw [this, show l % t + t - 1 - t = l % t - 1 by omega, Int.ediv_eq_zero_of_lt (by omega) (by omega)]
      rfl
    omega
  · have : (l % t + t - 1) / t = 0 := Int.ediv_eq_zero_of_lt (by omega) (by omega)
    omega

set_option maxHeartbeats 800000 in
theorem rservers11_any (a : Option Addr) (l : List Srv) (c : Nat) (n : Int) (w : World) (hl : SrvsAt w a l) (h : allLeg l = true) (h8 : l.length ≤ 8) (h3 : LenOk n) :
    Calls Tryd.prog 16 #[.slice a l.length c, .int .i64 n] w fun e w' => e = .returned (.int .i64 (sumI (fun s => askedI s n) l)) ∧ Gr w w' := by
  replace h := Lib.hid h
  go_enter Tryd.func16, Tryd.ntmps16
  go_wp2_with fail
  go_loopw [10, 5] (fun i v wr => ∃ k : Nat, k ≤ l.length ∧ i = .int .i64 k ∧ v = .int .i64 (sumI (fun s => askedI s n) (l.take k)) ∧ Gr w wr) (fun i _ _ => l.length - (intOf i).toNat)
  case atStart => exact ⟨0, Nat.zero_le _, rfl, rfl, Gr.refl _⟩
  case round =>
    obtain ⟨k, hk, rfl, rfl, hg⟩ := hrel
    by_cases hlt : k < l.length
    · obtain ⟨s, hs⟩ := get_some l k hlt
      obtain ⟨b, off, rfl, hb, c0, c1, c2⟩ := (hl.gr hg) k s hs
      have hleg := (Srv.leg_iff _).1 (allLeg_get h.out hs)
      have bd := asked_bd hleg h3
      have sb := sumI_bd (fun s => askedI s n) (l.take k) (1099511627776 + 512) (fun x hx => by have := asked_bd ((Srv.leg_iff _).1 (List.all_eq_true.1 h.out x (List.mem_of_mem_take hx))) h3; omega)
      have sl : (List.take k l).length ≤ 8 := by rw [List.length_take]; omega
      have sb2 : sumI (fun s => askedI s n) (l.take k) ≤ 8 * (1099511627776 + 512) := by omega
      have sb1 := sb.1
      have hsn : sumI (fun s => askedI s n) (l.take (k + 1)) = sumI (fun s => askedI s n) (l.take k) + askedI s n := by rw [take_snoc hs, sumI_snoc]
      replace hsn := Lib.hid hsn
      clear sb sl
      generalize sumI (fun s => askedI s n) (l.take k) = m at *
      obtain ⟨bd1, bd2⟩ := bd
      go_wp2_with fail
      refine (rserver_any s n _ hleg h3).mono ?_
      rintro e wd ⟨rfl, gd⟩
      obtain ⟨cd, fd, sd⟩ := gd.cells
      try simp only [size_drewN] at cd fd sd
      try simp only [World.size_alloc] at cd fd sd
      try simp only [World.size_drew] at cd fd sd
      try simp only [World.size_setCell] at cd fd sd
      go_wp2_with fail
      go_roundw
      case rel => exact ⟨k + 1, by omega, by go_num, by rw [hsn.out], (hg.alloc _).trans gd⟩
      case measure => simp [intOf]; omega
    · have hall : l.take k = l := List.take_of_length_le (by omega)
      rw [hall]
      go_wp2_with fail
      go_ret
      exact ⟨rfl, hg⟩

def goodB (l : Int) : Bool := decide (0 ≤ l ∧ l ≤ 1099511627776)
theorem goodB_true {l : Int} (h : LenOk l) : goodB l = true := decide_eq_true h
theorem goodB_false {l : Int} (h : ¬ LenOk l) : goodB l = false := decide_eq_false h
end Go.Proofs.YtmookdgeblcjnaaDoor
