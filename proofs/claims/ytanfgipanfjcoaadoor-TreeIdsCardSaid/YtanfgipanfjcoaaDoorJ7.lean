/- wide.Against, wide.Cross, plan.Within. -/
import Derived.Test.YtanfgipanfjcoaaDoorJ4
import Derived.Test.YtanfgipanfjcoaaDoorJ6
import Derived.Outline
namespace Go.Proofs.YtanfgipanfjcoaaDoor
open Go.RowKit

theorem cmp_words {a b : Int} : orI (cmpI (hiW a) (hiW b)) (cmpI (loW a) (loW b)) = cmpI a b := by
  have e1 := word_eq a
  have e2 := word_eq b
  have l1 := loW_bd a
  have l2 := loW_bd b
  unfold orI cmpI
  by_cases h1 : hiW a < hiW b
  · rw [if_pos h1, if_neg (by decide), if_pos (show a < b by omega)]
  · by_cases h2 : hiW b < hiW a
    · rw [if_neg h1, if_pos h2, if_neg (by decide), if_neg (show ¬ a < b by omega), if_pos (show b < a by omega)]
    · rw [if_neg h1, if_neg h2, if_pos rfl]
      by_cases h3 : loW a < loW b
      · rw [if_pos h3, if_pos (show a < b by omega)]
      · by_cases h4 : loW b < loW a
        · rw [if_neg h3, if_pos h4, if_neg (show ¬ a < b by omega), if_pos (show b < a by omega)]
        · rw [if_neg h3, if_neg h4, if_neg (show ¬ a < b by omega), if_neg (show ¬ b < a by omega)]

theorem compare_cmp (a b : Int) (w : World) :
    Calls Tryd.prog 74 #[.agg #[.int .u64 (hiW a), .int .u64 (loW a)], .agg #[.int .u64 (hiW b), .int .u64 (loW b)]] w fun e w' => e = .returned (.int .i64 (cmpI a b)) ∧ Gr w w' := by
  have := compare_any a b w
  rw [cmp_words] at this
  exact this

set_option maxHeartbeats 800000 in
/-- wide.Against, where all fits. -/
theorem against_yes (n d q t : Int) (w : World) (hn : Wide n) (hd : Wide d) (h0 : 0 < d) (hq : 0 ≤ q) (hq' : q ≤ 4294967296) (ht : 1 ≤ t) (ht' : t ≤ 4294967296) (h1 : Wide (n * t)) (h2 : Wide (d * q)) :
    Calls Tryd.prog 60 #[.agg #[.int .u64 (hiW n), .int .u64 (loW n), .int .u64 (hiW d), .int .u64 (loW d)], .int .i64 q, .int .i64 t] w fun e w' => e = .returned (.tuple #[.int .i64 (cmpI (n * t) (d * q)), .bool true]) ∧ Gr w w' := by
  have wq : Word q := ⟨hq, by omega⟩
  have wt : Word t := ⟨by omega, by omega⟩
  go_enter Tryd.func60, Tryd.ntmps60
  go_wp2_with fail
  refine (legal_any n d q t _ hd h0 hq ht).mono ?_
  rintro e wa ⟨rfl, ga⟩
  obtain ⟨ca, fa, sa⟩ := ga.cells
  try simp only [size_drewN] at ca fa sa
  try simp only [World.size_alloc] at ca fa sa
  try simp only [World.size_drew] at ca fa sa
  try simp only [World.size_setCell] at ca fa sa
  have za0 : w.heap.size < wa.heap.size := by omega
  have ya0 : w.heap.size ≤ wa.heap.size := by omega
  have ka0 := fun o => ca (w.heap.size) o (by omega)
  have ja0 := fun o => fa (w.heap.size) o (by omega)
  go_wp2_with fail
  refine (mul_any n t _ hn wt h1).mono ?_
  rintro e wb ⟨rfl, gb⟩
  obtain ⟨cb, fb, sb⟩ := gb.cells
  try simp only [size_drewN] at cb fb sb
  try simp only [World.size_alloc] at cb fb sb
  try simp only [World.size_drew] at cb fb sb
  try simp only [World.size_setCell] at cb fb sb
  have zb0 : w.heap.size < wb.heap.size := by omega
  have yb0 : w.heap.size ≤ wb.heap.size := by omega
  have kb0 := fun o => cb (w.heap.size) o (by omega)
  have jb0 := fun o => fb (w.heap.size) o (by omega)
  go_wp2_with fail
  refine (mul_any d q _ hd wq h2).mono ?_
  rintro e wc ⟨rfl, gc⟩
  obtain ⟨cc, fc, sc⟩ := gc.cells
  try simp only [size_drewN] at cc fc sc
  try simp only [World.size_alloc] at cc fc sc
  try simp only [World.size_drew] at cc fc sc
  try simp only [World.size_setCell] at cc fc sc
  have zc0 : w.heap.size < wc.heap.size := by omega
  have yc0 : w.heap.size ≤ wc.heap.size := by omega
  have kc0 := fun o => cc (w.heap.size) o (by omega)
  have jc0 := fun o => fc (w.heap.size) o (by omega)
  have zc1 : wb.heap.size < wc.heap.size := by omega
  have yc1 : wb.heap.size ≤ wc.heap.size := by omega
  have kc1 := fun o => cc (wb.heap.size) o (by omega)
  have jc1 := fun o => fc (wb.heap.size) o (by omega)
  go_wp2_with fail
  refine (compare_cmp (n * t) (d * q) _).mono ?_
  rintro e wd ⟨rfl, gd⟩
  obtain ⟨cd, fd, sd⟩ := gd.cells
  try simp only [size_drewN] at cd fd sd
  try simp only [World.size_alloc] at cd fd sd
  try simp only [World.size_drew] at cd fd sd
  try simp only [World.size_setCell] at cd fd sd
  have zd0 : w.heap.size < wd.heap.size := by omega
  have yd0 : w.heap.size ≤ wd.heap.size := by omega
  have kd0 := fun o => cd (w.heap.size) o (by omega)
  have jd0 := fun o => fd (w.heap.size) o (by omega)
  have zd1 : wb.heap.size < wd.heap.size := by omega
  have yd1 : wb.heap.size ≤ wd.heap.size := by omega
  have kd1 := fun o => cd (wb.heap.size) o (by omega)
  have jd1 := fun o => fd (wb.heap.size) o (by omega)
  have zd2 : wc.heap.size < wd.heap.size := by omega
  have yd2 : wc.heap.size ≤ wd.heap.size := by omega
  have kd2 := fun o => cd (wc.heap.size) o (by omega)
  have jd2 := fun o => fd (wc.heap.size) o (by omega)
  go_wp2_with fail
  go_ret2
  refine ⟨rfl, ?_⟩
  repeat (first | exact Gr.refl _ | apply Gr.alloc | apply Gr.drew | apply Gr.drewN | (refine Gr.setCell ?_ (by simp) _) | (refine Gr.trans ?_ (by assumption)))

set_option maxHeartbeats 800000 in
theorem legal_zero (n q t : Int) (w : World) :
    Calls Tryd.prog 71 #[.agg #[.int .u64 (hiW n), .int .u64 (loW n), .int .u64 0, .int .u64 0], .int .i64 q, .int .i64 t] w fun e w' => e = .returned (.bool false) ∧ Gr w w' := by
  go_enter Tryd.func71, Tryd.ntmps71
  go_wp2
  all_goals (go_ret; exact ⟨rfl, (Gr.refl _).alloc _⟩)

set_option maxHeartbeats 800000 in
theorem against_zero (n q t : Int) (w : World) :
    Calls Tryd.prog 60 #[.agg #[.int .u64 (hiW n), .int .u64 (loW n), .int .u64 0, .int .u64 0], .int .i64 q, .int .i64 t] w fun e w' => e = .returned (.tuple #[.int .i64 0, .bool false]) ∧ Gr w w' := by
  go_enter Tryd.func60, Tryd.ntmps60
  go_wp2_with fail
  refine (legal_zero n q t _).mono ?_
  rintro e wa ⟨rfl, ga⟩
  obtain ⟨ca, fa, sa⟩ := ga.cells
  try simp only [size_drewN] at ca fa sa
  try simp only [World.size_alloc] at ca fa sa
  try simp only [World.size_drew] at ca fa sa
  try simp only [World.size_setCell] at ca fa sa
  have za0 : w.heap.size < wa.heap.size := by omega
  have ya0 : w.heap.size ≤ wa.heap.size := by omega
  have ka0 := fun o => ca (w.heap.size) o (by omega)
  have ja0 := fun o => fa (w.heap.size) o (by omega)
  go_wp2_with fail
  go_ret2
  refine ⟨rfl, ?_⟩
  repeat (first | exact Gr.refl _ | apply Gr.alloc | apply Gr.drew | apply Gr.drewN | (refine Gr.setCell ?_ (by simp) _) | (refine Gr.trans ?_ (by assumption)))

/-- The bounds that a share of eight servers or tasks has. -/
def Shr (p : Int × Int) : Prop := 0 ≤ p.1 ∧ p.1 ≤ 8 * 18446744073709551616 ∧ 1 ≤ p.2 ∧ p.2 ≤ 18446744073709551616
theorem shr_share {l : List Srv} (h : allLeg l = true) (h8 : l.length ≤ 8) : Shr (shareS l) := by
  have b := shareS_bd l h l.length (Nat.le_refl _)
  rw [List.take_length] at b
  have p := P256_le h8
  have p0 := P256_pos l.length
  have m := (mul_bd (show (0 : Int) ≤ (l.length : Int) by omega) (show (l.length : Int) ≤ 8 by omega) (show 0 ≤ P256 l.length by omega) p).2
  exact ⟨b.1, by omega, b.2.2.1, by omega⟩
theorem against_shr (p : Int × Int) (q t : Int) (w : World) (hp : Shr p) (hq : 0 ≤ q) (hq' : q ≤ 4294967296) (ht : 1 ≤ t) (ht' : t ≤ 4294967296) :
    Calls Tryd.prog 60 #[partV p, .int .i64 q, .int .i64 t] w fun e w' => e = .returned (.tuple #[.int .i64 (cmpI (p.1 * t) (p.2 * q)), .bool true]) ∧ Gr w w' := by
  obtain ⟨h1, h2, h3, h4⟩ := hp
  have m1 := mul_bd h1 h2 (show 0 ≤ t by omega) ht'
  have m2 := mul_bd (show 0 ≤ p.2 by omega) h4 hq hq'
  exact against_yes p.1 p.2 q t w ⟨h1, by omega⟩ ⟨by omega, by omega⟩ (by omega) hq hq' ht ht' ⟨m1.1, by omega⟩ ⟨m2.1, by omega⟩

set_option maxHeartbeats 800000 in
theorem within_leg (p : Int × Int) (s : Srv) (w : World) (hp : Shr p) (hs : s.leg = true) :
    Calls Tryd.prog 57 #[partV p, .agg #[.int .i64 s.k, .int .i64 s.q, .int .i64 s.t]] w fun e w' => e = .returned (.tuple #[.int .i64 (cmpI (p.1 * s.t) (p.2 * s.q)), .bool true]) ∧ Gr w w' := by
  obtain ⟨h1, h2, h3, h4, h5⟩ := (Srv.leg_iff _).1 hs
  replace hs := Lib.hid hs
  go_enter Tryd.func57, Tryd.ntmps57
  go_wp2_with fail
  refine (checkServer_yes s.k s.q s.t _ hs.out).mono ?_
  rintro e wa ⟨rfl, ga⟩
  obtain ⟨ca, fa, sa⟩ := ga.cells
  try simp only [size_drewN] at ca fa sa
  try simp only [World.size_alloc] at ca fa sa
  try simp only [World.size_drew] at ca fa sa
  try simp only [World.size_setCell] at ca fa sa
  have za0 : w.heap.size < wa.heap.size := by omega
  have ya0 : w.heap.size ≤ wa.heap.size := by omega
  have ka0 := fun o => ca (w.heap.size) o (by omega)
  have ja0 := fun o => fa (w.heap.size) o (by omega)
  have za1 : w.heap.size + 1 < wa.heap.size := by omega
  have ka1 := fun o => ca (w.heap.size + 1) o (by omega)
  have ja1 := fun o => fa (w.heap.size + 1) o (by omega)
  go_wp2_with fail
  refine (against_shr p s.q s.t _ hp (by omega) (by omega) (by omega) (by omega)).mono ?_
  rintro e wb ⟨rfl, gb⟩
  obtain ⟨cb, fb, sb⟩ := gb.cells
  try simp only [size_drewN] at cb fb sb
  try simp only [World.size_alloc] at cb fb sb
  try simp only [World.size_drew] at cb fb sb
  try simp only [World.size_setCell] at cb fb sb
  have zb0 : w.heap.size < wb.heap.size := by omega
  have yb0 : w.heap.size ≤ wb.heap.size := by omega
  have kb0 := fun o => cb (w.heap.size) o (by omega)
  have jb0 := fun o => fb (w.heap.size) o (by omega)
  have zb1 : w.heap.size + 1 < wb.heap.size := by omega
  have kb1 := fun o => cb (w.heap.size + 1) o (by omega)
  have jb1 := fun o => fb (w.heap.size + 1) o (by omega)
  go_wp2_with fail
  go_ret2
  refine ⟨rfl, ?_⟩
  repeat (first | exact Gr.refl _ | apply Gr.alloc | apply Gr.drew | apply Gr.drewN | (refine Gr.setCell ?_ (by simp) _) | (refine Gr.trans ?_ (by assumption)))

set_option maxHeartbeats 800000 in
theorem within_whole (p : Int × Int) (w : World) (hp : Shr p) :
    Calls Tryd.prog 57 #[partV p, .agg #[.int .i64 0, .int .i64 0, .int .i64 0]] w fun e w' => e = .returned (.tuple #[.int .i64 (cmpI p.1 p.2), .bool true]) ∧ Gr w w' := by
  have hx := fun w => against_shr p 1 1 w hp (by decide) (by decide) (by decide) (by decide)
  rw [Int.mul_one, Int.mul_one] at hx
  replace hx := Lib.hid hx
  go_enter Tryd.func57, Tryd.ntmps57
  go_wp2_with fail
  refine (hx.out _).mono ?_
  rintro e wb ⟨rfl, gb⟩
  obtain ⟨cb, fb, sb⟩ := gb.cells
  try simp only [size_drewN] at cb fb sb
  try simp only [World.size_alloc] at cb fb sb
  try simp only [World.size_drew] at cb fb sb
  try simp only [World.size_setCell] at cb fb sb
  have zb0 : w.heap.size < wb.heap.size := by omega
  have yb0 : w.heap.size ≤ wb.heap.size := by omega
  have kb0 := fun o => cb (w.heap.size) o (by omega)
  have jb0 := fun o => fb (w.heap.size) o (by omega)
  have zb1 : w.heap.size + 1 < wb.heap.size := by omega
  have kb1 := fun o => cb (w.heap.size + 1) o (by omega)
  have jb1 := fun o => fb (w.heap.size + 1) o (by omega)
  go_wp2_with fail
  go_ret2
  refine ⟨rfl, ?_⟩
  repeat (first | exact Gr.refl _ | apply Gr.alloc | apply Gr.drew | apply Gr.drewN | (refine Gr.setCell ?_ (by simp) _) | (refine Gr.trans ?_ (by assumption)))
end Go.Proofs.YtanfgipanfjcoaaDoor
/- almonerref02: Mul, Legal, Plus, Compare, Against. -/
namespace Go.Proofs.YtanfgipanfjcoaaDoor
open Go.RowKit

theorem BigP.mono {x : Int} {n m n' m' : Nat} {w : World} {e : Ending} {w' : World} (h : BigP x n m w e w') (hn : n' ≤ n) (hm : m ≤ m') : BigP x n' m' w e w' := by
  obtain ⟨ds, a, c, h1, h2, h3, h4, h5, h6⟩ := h
  exact ⟨ds, a, c, h1, h2, h3, Nat.le_trans hn h4, Nat.le_trans h5 hm, h6⟩

end Go.Proofs.YtanfgipanfjcoaaDoor
