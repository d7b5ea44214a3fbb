/- wide.Against, wide.Cross, plan.Within. -/
import Derived.Test.YtglfdnfojpdkjaaGreatDoorJ4
import Derived.Test.YtglfdnfojpdkjaaGreatDoorJ6
import Derived.Outline
namespace Go.Proofs.YtglfdnfojpdkjaaGreatDoor
open Go.RowKit

theorem cmp_words {a b : Int} : orI (cmpI (hiW a) (hiW b)) (cmpI (loW a) (loW b)) = cmpI a b := by
  have e1 := word_eq a
  have e2 := word_eq b
  have l1 := loW_bd a
  have l2 := loW_bd b
  unfold orI cmpI
  by_cases h1 : hiW a < hiW b
  · rw [if_pos h1, if_neg (by decide), if_pos (show a < b by omega)]
  · by_cases h2 : hiW b < hiW a
    · rw [if_neg h1, if_pos h2, if_neg (by decide), if_neg (show ¬ a < b by omega), if_pos (show b < a by omega)]
    · rw [if_neg h1, if_neg h2, if_pos rfl]
      by_cases h3 : loW a < loW b
      · rw [if_pos h3, if_pos (show a < b by omega)]
      · by_cases h4 : loW b < loW a
        · rw [if_neg h3, if_pos h4, if_neg (show ¬ a < b by omega), if_pos (show b < a by omega)]
        · rw [if_neg h3, if_neg h4, if_neg (show ¬ a < b by omega), if_neg (show ¬ b < a by omega)]

theorem compare_cmp (a b : Int) (w : World) :
    Calls Tryz.prog 172 #[.agg #[.int .u64 (hiW a), .int .u64 (loW a)], .agg #[.int .u64 (hiW b), .int .u64 (loW b)]] w fun e w' => e = .returned (.int .i64 (cmpI a b)) ∧ Gr w w' := by
  have := compare_any a b w
  rw [cmp_words] at this
  exact this

set_option maxHeartbeats 800000 in
/-- wide.Against, where all fits. -/
theorem against_yes (n d q t : Int) (w : World) (hn : Wide n) (hd : Wide d) (h0 : 0 < d) (hq : 0 ≤ q) (hq' : q ≤ 4294967296) (ht : 1 ≤ t) (ht' : t ≤ 4294967296) (h1 : Wide (n * t)) (h2 : Wide (d * q)) :
    Calls Tryz.prog 155 #[.agg #[.int .u64 (hiW n), .int .u64 (loW n), .int .u64 (hiW d), .int .u64 (loW d)], .int .i64 q, .int .i64 t] w fun e w' => e = .returned (.tuple #[.int .i64 (cmpI (n * t) (d * q)), .bool true]) ∧ Gr w w' := by
  have wq : Word q := ⟨hq, by omega⟩
  have wt : Word t := ⟨by omega, by omega⟩
  go_enter Tryz.func155, Tryz.ntmps155
  go_wp2_with fail
  refine (legal_any n d q t _ hd h0 hq ht).mono ?_
  rintro e wa ⟨rfl, ga⟩
  obtain ⟨ca, fa, sa⟩ := ga.cells
  try simp only [size_drewN] at ca fa sa
  try simp only [World.size_alloc] at ca fa sa
  try simp only [World.size_drew] at ca fa sa
  try simp only [World.size_setCell] at ca fa sa
  have za0 : w.heap.size < wa.heap.size := by omega
  have ya0 : w.heap.size ≤ wa.heap.size := by omega
  have ka0 := fun o => ca (w.heap.size) o (by omega)
  have ja0 := fun o => fa (w.heap.size) o (by omega)
  go_wp2_with fail
  refine (mul_any n t _ hn wt h1).mono ?_
  rintro e wb ⟨rfl, gb⟩
  obtain ⟨cb, fb, sb⟩ := gb.cells
  try simp only [size_drewN] at cb fb sb
  try simp only [World.size_alloc] at cb fb sb
  try simp only [World.size_drew] at cb fb sb
  try simp only [World.size_setCell] at cb fb sb
  have zb0 : w.heap.size < wb.heap.size := by omega
  have yb0 : w.heap.size ≤ wb.heap.size := by omega
  have kb0 := fun o => cb (w.heap.size) o (by omega)
  have jb0 := fun o => fb (w.heap.size) o (by omega)
  go_wp2_with fail
  refine (mul_any d q _ hd wq h2).mono ?_
  rintro e wc ⟨rfl, gc⟩
  obtain ⟨cc, fc, sc⟩ := gc.cells
  try simp only [size_drewN] at cc fc sc
  try simp only [World.size_alloc] at cc fc sc
  try simp only [World.size_drew] at cc fc sc
  try simp only [World.size_setCell] at cc fc sc
  have zc0 : w.heap.size < wc.heap.size := by omega
  have yc0 : w.heap.size ≤ wc.heap.size := by omega
  have kc0 := fun o => cc (w.heap.size) o (by omega)
  have jc0 := fun o => fc (w.heap.size) o (by omega)
  have zc1 : wb.heap.size < wc.heap.size := by omega
  have yc1 : wb.heap.size ≤ wc.heap.size := by omega
  have kc1 := fun o => cc (wb.heap.size) o (by omega)
  have jc1 := fun o => fc (wb.heap.size) o (by omega)
  go_wp2_with fail
  refine (compare_cmp (n * t) (d * q) _).mono ?_
  rintro e wd ⟨rfl, gd⟩
  obtain ⟨cd, fd, sd⟩ := gd.cells
  try simp only [size_drewN] at cd fd sd
  try simp only [World.size_alloc] at cd fd sd
  try simp only [World.size_drew] at cd fd sd
  try simp only [World.size_setCell] at cd fd sd
  have zd0 : w.heap.size < wd.heap.size := by omega
  have yd0 : w.heap.size ≤ wd.heap.size := by omega
  have kd0 := fun o => cd (w.heap.size) o (by omega)
  have jd0 := fun o => fd (w.heap.size) o (by omega)
  have zd1 : wb.heap.size < wd.heap.size := by omega
  have yd1 : wb.heap.size ≤ wd.heap.size := by omega
  have kd1 := fun o => cd (wb.heap.size) o (by omega)
  have jd1 := fun o => fd (wb.heap.size) o (by omega)
  have zd2 : wc.heap.size < wd.heap.size := by omega
  have yd2 : wc.heap.size ≤ wd.heap.size := by omega
  have kd2 := fun o => cd (wc.heap.size) o (by omega)
  have jd2 := fun o => fd (wc.heap.size) o (by omega)
  go_wp2_with fail
  go_ret2
  refine ⟨rfl, ?_⟩
  repeat (first | exact Gr.refl _ | apply Gr.alloc | apply Gr.drew | apply Gr.drewN | (refine Gr.setCell ?_ (by simp) _) | (refine Gr.trans ?_ (by assumption)))

set_option maxHeartbeats 800000 in
theorem legal_zero (n q t : Int) (w : World) :
    Calls Tryz.prog 169 #[.agg #[.int .u64 (hiW n), .int .u64 (loW n), .int .u64 0, .int .u64 0], .int .i64 q, .int .i64 t] w fun e w' => e = .returned (.bool false) ∧ Gr w w' := by
  go_enter Tryz.func169, Tryz.ntmps169
  go_wp2
  all_goals (go_ret; exact ⟨rfl, (Gr.refl _).alloc _⟩)

set_option maxHeartbeats 800000 in
theorem against_zero (n q t : Int) (w : World) :
    Calls Tryz.prog 155 #[.agg #[.int .u64 (hiW n), .int .u64 (loW n), .int .u64 0, .int .u64 0], .int .i64 q, .int .i64 t] w fun e w' => e = .returned (.tuple #[.int .i64 0, .bool false]) ∧ Gr w w' := by
  go_enter Tryz.func155, Tryz.ntmps155
  go_wp2_with fail
  refine (legal_zero n q t _).mono ?_
  rintro e wa ⟨rfl, ga⟩
  obtain ⟨ca, fa, sa⟩ := ga.cells
  try simp only [size_drewN] at ca fa sa
  try simp only [World.size_alloc] at ca fa sa
  try simp only [World.size_drew] at ca fa sa
  try simp only [World.size_setCell] at ca fa sa
  have za0 : w.heap.size < wa.heap.size := by omega
  have ya0 : w.heap.size ≤ wa.heap.size := by omega
  have ka0 := fun o => ca (w.heap.size) o (by omega)
  have ja0 := fun o => fa (w.heap.size) o (by omega)
  go_wp2_with fail
  go_ret2
  refine ⟨rfl, ?_⟩
  repeat (first | exact Gr.refl _ | apply Gr.alloc | apply Gr.drew | apply Gr.drewN | (refine Gr.setCell ?_ (by simp) _) | (refine Gr.trans ?_ (by assumption)))

/-- The bounds that a share of eight servers or tasks has. -/
def Shr (p : Int × Int) : Prop := 0 ≤ p.1 ∧ p.1 ≤ 8 * 18446744073709551616 ∧ 1 ≤ p.2 ∧ p.2 ≤ 18446744073709551616
theorem shr_share {l : List Srv} (h : allLeg l = true) (h8 : l.length ≤ 8) : Shr (shareS l) := by
  have b := shareS_bd l h l.length (Nat.le_refl _)
  rw [List.take_length] at b
  have p := P256_le h8
  have p0 := P256_pos l.length
  have m := (mul_bd (show (0 : Int) ≤ (l.length : Int) by omega) (show (l.length : Int) ≤ 8 by omega) (show 0 ≤ P256 l.length by omega) p).2
  exact ⟨b.1, by omega, b.2.2.1, by omega⟩
theorem against_shr (p : Int × Int) (q t : Int) (w : World) (hp : Shr p) (hq : 0 ≤ q) (hq' : q ≤ 4294967296) (ht : 1 ≤ t) (ht' : t ≤ 4294967296) :
    Calls Tryz.prog 155 #[partV p, .int .i64 q, .int .i64 t] w fun e w' => e = .returned (.tuple #[.int .i64 (cmpI (p.1 * t) (p.2 * q)), .bool true]) ∧ Gr w w' := by
  obtain ⟨h1, h2, h3, h4⟩ := hp
  have m1 := mul_bd h1 h2 (show 0 ≤ t by omega) ht'
  have m2 := mul_bd (show 0 ≤ p.2 by omega) h4 hq hq'
  exact against_yes p.1 p.2 q t w ⟨h1, by omega⟩ ⟨by omega, by omega⟩ (by omega) hq hq' ht ht' ⟨m1.1, by omega⟩ ⟨m2.1, by omega⟩

set_option maxHeartbeats 800000 in
theorem within_leg (p : Int × Int) (s : Srv) (w : World) (hp : Shr p) (hs : s.leg = true) :
    Calls Tryz.prog 152 #[partV p, .agg #[.int .i64 s.k, .int .i64 s.q, .int .i64 s.t]] w fun e w' => e = .returned (.tuple #[.int .i64 (cmpI (p.1 * s.t) (p.2 * s.q)), .bool true]) ∧ Gr w w' := by
  obtain ⟨h1, h2, h3, h4, h5⟩ := (Srv.leg_iff _).1 hs
  replace hs := Lib.hid hs
  go_enter Tryz.func152, Tryz.ntmps152
  go_wp2_with fail
  refine (checkServer_yes s.k s.q s.t _ hs.out).mono ?_
  rintro e wa ⟨rfl, ga⟩
  obtain ⟨ca, fa, sa⟩ := ga.cells
  try simp only [size_drewN] at ca fa sa
  try simp only [World.size_alloc] at ca fa sa
  try simp only [World.size_drew] at ca fa sa
  try simp only [World.size_setCell] at ca fa sa
  have za0 : w.heap.size < wa.heap.size := by omega
  have ya0 : w.heap.size ≤ wa.heap.size := by omega
  have ka0 := fun o => ca (w.heap.size) o (by omega)
  have ja0 := fun o => fa (w.heap.size) o (by omega)
  have za1 : w.heap.size + 1 < wa.heap.size := by omega
  have ka1 := fun o => ca (w.heap.size + 1) o (by omega)
  have ja1 := fun o => fa (w.heap.size + 1) o (by omega)
  go_wp2_with fail
  refine (against_shr p s.q s.t _ hp (by omega) (by omega) (by omega) (by omega)).mono ?_
  rintro e wb ⟨rfl, gb⟩
  obtain ⟨cb, fb, sb⟩ := gb.cells
  try simp only [size_drewN] at cb fb sb
  try simp only [World.size_alloc] at cb fb sb
  try simp only [World.size_drew] at cb fb sb
  try simp only [World.size_setCell] at cb fb sb
  have zb0 : w.heap.size < wb.heap.size := by omega
  have yb0 : w.heap.size ≤ wb.heap.size := by omega
  have kb0 := fun o => cb (w.heap.size) o (by omega)
  have jb0 := fun o => fb (w.heap.size) o (by omega)
  have zb1 : w.heap.size + 1 < wb.heap.size := by omega
  have kb1 := fun o => cb (w.heap.size + 1) o (by omega)
  have jb1 := fun o => fb (w.heap.size + 1) o (by omega)
  go_wp2_with fail
  go_ret2
  refine ⟨rfl, ?_⟩
  repeat (first | exact Gr.refl _ | apply Gr.alloc | apply Gr.drew | apply Gr.drewN | (refine Gr.setCell ?_ (by simp) _) | (refine Gr.trans ?_ (by assumption)))

set_option maxHeartbeats 800000 in
theorem within_whole (p : Int × Int) (w : World) (hp : Shr p) :
    Calls Tryz.prog 152 #[partV p, .agg #[.int .i64 0, .int .i64 0, .int .i64 0]] w fun e w' => e = .returned (.tuple #[.int .i64 (cmpI p.1 p.2), .bool true]) ∧ Gr w w' := by
  have hx := fun w => against_shr p 1 1 w hp (by decide) (by decide) (by decide) (by decide)
  rw [Int.mul_one, Int.mul_one] at hx
  replace hx := Lib.hid hx
  go_enter Tryz.func152, Tryz.ntmps152
  go_wp2_with fail
  refine (hx.out _).mono ?_
  rintro e wb ⟨rfl, gb⟩
  obtain ⟨cb, fb, sb⟩ := gb.cells
  try simp only [size_drewN] at cb fb sb
  try simp only [World.size_alloc] at cb fb sb
  try simp only [World.size_drew] at cb fb sb
  try simp only [World.size_setCell] at cb fb sb
  have zb0 : w.heap.size < wb.heap.size := by omega
  have yb0 : w.heap.size ≤ wb.heap.size := by omega
  have kb0 := fun o => cb (w.heap.size) o (by omega)
  have jb0 := fun o => fb (w.heap.size) o (by omega)
  have zb1 : w.heap.size + 1 < wb.heap.size := by omega
  have kb1 := fun o => cb (w.heap.size + 1) o (by omega)
  have jb1 := fun o => fb (w.heap.size + 1) o (by omega)
  go_wp2_with fail
  go_ret2
  refine ⟨rfl, ?_⟩
  repeat (first | exact Gr.refl _ | apply Gr.alloc | apply Gr.drew | apply Gr.drewN | (refine Gr.setCell ?_ (by simp) _) | (refine Gr.trans ?_ (by assumption)))
end Go.Proofs.YtglfdnfojpdkjaaGreatDoor
/- almonerref02: Mul, Legal, Plus, Compare, Against. -/
namespace Go.Proofs.YtglfdnfojpdkjaaGreatDoor
open Go.RowKit

theorem BigP.mono {x : Int} {n m n' m' : Nat} {w : World} {e : Ending} {w' : World} (h : BigP x n m w e w') (hn : n' ≤ n) (hm : m ≤ m') : BigP x n' m' w e w' := by
  obtain ⟨ds, a, c, h1, h2, h3, h4, h5, h6⟩ := h
  exact ⟨ds, a, c, h1, h2, h3, Nat.le_trans hn h4, Nat.le_trans h5 hm, h6⟩

/-- Eight digits times four. -/
theorem btimes4 (a : Option Addr) (b : Nat) (da : List Int) (ca : Nat) (x n : Int) (w : World) (ha : BigAt w a da) (hb : BB w b n) (ga : Dig da) (hx : valD da = x) (l1 : 8 ≤ da.length) (l2 : da.length ≤ 8) (h0 : 0 ≤ n) (h1 : n < 18446744073709551616) :
    Calls Tryz.prog 91 #[.slice a da.length ca, .slice (some ⟨b, 0, none⟩) 4 4] w (BigP (x * n) 12 13 w) := by
  have h := btimes_any a (some ⟨b, 0, none⟩) da (digs4 n) ca 4 w ha hb.big ga (digs4_dig h0 h1) (by omega) (by simp [digs4]) (by simp [digs4])
  rw [hx, digs4_val, show (digs4 n).length = 4 from rfl] at h
  exact h.mono fun _ _ h => h.mono (by omega) (by omega)

theorem bplus14 (a b : Option Addr) (da db : List Int) (ca cb : Nat) (x y : Int) (w : World) (ha : BigAt w a da) (hb : BigAt w b db) (ga : Dig da) (gb : Dig db) (hx : valD da = x) (hy : valD db = y) (l1 : 12 ≤ da.length) (l2 : da.length ≤ 13) (l3 : db.length ≤ 13) :
    Calls Tryz.prog 93 #[.slice a da.length ca, .slice b db.length cb] w (BigP (x + y) 12 14 w) := by
  have h := bplus_any a b da db ca cb w ha hb ga gb (by omega) (by omega)
  rw [hx, hy] at h
  exact h.mono fun _ _ h => h.mono (by omega) (by omega)

set_option maxHeartbeats 1600000 in
theorem rmul_any (a n : Int) (w : World) (ha : Wide a) (hn : Word n) (hp : Wide (a * n)) :
    Calls Tryz.prog 128 #[.agg #[.int .u64 (hiW a), .int .u64 (loW a)], .int .u64 n] w fun e w' => e = .returned (.tuple #[.agg #[.int .u64 (hiW (a * n)), .int .u64 (loW (a * n))], .bool true]) ∧ Gr w w' := by
  obtain ⟨n1, n2⟩ := hn
  go_enter Tryz.func128, Tryz.ntmps128
  go_wp2_with fail
  refine (rof_any a _ ha).mono ?_
  rintro e wa ⟨lda, aa, caa, rfl, va, da, la, ma, ra, nna, cpa, ga⟩
  obtain ⟨ca, fa, sa⟩ := ga.cells
  try simp only [size_drewN] at ca fa sa
  try simp only [World.size_alloc] at ca fa sa
  try simp only [World.size_drew] at ca fa sa
  try simp only [World.size_setCell] at ca fa sa
  replace va := Lib.hid va
  have za0 : w.heap.size < wa.heap.size := by omega
  have ya0 : w.heap.size ≤ wa.heap.size := by omega
  have ka0 := fun o => ca (w.heap.size) o (by omega)
  have ja0 := fun o => fa (w.heap.size) o (by omega)
  have za1 : w.heap.size + 1 < wa.heap.size := by omega
  have ka1 := fun o => ca (w.heap.size + 1) o (by omega)
  have ja1 := fun o => fa (w.heap.size + 1) o (by omega)
  go_wp2_with fail
  refine (bof_ex n _ n1 n2).mono ?_
  rintro e wb ⟨bb, rfl, llb, hbb, gb⟩
  obtain ⟨cb, fb, sb⟩ := gb.cells
  try simp only [size_drewN] at cb fb sb
  try simp only [World.size_alloc] at cb fb sb
  try simp only [World.size_drew] at cb fb sb
  try simp only [World.size_setCell] at cb fb sb
  have zb0 : w.heap.size < wb.heap.size := by omega
  have yb0 : w.heap.size ≤ wb.heap.size := by omega
  have kb0 := fun o => cb (w.heap.size) o (by omega)
  have jb0 := fun o => fb (w.heap.size) o (by omega)
  have zb1 : w.heap.size + 1 < wb.heap.size := by omega
  have kb1 := fun o => cb (w.heap.size + 1) o (by omega)
  have jb1 := fun o => fb (w.heap.size + 1) o (by omega)
  go_wp2_with fail
  refine (btimes4 aa bb lda caa a n _ (ra.gr gb) hbb da va.out la ma n1 n2).mono ?_
  rintro e wc ⟨ldc, ac, cac, rfl, vc, dc, lc, mc, rc, nnc, cpc, gc⟩
  obtain ⟨cc, fc, sc⟩ := gc.cells
  try simp only [size_drewN] at cc fc sc
  try simp only [World.size_alloc] at cc fc sc
  try simp only [World.size_drew] at cc fc sc
  try simp only [World.size_setCell] at cc fc sc
  replace vc := Lib.hid vc
  have zc0 : w.heap.size < wc.heap.size := by omega
  have yc0 : w.heap.size ≤ wc.heap.size := by omega
  have kc0 := fun o => cc (w.heap.size) o (by omega)
  have jc0 := fun o => fc (w.heap.size) o (by omega)
  have zc1 : w.heap.size + 1 < wc.heap.size := by omega
  have kc1 := fun o => cc (w.heap.size + 1) o (by omega)
  have jc1 := fun o => fc (w.heap.size + 1) o (by omega)
  go_wp2_with fail
  refine (rback_any ac ldc cac (a * n) _ rc dc (by omega) (by omega) cpc vc.out hp).mono ?_
  rintro e wd ⟨rfl, gd⟩
  obtain ⟨cd, fd, sd⟩ := gd.cells
  try simp only [size_drewN] at cd fd sd
  try simp only [World.size_alloc] at cd fd sd
  try simp only [World.size_drew] at cd fd sd
  try simp only [World.size_setCell] at cd fd sd
  have zd0 : w.heap.size < wd.heap.size := by omega
  have yd0 : w.heap.size ≤ wd.heap.size := by omega
  have kd0 := fun o => cd (w.heap.size) o (by omega)
  have jd0 := fun o => fd (w.heap.size) o (by omega)
  have zd1 : w.heap.size + 1 < wd.heap.size := by omega
  have kd1 := fun o => cd (w.heap.size + 1) o (by omega)
  have jd1 := fun o => fd (w.heap.size + 1) o (by omega)
  go_wp2_with fail
  refine bodyPost_ret (v := .tuple #[.agg #[.int .u64 (hiW (a * n)), .int .u64 (loW (a * n))], .bool true]) (by simp (maxDischargeDepth := 8) [results, Tryz.results128, go_sem, *]) rfl ⟨rfl, ?_⟩
  repeat (first | exact Gr.refl _ | apply Gr.alloc | apply Gr.drew | apply Gr.drewN | (refine Gr.setCell ?_ (by simp) _) | (refine Gr.trans ?_ (by assumption)))

set_option maxHeartbeats 400000 in
theorem rlegal2_any (n d q t : Int) (w : World) (hd : Wide d) (h0 : 0 < d) (hq : 0 ≤ q) (ht : 1 ≤ t) :
    Calls Tryz.prog 126 #[.agg #[.int .u64 (hiW n), .int .u64 (loW n), .int .u64 (hiW d), .int .u64 (loW d)], .int .i64 q, .int .i64 t] w fun e w' => e = .returned (.bool true) ∧ Gr w w' := by
  obtain ⟨hn1, hn2, hn3⟩ := wide_ne d hd h0
  go_enter Tryz.func126, Tryz.ntmps126
  go_wp2
  all_goals (go_ret; exact ⟨rfl, (Gr.refl _).alloc _⟩)
set_option maxHeartbeats 400000 in
theorem rlegal2_zero (n q t : Int) (w : World) :
    Calls Tryz.prog 126 #[.agg #[.int .u64 (hiW n), .int .u64 (loW n), .int .u64 0, .int .u64 0], .int .i64 q, .int .i64 t] w fun e w' => e = .returned (.bool false) ∧ Gr w w' := by
  go_enter Tryz.func126, Tryz.ntmps126
  go_wp2
  all_goals (go_ret; exact ⟨rfl, (Gr.refl _).alloc _⟩)

set_option maxRecDepth 100000 in
set_option maxHeartbeats 3200000 in
/-- almonerref02.Plus, where all fits. -/
theorem rplus_any (n d q t : Int) (w : World) (hn : Wide n) (hd : Wide d) (h0 : 0 < d) (hq : 0 ≤ q) (hq' : q ≤ 4294967296) (ht : 1 ≤ t) (ht' : t ≤ 4294967296) (h1 : Wide (n * t + d * q)) (h2 : Wide (d * t)) :
    Calls Tryz.prog 108 #[.agg #[.int .u64 (hiW n), .int .u64 (loW n), .int .u64 (hiW d), .int .u64 (loW d)], .int .i64 q, .int .i64 t] w fun e w' => e = .returned (.tuple #[.agg #[.int .u64 (hiW (n * t + d * q)), .int .u64 (loW (n * t + d * q)), .int .u64 (hiW (d * t)), .int .u64 (loW (d * t))], .bool true]) ∧ Gr w w' := by
  have wt : Word t := ⟨by omega, by omega⟩
  have t0 : 0 ≤ t := by omega
  have t1 : t < 18446744073709551616 := by omega
  have q1 : q < 18446744073709551616 := by omega
  go_enter Tryz.func108, Tryz.ntmps108
  go_wp2_with fail
  refine (rlegal2_any n d q t _ hd h0 hq ht).mono ?_
  rintro e wz ⟨rfl, gz⟩
  obtain ⟨cz, fz, sz⟩ := gz.cells
  try simp only [size_drewN] at cz fz sz
  try simp only [World.size_alloc] at cz fz sz
  try simp only [World.size_drew] at cz fz sz
  try simp only [World.size_setCell] at cz fz sz
  have zz0 : w.heap.size < wz.heap.size := by omega
  have yz0 : w.heap.size ≤ wz.heap.size := by omega
  have kz0 := fun o => cz (w.heap.size) o (by omega)
  have jz0 := fun o => fz (w.heap.size) o (by omega)
  have zz1 : w.heap.size + 1 < wz.heap.size := by omega
  have kz1 := fun o => cz (w.heap.size + 1) o (by omega)
  have jz1 := fun o => fz (w.heap.size + 1) o (by omega)
  have ewt : IntKind.u64.wrap t = t := by rw [IntKind.wrap_u64]; omega
  have ewq : IntKind.u64.wrap q = q := by rw [IntKind.wrap_u64]; omega
  go_wp2_with fail
  go_region_held3 (fun w' => w'.cell? ⟨w.heap.size, 0, none⟩ = some (.int .u64 (hiW n)) ∧ w'.cell? ⟨w.heap.size, 1, none⟩ = some (.int .u64 (loW n)) ∧ w'.cell? ⟨w.heap.size, 2, none⟩ = some (.int .u64 (hiW d)) ∧ w'.cell? ⟨w.heap.size, 3, none⟩ = some (.int .u64 (loW d))) (simp (maxDischargeDepth := 8) [go_sem, *])
    (first
      | (go_at_call 89; (with_reducible refine (rof_any n _ hn).mono ?_); rintro e wa ⟨lda, aa, caa, rfl, va, da, la, ma, ra, nna, cpa, ga⟩; obtain ⟨ka, ja, sa⟩ := ga.cells; (try simp only [World.size_drew] at ka ja sa); have kka := fun o => ka w.heap.size o (by omega))
      | (go_at_call 109; (with_reducible refine (bof_ex t _ t0 t1).mono ?_); rintro e wb ⟨bb, rfl, llb, hbb, gb⟩; obtain ⟨kb, jb, sb⟩ := gb.cells; have kkb := fun o => kb w.heap.size o (by omega))
      | (go_at_call 91; (with_reducible refine (btimes4 aa bb lda caa n t _ (ra.gr gb) hbb da va la ma t0 t1).mono ?_); rintro e wc ⟨ldc, ac, cac, rfl, vc, dc, lc, mc, rc, nnc, cpc, gc⟩; obtain ⟨kc, jc, sc⟩ := gc.cells; have kkc := fun o => kc w.heap.size o (by omega))
      | (go_at_call 89; (with_reducible refine (rof_any d _ hd).mono ?_); rintro e we ⟨lde, ae, cae, rfl, ve, de, le, me, re, nne, cpe, ge⟩; obtain ⟨ke, je, se⟩ := ge.cells; have kke := fun o => ke w.heap.size o (by omega))
      | (go_at_call 109; (with_reducible refine (bof_ex q _ hq q1).mono ?_); rintro e wf ⟨bf, rfl, llf, hbf, gf⟩; obtain ⟨kf, jf, sf⟩ := gf.cells; have kkf := fun o => kf w.heap.size o (by omega))
      | (go_at_call 91; (with_reducible refine (btimes4 ae bf lde cae d q _ (re.gr gf) hbf de ve le me hq q1).mono ?_); rintro e wg ⟨ldg, ag, cag, rfl, vg, dg, lg, mg, rg, nng, cpg, gg⟩; obtain ⟨kg, jg, sg⟩ := gg.cells; have kkg := fun o => kg w.heap.size o (by omega))
      | (go_at_call 93; (with_reducible refine (bplus14 ac ag ldc ldg cac cag (n * t) (d * q) _ (((rc.gr ge).gr gf).gr gg) rg dc dg vc vg lc mc mg).mono ?_); rintro e wh ⟨ldh, ah, cah, rfl, vh, dh, lh, mh, rh, nnh, cph, gh⟩; obtain ⟨kh, jh, sh⟩ := gh.cells; have kkh := fun o => kh w.heap.size o (by omega))
      | fail)
  clear ewt ewq
  have zz0 : w.heap.size + 1 < wh.heap.size := by omega
  have h18 : Wide (n * t + d * q) := h1
  replace h18 := Lib.hid h18
  have bk := fun w h => rback_any ah ldh cah (n * t + d * q) w h dh (by omega) (by omega) cph vh h18.out
  replace bk := Lib.hid bk
  have km := fun w => rmul_any d t w hd wt h2
  replace km := Lib.hid km
  have gz2 := (((((((gz.drew).trans ga).trans gb).trans gc).trans ge).trans gf).trans gg).trans gh
  obtain ⟨cz2, fz2, sz2⟩ := gz2.cells
  simp only [World.size_alloc] at cz2 fz2 sz2
  have kz2 := fun o => cz2 w.heap.size o (by omega)
  have kz3 := fun o => cz2 (w.heap.size + 1) o (by omega)
  have jz3 := fun o => fz2 (w.heap.size + 1) o (by omega)
  clear ga gb gc ge gf gg gh gz ka kb kc ke kf kg kh ja jb jc je jf jg jh kka kkb kkc kke kkf kkg kkh cz fz kz0 kz1 jz0 jz1 cz2 fz2 hbb hbf ra re rc rg va vc ve vg nna nnc nne nng cpa cpc cpe cpg nnh
  go_wp2_with fail
  refine (bk.out _ rh).mono ?_
  rintro e wi ⟨rfl, gi⟩
  obtain ⟨ci, fi, si⟩ := gi.cells
  try simp only [size_drewN] at ci fi si
  try simp only [World.size_alloc] at ci fi si
  try simp only [World.size_drew] at ci fi si
  try simp only [World.size_setCell] at ci fi si
  have zi0 : w.heap.size < wi.heap.size := by omega
  have yi0 : w.heap.size ≤ wi.heap.size := by omega
  have ki0 := fun o => ci (w.heap.size) o (by omega)
  have ji0 := fun o => fi (w.heap.size) o (by omega)
  have zi1 : w.heap.size + 1 < wi.heap.size := by omega
  have ki1 := fun o => ci (w.heap.size + 1) o (by omega)
  have ji1 := fun o => fi (w.heap.size + 1) o (by omega)
  go_wp2_with fail
  refine (km.out _).mono ?_
  rintro e wj ⟨rfl, gj⟩
  obtain ⟨cj, fj, sj⟩ := gj.cells
  try simp only [size_drewN] at cj fj sj
  try simp only [World.size_alloc] at cj fj sj
  try simp only [World.size_drew] at cj fj sj
  try simp only [World.size_setCell] at cj fj sj
  have zj0 : w.heap.size < wj.heap.size := by omega
  have yj0 : w.heap.size ≤ wj.heap.size := by omega
  have kj0 := fun o => cj (w.heap.size) o (by omega)
  have jj0 := fun o => fj (w.heap.size) o (by omega)
  have zj1 : w.heap.size + 1 < wj.heap.size := by omega
  have kj1 := fun o => cj (w.heap.size + 1) o (by omega)
  have jj1 := fun o => fj (w.heap.size + 1) o (by omega)
  have zj2 : wi.heap.size < wj.heap.size := by omega
  have yj2 : wi.heap.size ≤ wj.heap.size := by omega
  have kj2 := fun o => cj (wi.heap.size) o (by omega)
  have jj2 := fun o => fj (wi.heap.size) o (by omega)
  go_wp2_with fail
  refine bodyPost_ret (v := .tuple #[.agg #[.int .u64 (hiW (n * t + d * q)), .int .u64 (loW (n * t + d * q)), .int .u64 (hiW (d * t)), .int .u64 (loW (d * t))], .bool true]) (by simp (maxDischargeDepth := 8) [results, Tryz.results108, go_sem, *]) rfl ⟨rfl, ?_⟩
  have gw2 : Gr w wh := (((Gr.refl w).alloc _).alloc _).trans gz2
  repeat (first | exact Gr.refl _ | apply Gr.alloc | apply Gr.drew | apply Gr.drewN | (refine Gr.setCell ?_ (by simp) _) | (refine Gr.trans ?_ (by assumption)))
end Go.Proofs.YtglfdnfojpdkjaaGreatDoor
