/- almonerref02: Compare, Against; almonerref08: share, Within. -/
import Derived.Test.YtmookdgeblcjnaaDoorN6
import Derived.Test.YtmookdgeblcjnaaDoorA5
import Derived.Outline
namespace Go.Proofs.YtmookdgeblcjnaaDoor
open Go.RowKit

theorem bless8 (a b : Option Addr) (da db : List Int) (ca cb : Nat) (x y : Int) (w : World) (ha : BigAt w a da) (hb : BigAt w b db) (ga : Dig da) (gb : Dig db) (hx : valD da = x) (hy : valD db = y) (la : da.length ≤ 8) (lb : db.length ≤ 8) (r : Bool) (hr : decide (x < y) = r) :
    Calls Tryd.prog 81 #[.slice a da.length ca, .slice b db.length cb] w fun e w' => e = .returned (.bool r) ∧ w = w' := by
  have h := bless_any a b da db ca cb w ha hb ga gb (by omega) (by omega)
  rw [hx, hy, hr] at h
  exact h

set_option maxRecDepth 100000 in
set_option maxHeartbeats 1600000 in
/-- almonerref02.Compare. -/
theorem rcompare_any (a b : Int) (w : World) (ha : Wide a) (hb : Wide b) :
    Calls Tryd.prog 60 #[.agg #[.int .u64 (hiW a), .int .u64 (loW a)], .agg #[.int .u64 (hiW b), .int .u64 (loW b)]] w fun e w' => e = .returned (.int .i64 (cmpI a b)) ∧ Gr w w' := by
  unfold cmpI
  by_cases hlt : a < b
  · rw [if_pos hlt]
    have hr := decide_eq_true hlt
    clear hlt
    replace hr := Lib.hid hr
    go_enter Tryd.func60, Tryd.ntmps60
    go_wp2_with fail
    go_region_held3 (fun w' => w'.cell? ⟨w.heap.size, 0, none⟩ = some (.int .u64 (hiW a)) ∧ w'.cell? ⟨w.heap.size, 1, none⟩ = some (.int .u64 (loW a)) ∧ w'.cell? ⟨w.heap.size + 1, 0, none⟩ = some (.int .u64 (hiW b)) ∧ w'.cell? ⟨w.heap.size + 1, 1, none⟩ = some (.int .u64 (loW b))) (simp (maxDischargeDepth := 8) [go_sem, *])
      (first
        | (go_at_call 78; (with_reducible refine (rof_any a _ ha).mono ?_); rintro e wa ⟨lda, aa, caa, rfl, va, da, la, ma, ra, nna, cpa, ga⟩; obtain ⟨ka, ja, sa⟩ := ga.cells; (try simp only [World.size_drew, World.size_alloc] at ka ja sa); have kka := fun o => ka w.heap.size o (by omega); have kkb := fun o => ka (w.heap.size + 1) o (by omega))
        | (go_at_call 78; (with_reducible refine (rof_any b _ hb).mono ?_); rintro e we ⟨lde, ae, cae, rfl, ve, de, le, me, re, nne, cpe, ge⟩; obtain ⟨ke, je, se⟩ := ge.cells; have kke := fun o => ke w.heap.size o (by omega); have kkf := fun o => ke (w.heap.size + 1) o (by omega))
        | (go_at_call 81; (with_reducible refine (bless8 aa ae lda lde caa cae a b _ (ra.gr ge) re da de va ve ma me true hr.out).mono ?_); rintro e wg ⟨rfl, rfl⟩)
        | fail)
    go_wp2_with fail
    go_ret
    refine ⟨rfl, ?_⟩
    exact (((((Gr.refl w).alloc _).alloc _).drew).trans ga).trans ge
  · rw [if_neg hlt]
    have hr := decide_eq_false hlt
    clear hlt
    replace hr := Lib.hid hr
    have key : ∀ (r2 : Bool) (x : Int), decide (b < a) = r2 → (r2 = true → x = 1) → (r2 = false → x = 0) → Calls Tryd.prog 60 #[.agg #[.int .u64 (hiW a), .int .u64 (loW a)], .agg #[.int .u64 (hiW b), .int .u64 (loW b)]] w fun e w' => e = .returned (.int .i64 x) ∧ Gr w w' := by
      intro r2 x hr2 hx1 hx2
      replace hr2 := Lib.hid hr2
      replace hx1 := Lib.hid hx1
      replace hx2 := Lib.hid hx2
      go_enter Tryd.func60, Tryd.ntmps60
      go_wp2_with fail
      go_region_held3 (fun w' => w'.cell? ⟨w.heap.size, 0, none⟩ = some (.int .u64 (hiW a)) ∧ w'.cell? ⟨w.heap.size, 1, none⟩ = some (.int .u64 (loW a)) ∧ w'.cell? ⟨w.heap.size + 1, 0, none⟩ = some (.int .u64 (hiW b)) ∧ w'.cell? ⟨w.heap.size + 1, 1, none⟩ = some (.int .u64 (loW b))) (simp (maxDischargeDepth := 8) [go_sem, *])
        (first
          | (go_at_call 78; (with_reducible refine (rof_any a _ ha).mono ?_); rintro e wa ⟨lda, aa, caa, rfl, va, da, la, ma, ra, nna, cpa, ga⟩; obtain ⟨ka, ja, sa⟩ := ga.cells; (try simp only [World.size_drew, World.size_alloc] at ka ja sa); have kka := fun o => ka w.heap.size o (by omega); have kkb := fun o => ka (w.heap.size + 1) o (by omega))
          | (go_at_call 78; (with_reducible refine (rof_any b _ hb).mono ?_); rintro e we ⟨lde, ae, cae, rfl, ve, de, le, me, re, nne, cpe, ge⟩; obtain ⟨ke, je, se⟩ := ge.cells; have kke := fun o => ke w.heap.size o (by omega); have kkf := fun o => ke (w.heap.size + 1) o (by omega))
          | (go_at_call 81; (with_reducible refine (bless8 aa ae lda lde caa cae a b _ (ra.gr ge) re da de va ve ma me false hr.out).mono ?_); rintro e wg ⟨rfl, rfl⟩)
          | fail)
      have gae := (((((Gr.refl w).alloc _).alloc _).drew).trans ga).trans ge
      clear ga ge ka ja ke je ra re va ve nna nne cpa cpe
      go_wp2_with fail
      go_region_held3 (fun w' => w'.cell? ⟨w.heap.size, 0, none⟩ = some (.int .u64 (hiW a)) ∧ w'.cell? ⟨w.heap.size, 1, none⟩ = some (.int .u64 (loW a)) ∧ w'.cell? ⟨w.heap.size + 1, 0, none⟩ = some (.int .u64 (hiW b)) ∧ w'.cell? ⟨w.heap.size + 1, 1, none⟩ = some (.int .u64 (loW b))) (simp (maxDischargeDepth := 8) [go_sem, *])
        (first
          | (go_at_call 78; (with_reducible refine (rof_any b _ hb).mono ?_); rintro e wa ⟨lda, aa, caa, rfl, va, da, la, ma, ra, nna, cpa, ga⟩; obtain ⟨ka, ja, sa⟩ := ga.cells; (try simp only [World.size_drew] at ka ja sa); have kka := fun o => ka w.heap.size o (by omega); have kkb := fun o => ka (w.heap.size + 1) o (by omega))
          | (go_at_call 78; (with_reducible refine (rof_any a _ ha).mono ?_); rintro e we ⟨lde, ae, cae, rfl, ve, de, le, me, re, nne, cpe, ge⟩; obtain ⟨ke, je, se⟩ := ge.cells; have kke := fun o => ke w.heap.size o (by omega); have kkf := fun o => ke (w.heap.size + 1) o (by omega))
          | (go_at_call 81; (with_reducible refine (bless8 aa ae lda lde caa cae b a _ (ra.gr ge) re da de va ve ma me r2 hr2.out).mono ?_); rintro e wg ⟨rfl, rfl⟩)
          | fail)
      cases r2
      · go_wp2_with fail
        go_ret
        exact ⟨ret1 (hx2.out trivial).symm, ((gae.drew).trans ga).trans ge⟩
      · go_wp2_with fail
        go_ret
        exact ⟨ret1 (hx1.out trivial).symm, ((gae.drew).trans ga).trans ge⟩
    by_cases hlt : b < a
    · rw [if_pos hlt]
      exact key true 1 (decide_eq_true hlt) (fun _ => rfl) (fun h => by cases h)
    · rw [if_neg hlt]
      exact key false 0 (decide_eq_false hlt) (fun h => by cases h) (fun _ => rfl)

set_option maxHeartbeats 800000 in
/-- almonerref02.Against, where all fits. -/
theorem ragainst_yes (n d q t : Int) (w : World) (hn : Wide n) (hd : Wide d) (h0 : 0 < d) (hq : 0 ≤ q) (hq' : q ≤ 4294967296) (ht : 1 ≤ t) (ht' : t ≤ 4294967296) (h1 : Wide (n * t)) (h2 : Wide (d * q)) :
    Calls Tryd.prog 31 #[.agg #[.int .u64 (hiW n), .int .u64 (loW n), .int .u64 (hiW d), .int .u64 (loW d)], .int .i64 q, .int .i64 t] w fun e w' => e = .returned (.tuple #[.int .i64 (cmpI (n * t) (d * q)), .bool true]) ∧ Gr w w' := by
  have wq : Word q := ⟨hq, by omega⟩
  have wt : Word t := ⟨by omega, by omega⟩
  go_enter Tryd.func31, Tryd.ntmps31
  go_wp2_with fail
  refine (rlegal2_any n d q t _ hd h0 hq ht).mono ?_
  rintro e wa ⟨rfl, ga⟩
  obtain ⟨ca, fa, sa⟩ := ga.cells
  try simp only [size_drewN] at ca fa sa
  try simp only [World.size_alloc] at ca fa sa
  try simp only [World.size_drew] at ca fa sa
  try simp only [World.size_setCell] at ca fa sa
  have za0 : w.heap.size < wa.heap.size := by omega
  have ya0 : w.heap.size ≤ wa.heap.size := by omega
  have ka0 := fun o => ca (w.heap.size) o (by omega)
  have ja0 := fun o => fa (w.heap.size) o (by omega)
  go_wp2_with fail
  refine (rmul_any n t _ hn wt h1).mono ?_
  rintro e wb ⟨rfl, gb⟩
  obtain ⟨cb, fb, sb⟩ := gb.cells
  try simp only [size_drewN] at cb fb sb
  try simp only [World.size_alloc] at cb fb sb
  try simp only [World.size_drew] at cb fb sb
  try simp only [World.size_setCell] at cb fb sb
  have zb0 : w.heap.size < wb.heap.size := by omega
  have yb0 : w.heap.size ≤ wb.heap.size := by omega
  have kb0 := fun o => cb (w.heap.size) o (by omega)
  have jb0 := fun o => fb (w.heap.size) o (by omega)
  go_wp2_with fail
  refine (rmul_any d q _ hd wq h2).mono ?_
  rintro e wc ⟨rfl, gc⟩
  obtain ⟨cc, fc, sc⟩ := gc.cells
  try simp only [size_drewN] at cc fc sc
  try simp only [World.size_alloc] at cc fc sc
  try simp only [World.size_drew] at cc fc sc
  try simp only [World.size_setCell] at cc fc sc
  have zc0 : w.heap.size < wc.heap.size := by omega
  have yc0 : w.heap.size ≤ wc.heap.size := by omega
  have kc0 := fun o => cc (w.heap.size) o (by omega)
  have jc0 := fun o => fc (w.heap.size) o (by omega)
  have zc1 : wb.heap.size < wc.heap.size := by omega
  have yc1 : wb.heap.size ≤ wc.heap.size := by omega
  have kc1 := fun o => cc (wb.heap.size) o (by omega)
  have jc1 := fun o => fc (wb.heap.size) o (by omega)
  go_wp2_with fail
  refine (rcompare_any (n * t) (d * q) _ h1 h2).mono ?_
  rintro e wd ⟨rfl, gd⟩
  obtain ⟨cd, fd, sd⟩ := gd.cells
  try simp only [size_drewN] at cd fd sd
  try simp only [World.size_alloc] at cd fd sd
  try simp only [World.size_drew] at cd fd sd
  try simp only [World.size_setCell] at cd fd sd
  have zd0 : w.heap.size < wd.heap.size := by omega
  have yd0 : w.heap.size ≤ wd.heap.size := by omega
  have kd0 := fun o => cd (w.heap.size) o (by omega)
  have jd0 := fun o => fd (w.heap.size) o (by omega)
  have zd1 : wb.heap.size < wd.heap.size := by omega
  have yd1 : wb.heap.size ≤ wd.heap.size := by omega
  have kd1 := fun o => cd (wb.heap.size) o (by omega)
  have jd1 := fun o => fd (wb.heap.size) o (by omega)
  have zd2 : wc.heap.size < wd.heap.size := by omega
  have yd2 : wc.heap.size ≤ wd.heap.size := by omega
  have kd2 := fun o => cd (wc.heap.size) o (by omega)
  have jd2 := fun o => fd (wc.heap.size) o (by omega)
  go_wp2_with fail
  go_ret2
  refine ⟨rfl, ?_⟩
  repeat (first | exact Gr.refl _ | apply Gr.alloc | apply Gr.drew | apply Gr.drewN | (refine Gr.setCell ?_ (by simp) _) | (refine Gr.trans ?_ (by assumption)))

set_option maxHeartbeats 800000 in
theorem ragainst_zero (n q t : Int) (w : World) :
    Calls Tryd.prog 31 #[.agg #[.int .u64 (hiW n), .int .u64 (loW n), .int .u64 0, .int .u64 0], .int .i64 q, .int .i64 t] w fun e w' => e = .returned (.tuple #[.int .i64 0, .bool false]) ∧ Gr w w' := by
  go_enter Tryd.func31, Tryd.ntmps31
  go_wp2_with fail
  refine (rlegal2_zero n q t _).mono ?_
  rintro e wa ⟨rfl, ga⟩
  obtain ⟨ca, fa, sa⟩ := ga.cells
  try simp only [size_drewN] at ca fa sa
  try simp only [World.size_alloc] at ca fa sa
  try simp only [World.size_drew] at ca fa sa
  try simp only [World.size_setCell] at ca fa sa
  have za0 : w.heap.size < wa.heap.size := by omega
  have ya0 : w.heap.size ≤ wa.heap.size := by omega
  have ka0 := fun o => ca (w.heap.size) o (by omega)
  have ja0 := fun o => fa (w.heap.size) o (by omega)
  go_wp2_with fail
  go_ret2
  refine ⟨rfl, ?_⟩
  repeat (first | exact Gr.refl _ | apply Gr.alloc | apply Gr.drew | apply Gr.drewN | (refine Gr.setCell ?_ (by simp) _) | (refine Gr.trans ?_ (by assumption)))

set_option maxHeartbeats 800000 in
theorem rshare_any (n d q t : Int) (w : World) (hn : Wide n) (hd : Wide d) (h0 : 0 < d) (hq : 0 ≤ q) (hq' : q ≤ 4294967296) (ht : 1 ≤ t) (ht' : t ≤ 4294967296) (h1 : Wide (n * t + d * q)) (h2 : Wide (d * t)) :
    Calls Tryd.prog 30 #[.agg #[.int .u64 (hiW n), .int .u64 (loW n), .int .u64 (hiW d), .int .u64 (loW d)], .int .i64 q, .int .i64 t] w fun e w' => e = .returned (.agg #[.int .u64 (hiW (n * t + d * q)), .int .u64 (loW (n * t + d * q)), .int .u64 (hiW (d * t)), .int .u64 (loW (d * t))]) ∧ Gr w w' := by
  go_enter Tryd.func30, Tryd.ntmps30
  go_wp2_with fail
  refine (rplus_any n d q t _ hn hd h0 hq hq' ht ht' h1 h2).mono ?_
  rintro e wa ⟨rfl, ga⟩
  obtain ⟨ca, fa, sa⟩ := ga.cells
  try simp only [size_drewN] at ca fa sa
  try simp only [World.size_alloc] at ca fa sa
  try simp only [World.size_drew] at ca fa sa
  try simp only [World.size_setCell] at ca fa sa
  have za0 : w.heap.size < wa.heap.size := by omega
  have ya0 : w.heap.size ≤ wa.heap.size := by omega
  have ka0 := fun o => ca (w.heap.size) o (by omega)
  have ja0 := fun o => fa (w.heap.size) o (by omega)
  have za1 : w.heap.size + 1 < wa.heap.size := by omega
  have ka1 := fun o => ca (w.heap.size + 1) o (by omega)
  have ja1 := fun o => fa (w.heap.size + 1) o (by omega)
  go_wp2_with fail
  refine bodyPost_ret (v := .agg #[.int .u64 (hiW (n * t + d * q)), .int .u64 (loW (n * t + d * q)), .int .u64 (hiW (d * t)), .int .u64 (loW (d * t))]) (by simp (maxDischargeDepth := 8) [results, Tryd.results30, go_sem, *]) rfl ⟨rfl, ?_⟩
  repeat (first | exact Gr.refl _ | apply Gr.alloc | apply Gr.drew | apply Gr.drewN | (refine Gr.setCell ?_ (by simp) _) | (refine Gr.trans ?_ (by assumption)))

theorem ragainst_shr (p : Int × Int) (q t : Int) (w : World) (hp : Shr p) (hq : 0 ≤ q) (hq' : q ≤ 4294967296) (ht : 1 ≤ t) (ht' : t ≤ 4294967296) :
    Calls Tryd.prog 31 #[partV p, .int .i64 q, .int .i64 t] w fun e w' => e = .returned (.tuple #[.int .i64 (cmpI (p.1 * t) (p.2 * q)), .bool true]) ∧ Gr w w' := by
  obtain ⟨h1, h2, h3, h4⟩ := hp
  have m1 := mul_bd h1 h2 (show 0 ≤ t by omega) ht'
  have m2 := mul_bd (show 0 ≤ p.2 by omega) h4 hq hq'
  exact ragainst_yes p.1 p.2 q t w ⟨h1, by omega⟩ ⟨by omega, by omega⟩ (by omega) hq hq' ht ht' ⟨m1.1, by omega⟩ ⟨m2.1, by omega⟩
end Go.Proofs.YtmookdgeblcjnaaDoor
