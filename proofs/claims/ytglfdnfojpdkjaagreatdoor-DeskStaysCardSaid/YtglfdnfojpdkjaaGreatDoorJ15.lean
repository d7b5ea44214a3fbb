/- admit: response, Response of a legal guest; law 12's alive. -/
import Derived.Test.YtglfdnfojpdkjaaGreatDoorJ13
import Derived.Test.YtglfdnfojpdkjaaGreatDoorJ14
import Derived.Test.YtglfdnfojpdkjaaGreatDoorJ1
import Derived.Test.YtglfdnfojpdkjaaGreatDoorJ9
import Derived.Test.YtglfdnfojpdkjaaGreatDoorJ8
namespace Go.Proofs.YtglfdnfojpdkjaaGreatDoor
open Go.RowKit

def untI (l : List Tsk) (i n : Int) : Int := (untP l i n l.length).1 + (untP l i n l.length).2
/-- The least length of 1 to n at which p holds; 0: there is none. -/
def leastI (p : Int → Bool) (n : Nat) : Int := match (List.range n).find? (fun k : Nat => p ((k : Int) + 1)) with
  | some k => (k : Int) + 1
  | none => 0
theorem leastI_at {p : Int → Bool} {n k : Nat} (hk : k < n) (h : p ((k : Int) + 1) = true) (hb : ∀ j, j < k → p ((j : Int) + 1) = false) : leastI p n = (k : Int) + 1 := by
  have : (List.range n).find? (fun k : Nat => p ((k : Int) + 1)) = some k := by
    rw [List.find?_range_eq_some]
    exact ⟨h, List.mem_range.2 hk, fun j hj => by rw [hb j hj]; rfl⟩
  unfold leastI
  rw [this]
theorem leastI_none {p : Int → Bool} {n : Nat} (hb : ∀ j, j < n → p ((j : Int) + 1) = false) : leastI p n = 0 := by
  have : (List.range n).find? (fun k : Nat => p ((k : Int) + 1)) = none := by
    rw [List.find?_eq_none]
    intro k hk
    rw [hb k (List.mem_range.1 hk)]
    decide
  unfold leastI
  rw [this]
/-- A task's response; 0: there is none. -/
def respI (s : Srv) (l : List Tsk) (i : Int) (n : Nat) : Int := leastI (fun x => decide (untI l i x ≤ givI (rowI s) x)) n

set_option maxRecDepth 100000 in
set_option maxHeartbeats 3200000 in
theorem response_any (s : Srv) (a : Option Addr) (l : List Tsk) (c i : Nat) (t : Tsk) (w : World) (h : parOk s = true) (hl : TsksAt w a l) (hok : tasksOk l = true) (ht : l[i]? = some t) :
    Calls Tryz.prog 142 #[.agg #[.int .i64 s.k, .int .i64 s.q, .int .i64 s.t], .slice a l.length c, .int .i64 i] w fun e w' => e = .returned (.tuple #[.int .i64 (respI s l i t.d.toNat), .bool (decide (respI s l i t.d.toNat ≠ 0))]) ∧ Gr w w' := by
  have hlt := legT_mem hok ht
  have hil := get_lt ht
  have h8 := (tasksOk_parts hok).2
  obtain ⟨t1, t2, t3, t4, t5, t6⟩ := hlt
  have hbo := fun (x : Int) (w' : World) (hx : LenOk x) => bound_yes s x w' h hx
  have hun := fun (x : Int) (w' : World) (g : Gr w w') (hx : LenOk x) => until_yes a l c i x w' (hl.gr g) hok hx (by omega) (by omega)
  obtain ⟨r, hr⟩ : ∃ r, r = respI s l i t.d.toNat := ⟨_, rfl⟩
  rw [← hr]
  replace hr := Lib.hid hr
  replace hbo := Lib.hid hbo
  replace hun := Lib.hid hun
  replace h := Lib.hid h
  replace hok := Lib.hid hok
  go_enter Tryz.func142, Tryz.ntmps142
  go_wp2_with fail
  go_loopw [8] (fun lv wr => ∃ k : Nat, (k : Int) ≤ t.d ∧ lv = .int .i64 ((k : Int) + 1) ∧ (∀ j, j < k → (fun x => decide (untI l i x ≤ givI (rowI s) x)) ((j : Int) + 1) = false) ∧ Gr (w.alloc (.cells #[.int .i64 s.k, .int .i64 s.q, .int .i64 s.t] 24)) wr) (fun lv _ => t.d.toNat + 1 - (intOf lv).toNat)
  case atStart => exact ⟨0, by omega, rfl, (fun j hj => by omega), Gr.refl _⟩
  case round =>
    obtain ⟨k, hk, rfl, hbf, hg⟩ := hrel
    have gall : Gr w wr := ((Gr.refl w).alloc _).trans hg
    obtain ⟨cg, fg, sg⟩ := hg.cells
    simp only [World.size_alloc] at cg fg sg
    have k1 := fun o => cg w.heap.size o (by omega)
    clear cg fg
    obtain ⟨b, off, rfl, hb, d0, d1, d2, d3⟩ := (hl.gr gall) i t ht
    replace hbf := Lib.hid hbf
    replace ht := Lib.hid ht
    by_cases hlt : (k : Int) < t.d
    · have hlo : LenOk ((k : Int) + 1) := ⟨by omega, by omega⟩
      have hu := hun.out ((k : Int) + 1) wr gall hlo
      have hbb := hbo.out ((k : Int) + 1)
      obtain ⟨u, hu2⟩ : ∃ u, u = untI l i ((k : Int) + 1) := ⟨_, rfl⟩
      rw [show (untP l i ((k : Int) + 1) l.length).1 + (untP l i ((k : Int) + 1) l.length).2 = untI l i ((k : Int) + 1) from rfl, ← hu2] at hu
      by_cases hfit : u ≤ givI (rowI s) ((k : Int) + 1)
      · have hres : respI s l i t.d.toNat = (k : Int) + 1 := leastI_at (by omega) (decide_eq_true (by rw [← hu2]; exact hfit)) (fun j hj => hbf.out j hj)
        replace hres := Lib.hid hres
        replace hu2 := Lib.hid hu2
        replace hu := Lib.hid hu
        replace hbb := Lib.hid hbb
        replace hlo := Lib.hid hlo
        go_wp2_with fail
        refine hu.out.mono ?_
        rintro e w2 ⟨rfl, g2⟩
        obtain ⟨c2, f2, s2⟩ := g2.cells
        have k2 := fun o => c2 w.heap.size o (by omega)
        clear c2 f2
        go_wp2_with fail
        refine (hbb.out _ hlo.out).mono ?_
        rintro e w3 ⟨rfl, g3⟩
        go_wp2_with fail
        go_ret2
        exact ⟨by rw [hr.out, hres.out, decide_eq_true (by omega)]; rfl, (gall.trans g2).trans g3⟩
      · have hfit2 : givI (rowI s) ((k : Int) + 1) < u := by omega
        have hnext : ∀ j, j < k + 1 → (fun x => decide (untI l i x ≤ givI (rowI s) x)) ((j : Int) + 1) = false := fun j hj => by
          by_cases hjk : j = k
          · rw [hjk]; exact decide_eq_false (by rw [← hu2]; exact hfit)
          · exact hbf.out j (by omega)
        replace hnext := Lib.hid hnext
        replace hu2 := Lib.hid hu2
        replace hu := Lib.hid hu
        replace hbb := Lib.hid hbb
        replace hlo := Lib.hid hlo
        clear hfit
        go_wp2_with fail
        refine hu.out.mono ?_
        rintro e w2 ⟨rfl, g2⟩
        obtain ⟨c2, f2, s2⟩ := g2.cells
        have k2 := fun o => c2 w.heap.size o (by omega)
        clear c2 f2
        go_wp2_with fail
        refine (hbb.out _ hlo.out).mono ?_
        rintro e w3 ⟨rfl, g3⟩
        go_wp2_with fail
        go_roundw
        case rel => exact ⟨k + 1, by omega, by go_num, hnext.out, (hg.trans g2).trans g3⟩
        case measure => simp [intOf]; omega
    · have hres : respI s l i t.d.toNat = 0 := leastI_none (fun j hj => hbf.out j (by omega))
      replace hres := Lib.hid hres
      go_wp2_with fail
      go_ret2
      exact ⟨by rw [hr.out, hres.out]; rfl, gall⟩

/-- Response of a legal guest's task. -/
def respV (E : Nat → Addr) (r : Int) : Value := if r = 0 then .tuple #[.int .i64 0, (Value.iface 258 (.pointer (some (E 5))))] else .tuple #[.int .i64 r, .nilIface]
abbrev wh : Srv := ⟨0, 0, 0⟩
theorem kids_al1 : kidsErr wh [⟨1, 1, 2⟩, ⟨1, 1, 3⟩] = none := by
  have hb : belowB wh (stepsL [⟨1, 1, 2⟩, ⟨1, 1, 3⟩] 4096) (demI [⟨1, 1, 2⟩, ⟨1, 1, 3⟩]) = true := by
    unfold belowB
    rw [List.all_eq_true]
    intro x hx
    have := stepsL_ok _ _ x hx
    refine decide_eq_true ?_
    have e1 : demI [⟨1, 1, 2⟩, ⟨1, 1, 3⟩] x = x / 2 * 1 + x / 3 * 1 := by simp [demI, sumI, askedI]
    have e2 : givI (rowI wh) x = x := by
      simp [givI, rowI, givM, whole]
      omega
    rw [e1, e2]
    omega
  have h1 : parOk wh = true := by decide
  have h2 : srvErr [⟨1, 1, 2⟩, ⟨1, 1, 3⟩] = none := by decide
  have h3 : lineB wh (shareS [⟨1, 1, 2⟩, ⟨1, 1, 3⟩]) (2 * sumQ [⟨1, 1, 2⟩, ⟨1, 1, 3⟩]) = true := by decide
  unfold kidsErr kidsB
  rw [if_neg (by rw [h1]; decide), h2, h3, hb]
  rfl
theorem kids_al2 : kidsErr wh [⟨1, 1, 2⟩, ⟨2, 1, 2⟩] = some 5 := by
  have h1 : parOk wh = true := by decide
  have h2 : srvErr [⟨1, 1, 2⟩, ⟨2, 1, 2⟩] = none := by decide
  have h3 : lineB wh (shareS [⟨1, 1, 2⟩, ⟨2, 1, 2⟩]) (2 * sumQ [⟨1, 1, 2⟩, ⟨2, 1, 2⟩]) = false := by decide
  unfold kidsErr kidsB
  rw [if_neg (by rw [h1]; decide), h2, h3]
  rfl
theorem resp_al : respI ⟨3, 5, 10⟩ [⟨1, 20, 20, 1⟩] (0 : Nat) (20 : Int).toNat = 11 := by decide +kernel
end Go.Proofs.YtglfdnfojpdkjaaGreatDoor
/- AdmitHalf: the plain law. -/
namespace Go.Proofs.YtglfdnfojpdkjaaGreatDoor
open Go.RowKit

theorem cmpI_neg {x y : Int} (h : x < y) : cmpI x y < 0 := by unfold cmpI; rw [if_pos h]; decide
theorem cmpI_le {x y : Int} (h : x ≤ y) : cmpI x y ≤ 0 := by
  unfold cmpI
  by_cases h1 : x < y
  · rw [if_pos h1]; decide
  · rw [if_neg h1, if_neg (by omega)]; decide
theorem whole_row {s : Srv} (h : whole s = true) : rowI s = ⟨0, 1, 1⟩ := by unfold rowI; rw [if_pos h]
theorem whole_iff {s : Srv} : whole s = true ↔ s.k = 0 ∧ s.q = 0 ∧ s.t = 0 := by unfold whole; exact decide_eq_true_iff
theorem par_leg {s : Srv} (h : parOk s = true) (hw : whole s = false) : Leg s := by
  unfold parOk at h
  rw [hw, Bool.false_or] at h
  exact (Srv.leg_iff s).1 h
theorem leg_row {s : Srv} (hw : whole s = false) : (rowI s).q = s.q ∧ (rowI s).t = s.t ∧ ((rowI s).gap = s.t - s.q ∨ (rowI s).gap = s.t - 1) := by
  unfold rowI
  rw [if_neg (by rw [hw]; decide)]
  split
  · exact ⟨rfl, rfl, .inl rfl⟩
  · exact ⟨rfl, rfl, .inr rfl⟩
theorem wiC_whole {s : Srv} (p : Int × Int) (h : parOk s = true) (hw : whole s = true) : wiC none p s = cmpI p.1 p.2 := by
  unfold wiC
  rw [if_pos (by rw [wiB_par]; exact h), if_pos (whole_iff.1 hw)]
theorem wiC_leg {s : Srv} (p : Int × Int) (h : parOk s = true) (hw : whole s = false) : wiC none p s = cmpI (p.1 * s.t) (p.2 * s.q) := by
  unfold wiC
  rw [if_pos (by rw [wiB_par]; exact h), if_neg (fun hh => by rw [whole_iff.2 hh] at hw; cases hw)]
theorem kids_of {s : Srv} {l : List Srv} (h : parOk s = true) (hs : srvErr l = none) (h1 : lineB s (shareS l) (2 * sumQ l) = true) (h2 : belowB s (stepsL l 4096) (demI l) = true) : kidsErr s l = none := by
  unfold kidsErr kidsB
  rw [if_neg (by rw [h]; decide), hs, h1, h2]
  rfl
theorem kids_tight {s : Srv} {l : List Srv} (h : parOk s = true) (hs : srvErr l = none) (hc : ¬ wiC none (shareS l) s < 0) : kidsErr s l = some 5 := by
  unfold kidsErr kidsB lineB
  rw [if_neg (by rw [h]; decide), hs, decide_eq_false hc]
  rfl
theorem kids_nil {s : Srv} (h : parOk s = true) : kidsErr s [] = none := by
  have hr := rowI_ok h
  have q1 := hr.q1
  have g0 := hr.g0
  have g1 := hr.g1
  have t2 := hr.t2
  have qt := hr.qt
  refine kids_of h (by decide) ?_ ?_
  · unfold lineB
    rw [show shareS [] = (0, 1) from rfl, show sumQ [] = 0 from rfl]
    have h1 : wiC none ((0, 1) : Int × Int) s < 0 := by
      cases hw : whole s with
      | true => rw [wiC_whole _ h hw]; exact cmpI_neg (by decide)
      | false =>
        rw [wiC_leg _ h hw]
        have := (par_leg h hw).2.2.1
        exact cmpI_neg (by dsimp only; omega)
    rw [decide_eq_true h1, decide_eq_true (cmpI_le _)]
    · rfl
    · have := Int.mul_nonneg (show 0 ≤ (rowI s).q by omega) (show 0 ≤ 4096 - silI (rowI s) by unfold silI; omega)
      dsimp only
      omega
  · have h0 : ∀ n, stepsL [] n = [] := by
      intro n
      induction n with
      | zero => rfl
      | succ n ih => rw [stepsL, ih]; rfl
    unfold belowB
    rw [h0]
    rfl

theorem small_low {r : Row} (hr : RowOk r) {x t' : Int} (hx : 0 ≤ x) (h1 : 2 * r.t ≤ t') : x / t' ≤ givI r x := by
  have q1 := hr.q1
  have qt := hr.qt
  have g1 := hr.g1
  have hn := Int.ediv_mul_le x (show t' ≠ 0 by omega)
  have hn0 := Int.ediv_nonneg hx (show 0 ≤ t' by omega)
  obtain ⟨n, hnn⟩ : ∃ n, n = x / t' := ⟨_, rfl⟩
  rw [← hnn] at hn hn0 ⊢
  by_cases h0 : n = 0
  · rw [h0]; exact giv_nonneg hr x
  · have h2 : n * (2 * r.t) ≤ n * t' := Int.mul_le_mul_of_nonneg_left h1 hn0
    have h3 : n * (2 * r.t) = 2 * (n * r.t) := by rw [← Int.mul_assoc, Int.mul_comm n 2, Int.mul_assoc]
    have h4 : 1 * r.t ≤ n * r.t := Int.mul_le_mul_of_nonneg_right (by omega) (by omega)
    rw [Int.one_mul] at h4
    unfold givI
    rw [if_neg (by omega)]
    have h5 : 2 * n - 1 ≤ (x - r.gap) / r.t := by
      refine Int.le_ediv_of_mul_le (by omega) ?_
      rw [Int.sub_mul, Int.mul_assoc, Int.one_mul]
      omega
    obtain ⟨y, u, hy, y0, u0, u1, e1, e2⟩ := givM_parts hr (show 0 ≤ x - r.gap by omega)
    unfold givM
    rw [e1] at h5 ⊢
    have h6 : y * 1 ≤ y * r.q := Int.mul_le_mul_of_nonneg_left q1 y0
    omega
theorem kids_small {s : Srv} {t' : Int} (h : parOk s = true) (t1 : 64 ≤ t') (t2 : t' ≤ 256) (hc : whole s = true ∨ (s.t ≤ 32 ∧ 4 * s.t ≤ s.q * t')) : kidsErr s [⟨1, 1, t'⟩] = none := by
  have hr := rowI_ok h
  have hse : srvErr [⟨1, 1, t'⟩] = none := by
    have hl : allLeg [⟨1, 1, t'⟩] = true := by
      have : (Srv.mk 1 1 t').leg = true := (Srv.leg_iff _).2 ⟨by dsimp only; omega, by dsimp only; omega, by dsimp only; omega, by dsimp only; omega, by dsimp only; omega⟩
      simp [allLeg, this]
    unfold srvErr
    rw [if_neg (by rw [hl]; decide), if_neg (by simp)]
  have hsh : shareS [⟨1, 1, t'⟩] = (1, t') := by simp [shareS, plusP]
  have hsq : sumQ [⟨1, 1, t'⟩] = 1 := rfl
  have hdem : ∀ x, demI [⟨1, 1, t'⟩] x = x / t' := fun x => by simp [demI, sumI, askedI]
  refine kids_of h hse ?_ ?_
  · rw [hsh, hsq]
    unfold lineB
    cases hw : whole s with
    | true =>
      have h1 : wiC none (1, t') s < 0 := by rw [wiC_whole _ h hw]; exact cmpI_neg (by dsimp only; omega)
      rw [decide_eq_true h1, whole_row hw, decide_eq_true (cmpI_le _)]
      · rfl
      · simp [silI]; omega
    | false =>
      obtain ⟨l1, l2, l3, l4, l5⟩ := par_leg h hw
      obtain ⟨e1, e2, e3⟩ := leg_row hw
      rcases hc with hc | ⟨c1, c2⟩
      · rw [hw] at hc; cases hc
      · have hcomm := Int.mul_comm t' s.q
        have h1 : wiC none (1, t') s < 0 := by rw [wiC_leg _ h hw]; exact cmpI_neg (by dsimp only; omega)
        rw [decide_eq_true h1, decide_eq_true (cmpI_le _)]
        · rfl
        · unfold silI
          rw [e1, e2]
          dsimp only
          have b1 : (1 * 4096 + t' * (2 * 1)) * s.t ≤ 4608 * s.t := Int.mul_le_mul_of_nonneg_right (by omega) (by omega)
          have b2 : t' * (s.q * (4096 - ((rowI s).gap + s.t - s.q))) = s.q * t' * (4096 - ((rowI s).gap + s.t - s.q)) := by rw [← Int.mul_assoc, hcomm]
          have b3 : 4 * s.t * 4032 ≤ s.q * t' * (4096 - ((rowI s).gap + s.t - s.q)) := Int.mul_le_mul c2 (by omega) (by decide) (by omega)
          omega
  · unfold belowB
    rw [List.all_eq_true]
    intro x hx
    have hx1 := stepsL_ok _ _ x hx
    refine decide_eq_true ?_
    rw [hdem]
    cases hw : whole s with
    | true =>
      have := Int.ediv_le_self t' (show 0 ≤ x by omega)
      rw [whole_row hw]
      simp [givI, givM]
      omega
    | false =>
      obtain ⟨e1, e2, e3⟩ := leg_row hw
      rcases hc with hc | ⟨c1, c2⟩
      · rw [hw] at hc; cases hc
      · exact small_low hr (by omega) (by rw [e2]; omega)
end Go.Proofs.YtglfdnfojpdkjaaGreatDoor
/- Blocks known whole: they lie in G1. -/
namespace Go.Proofs.YtglfdnfojpdkjaaGreatDoor
end Go.Proofs.YtglfdnfojpdkjaaGreatDoor
/- Law 12: alive; AdmitHalf's walk. -/
namespace Go.Proofs.YtglfdnfojpdkjaaGreatDoor
open Go.RowKit

theorem two_srvs (W : World) (x y : Srv) : SrvsAt (W.alloc (.cells #[.int .i64 x.k, .int .i64 x.q, .int .i64 x.t, .int .i64 y.k, .int .i64 y.q, .int .i64 y.t] 24)) (some ⟨W.heap.size, 0, none⟩) [x, y] :=
  recs_srvs (recs_alloc Srv.cells_len W [x, y] _ _ rfl)
theorem one_srv (W : World) (x : Srv) : SrvsAt (W.alloc (.cells #[.int .i64 x.k, .int .i64 x.q, .int .i64 x.t] 24)) (some ⟨W.heap.size, 0, none⟩) [x] :=
  recs_srvs (recs_alloc Srv.cells_len W [x] _ _ rfl)
theorem one_tsk (W : World) (x : Tsk) : TsksAt (W.alloc (.cells #[.int .i64 x.c, .int .i64 x.p, .int .i64 x.d, .int .i64 x.s] 115)) (some ⟨W.heap.size, 0, none⟩) [x] :=
  recs_tsks (recs_alloc Tsk.cells_len W [x] _ _ rfl)

theorem rlegal10_any (s : Srv) (w : World) :
    Calls Tryz.prog 66 #[.agg #[.int .i64 s.k, .int .i64 s.q, .int .i64 s.t]] w fun e w' => e = .returned (.bool (parOk s)) ∧ Gr w w' := by
  have hs := fun w => srv_eql s ⟨0, 0, 0⟩ w
  dsimp only at hs
  rw [show decide (s.k = 0 ∧ s.q = 0 ∧ s.t = 0) = whole s from rfl] at hs
  have hl := rlegal_any s
  unfold parOk
  cases hw : whole s with
  | true =>
    rw [hw] at hs
    replace hw := Lib.hid hw
    replace hl := Lib.hid hl
    go_enter Tryz.func66, Tryz.ntmps66
    go_wp2_with fail
    go_ret
    exact ⟨rfl, (by repeat (first | exact Gr.refl _ | apply Gr.alloc | apply Gr.drew | apply Gr.drewN | (refine Gr.setCell ?_ (by first | (simp; done) | (simp; omega)) _) | (refine Gr.trans ?_ (by assumption))))⟩
  | false =>
    rw [hw] at hs
    rw [Bool.false_or]
    replace hw := Lib.hid hw
    replace hl := Lib.hid hl
    go_enter Tryz.func66, Tryz.ntmps66
    go_wp2_with fail
    refine (hl.out _).mono ?_
    rintro e wa ⟨rfl, ga⟩
    obtain ⟨ca, fa, sa⟩ := ga.cells
    try simp only [size_drewN] at ca fa sa
    try simp only [World.size_alloc] at ca fa sa
    try simp only [World.size_drew] at ca fa sa
    try simp only [World.size_setCell] at ca fa sa
    have za0 : w.heap.size < wa.heap.size := by omega
    have ya0 : w.heap.size ≤ wa.heap.size := by omega
    have ka0 := fun o => ca (w.heap.size) o (by omega)
    have ja0 := fun o => fa (w.heap.size) o (by omega)
    go_wp2_with fail
    go_ret
    exact ⟨rfl, (by repeat (first | exact Gr.refl _ | apply Gr.alloc | apply Gr.drew | apply Gr.drewN | (refine Gr.setCell ?_ (by first | (simp; done) | (simp; omega)) _) | (refine Gr.trans ?_ (by assumption))))⟩

end Go.Proofs.YtglfdnfojpdkjaaGreatDoor
