/- admit.Drain. -/
import Derived.Test.YtmookdgeblcjnaaDoorK1
import Derived.Test.YtmookdgeblcjnaaDoorH4
import Derived.Test.YtmookdgeblcjnaaDoorD2
namespace Go.Proofs.YtmookdgeblcjnaaDoor
open Go.RowKit

def reqsI (l : List Srv) (n : Int) : Int := sumI (fun s => reqI s n) l
theorem req_line {x : Srv} (hx : Leg x) (n : Int) : reqI x n * x.t ≤ x.q * n + x.q * (2 * x.t) := by
  obtain ⟨_, _, h3, h4, h5⟩ := hx
  have h1 := Int.ediv_mul_le (n + x.t - 1) (show x.t ≠ 0 by omega)
  have h2 : x.q * (upI n x.t * x.t) ≤ x.q * (n + x.t) := Int.mul_le_mul_of_nonneg_left (by unfold upI; omega) (by omega)
  have h6 : 0 ≤ x.q * x.t := Int.mul_nonneg (by omega) (by omega)
  have e1 : upI n x.t * x.q * x.t = x.q * (upI n x.t * x.t) := by rw [Int.mul_comm (upI n x.t) x.q, Int.mul_assoc]
  have e2 : x.q * (n + x.t) = x.q * n + x.q * x.t := Int.mul_add ..
  have e3 : x.q * (2 * x.t) = x.q * x.t + x.q * x.t := by rw [Int.mul_left_comm]; omega
  unfold reqI
  split
  · rw [Int.add_mul, e1, e3]
    omega
  · rw [e1, e3]
    omega
theorem reqs_line (n : Int) : ∀ (l : List Srv), allLeg l = true → (shareS l).2 * reqsI l n ≤ (shareS l).1 * n + (shareS l).2 * (2 * sumQ l) := by
  have key : ∀ (k : Nat) (l : List Srv), l.length = k → allLeg l = true → (shareS l).2 * reqsI l n ≤ (shareS l).1 * n + (shareS l).2 * (2 * sumQ l) ∧ 0 ≤ (shareS l).2 := by
    intro k
    induction k with
    | zero =>
      intro l hl _
      obtain rfl := List.length_eq_zero_iff.1 hl
      simp [shareS, reqsI, sumQ, sumI]
    | succ k ih =>
      intro l hl hal
      obtain ⟨m, x, rfl⟩ : ∃ m x, l = m ++ [x] := by
        have hne : l ≠ [] := fun e => by rw [e] at hl; cases hl
        exact ⟨l.dropLast, l.getLast hne, (List.dropLast_concat_getLast hne).symm⟩
      rw [allLeg_snoc, Bool.and_eq_true] at hal
      obtain ⟨h1, h2⟩ := ih m (by simpa using hl) hal.1
      have hx := (Srv.leg_iff x).1 hal.2
      have h3 := req_line hx n
      obtain ⟨_, _, x3, x4, x5⟩ := hx
      have e1 : reqsI (m ++ [x]) n = reqsI m n + reqI x n := sumI_snoc _ m x
      have e2 : sumQ (m ++ [x]) = sumQ m + x.q := sumI_snoc _ m x
      rw [shareS_snoc, e1, e2]
      simp only [plusP]
      have a1 := Int.mul_le_mul_of_nonneg_left h1 (show 0 ≤ x.t by omega)
      have a2 := Int.mul_le_mul_of_nonneg_left h3 h2
      refine ⟨?_, Int.mul_nonneg h2 (by omega)⟩
      have b1 : (shareS m).2 * x.t * (reqsI m n + reqI x n) = x.t * ((shareS m).2 * reqsI m n) + (shareS m).2 * (reqI x n * x.t) := by
        rw [Int.mul_add, Int.mul_assoc, Int.mul_assoc, Int.mul_comm x.t (reqI x n), Int.mul_left_comm]
      have b2 : ((shareS m).1 * x.t + (shareS m).2 * x.q) * n + (shareS m).2 * x.t * (2 * (sumQ m + x.q)) = x.t * ((shareS m).1 * n + (shareS m).2 * (2 * sumQ m)) + (shareS m).2 * (x.q * n + x.q * (2 * x.t)) := by
        simp only [Int.add_mul, Int.mul_add, Int.mul_assoc, Int.mul_comm, Int.mul_left_comm]
        omega
      rw [b1, b2]
      omega
  intro l hal
  exact (key l.length l rfl hal).1
/-- The servers that fit have a Drain. -/
theorem drain_some {s : Srv} {l : List Srv} (h : kidsErr s l = none) : reqsI l 4096 ≤ givI (rowI s) 4096 := by
  obtain ⟨hp, hs, hl, hb⟩ := kids_parts h
  obtain ⟨hal, h8⟩ := srvErr_none hs
  have hd := reqs_line 4096 l hal
  exact line_beyond (n := 4096) hp (srvErr_shr hs) hl (by omega) hd

set_option maxRecDepth 100000 in
set_option maxHeartbeats 3200000 in
theorem drain_yes {G : List Nat} {E : Nat → Addr} (s : Srv) (a : Option Addr) (l : List Srv) (c : Nat) (w : World) (hE : EAt G E w) (i0 : 0 ∈ G) (i1 : 1 ∈ G) (i3 : 3 ∈ G) (hl : SrvsAt w a l) (hm : l.length ≤ maxLen) (hk : kidsErr s l = none) :
    Calls Tryd.prog 13 #[.agg #[.int .i64 s.k, .int .i64 s.q, .int .i64 s.t], .slice a l.length c] w fun e w' => ∃ d : Nat, e = .returned (.tuple #[.int .i64 d, .nilIface]) ∧ 1 ≤ d ∧ d ≤ 4096 ∧ reqsI l d ≤ givI (rowI s) d ∧ Gr w w' := by
  have hki : ∀ w', Gr w w' → Calls Tryd.prog 10 #[.agg #[.int .i64 s.k, .int .i64 s.q, .int .i64 s.t], .slice a l.length c] w' fun e w'' => e = .returned .nilIface ∧ Gr w' w'' := fun w' g => by
    have := kids_any s a l c w' (hE.gr g) i0 i1 i3 (hl.gr g) hm
    rw [hk] at this
    exact this
  have hds := drain_some hk
  obtain ⟨hp, hs, -, -⟩ := kids_parts hk
  obtain ⟨hal, h8⟩ := srvErr_none hs
  have hrq := fun w' (n : Nat) (hn : n ≤ 4096) (g : Gr w w') => drequests_yes a l c n w' (hl.gr g) (srvErr_chk hs (n := (n : Int)) ⟨by omega, by omega⟩)
  have hbo := fun w' (n : Nat) (hn : n ≤ 4096) => bound_yes s n w' hp (⟨by omega, by omega⟩ : LenOk (n : Int))
  have hrb : ∀ n : Nat, n ≤ 4096 → 0 ≤ reqsI l n ∧ reqsI l n ≤ 8 * (1099511627776 + 512) := fun n hn => by
    have := sumI_bd (fun s => reqI s n) l (1099511627776 + 512) (fun x hx => req_bd ((Srv.leg_iff _).1 (List.all_eq_true.1 hal x hx)) ⟨by omega, by omega⟩)
    have h9 : (l.length : Int) ≤ 8 := by omega
    unfold reqsI
    omega
  have hgb : ∀ n : Nat, n ≤ 4096 → 0 ≤ givI (rowI s) n ∧ givI (rowI s) n ≤ n := fun n hn => ⟨giv_nonneg (rowI_ok hp) _, giv_le (rowI_ok hp) (by omega)⟩
  have hE0 := fun w' (g : Gr w w') => (hE.gr g)
  unfold reqsI at *
  replace hki := Lib.hid hki
  replace hrq := Lib.hid hrq
  replace hbo := Lib.hid hbo
  replace hds := Lib.hid hds
  replace hrb := Lib.hid hrb
  replace hgb := Lib.hid hgb
  replace hk := Lib.hid hk
  replace hp := Lib.hid hp
  replace hs := Lib.hid hs
  replace hal := Lib.hid hal
  go_enter Tryd.func13, Tryd.ntmps13
  go_wp2_with fail
  refine (hki.out _ ((Gr.refl w).alloc _)).mono ?_
  rintro e w1 ⟨rfl, g1⟩
  obtain ⟨c1, f1, s1⟩ := g1.cells
  try simp only [size_drewN] at c1 f1 s1
  try simp only [World.size_alloc] at c1 f1 s1
  try simp only [World.size_drew] at c1 f1 s1
  try simp only [World.size_setCell] at c1 f1 s1
  have z10 : w.heap.size < w1.heap.size := by omega
  have y10 : w.heap.size ≤ w1.heap.size := by omega
  have k10 := fun o => c1 (w.heap.size) o (by omega)
  have j10 := fun o => f1 (w.heap.size) o (by omega)
  go_wp2_with fail
  have gA : Gr w w1 := ((Gr.refl w).alloc _).trans g1
  go_loopw [7] (fun lv wr => ∃ n : Nat, 1 ≤ n ∧ n ≤ 4096 ∧ lv = .int .i64 n ∧ Gr w1 wr) (fun lv _ => 4097 - (intOf lv).toNat)
  case atStart => exact ⟨1, by omega, by omega, rfl, Gr.refl _⟩
  case round =>
    obtain ⟨n, hn1, hn2, rfl, hg⟩ := hrel
    have gall : Gr w wr := gA.trans hg
    obtain ⟨cg, fg, sg⟩ := hg.cells
    have k1 := fun o => cg w.heap.size o (by omega)
    clear cg fg
    have hnt : decide ((n : Int) ≤ 4096) = true := decide_eq_true (by omega)
    obtain ⟨r1, r2⟩ := hrb.out n hn2
    obtain ⟨r3, r4⟩ := hgb.out n hn2
    have hrq1 := hrq.out wr n hn2 gall
    have hbo1 := fun w' => hbo.out w' n hn2
    replace hrq1 := Lib.hid hrq1
    replace hbo1 := Lib.hid hbo1
    by_cases hle : sumI (fun s => reqI s n) l ≤ givI (rowI s) n
    · have hle2 : decide (sumI (fun s => reqI s n) l ≤ givI (rowI s) n) = true := decide_eq_true hle
      obtain ⟨v, hv⟩ : ∃ v, v = sumI (fun s => reqI s n) l := ⟨_, rfl⟩
      obtain ⟨u, hu⟩ : ∃ u, u = givI (rowI s) n := ⟨_, rfl⟩
      rw [← hv] at hrq1 hle2 r1 r2 hle
      rw [← hu] at hbo1 hle2 r3 r4 hle
      replace hv := Lib.hid hv
      replace hu := Lib.hid hu
      go_wp2_with fail
      refine hrq1.out.mono ?_
      rintro e w2 ⟨rfl, g2⟩
      obtain ⟨c2, f2, s2⟩ := g2.cells
      have k2 := fun o => c2 w.heap.size o (by omega)
      clear c2 f2
      go_wp2_with fail
      refine (hbo1.out _).mono ?_
      rintro e w3 ⟨rfl, g3⟩
      go_wp2_with fail
      go_ret2
      exact ⟨n, rfl, hn1, hn2, by rw [← hv.out, ← hu.out]; exact hle, (gall.trans g2).trans g3⟩
    · have hlt : n < 4096 := by
        by_cases h : n < 4096
        · exact h
        · obtain rfl : n = 4096 := by omega
          exact absurd hds.out hle
      have hle2 : decide (sumI (fun s => reqI s n) l ≤ givI (rowI s) n) = false := decide_eq_false hle
      have hle3 : givI (rowI s) n < sumI (fun s => reqI s n) l := by omega
      clear hle
      obtain ⟨v, hv⟩ : ∃ v, v = sumI (fun s => reqI s n) l := ⟨_, rfl⟩
      obtain ⟨u, hu⟩ : ∃ u, u = givI (rowI s) n := ⟨_, rfl⟩
      rw [← hv] at hrq1 hle2 r1 r2 hle3
      rw [← hu] at hbo1 hle2 r3 r4 hle3
      replace hv := Lib.hid hv
      replace hu := Lib.hid hu
      go_wp2_with fail
      refine hrq1.out.mono ?_
      rintro e w2 ⟨rfl, g2⟩
      obtain ⟨c2, f2, s2⟩ := g2.cells
      have k2 := fun o => c2 w.heap.size o (by omega)
      clear c2 f2
      go_wp2_with fail
      refine (hbo1.out _).mono ?_
      rintro e w3 ⟨rfl, g3⟩
      go_wp2_with fail
      go_roundw
      case rel => exact ⟨n + 1, by omega, by omega, by go_num, (hg.trans g2).trans g3⟩
      case measure => simp [intOf]; omega
end Go.Proofs.YtmookdgeblcjnaaDoor
