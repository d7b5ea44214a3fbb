/- almonerref12: slope, line, Kids where servers fit. Printed by gen_u5.py. -/
import Derived.Test.YtanfgipanfjcoaaGreatDoorJ17
import Derived.Test.YtanfgipanfjcoaaGreatDoorJ9
import Derived.Test.YtanfgipanfjcoaaGreatDoorJ10
import Derived.Test.YtanfgipanfjcoaaGreatDoorJ16
import Derived.Deep.DeepCutAuto
namespace Go.Proofs.YtanfgipanfjcoaaGreatDoor
open Go.RowKit

theorem of12_any (n : Int) (w : World) (h0 : 0 ≤ n) (h1 : n ≤ 9223372036854775807) : Calls Tryz.prog 83 #[.int .i64 n] w (BigP n 4 4 w) := by
  have ew : IntKind.u64.wrap n = n := by rw [IntKind.wrap_u64]; omega
  have hb := fun w' => bof_any n w' h0 (by omega)
  replace hb := Lib.hid hb
  go_enter Tryz.func83, Tryz.ntmps83
  go_wp2_with fail
  refine (hb.out _).mono ?_
  rintro e w1 ⟨rfl, hr, g⟩
  replace hr := Lib.hid hr
  go_wp2_with fail
  go_ret
  exact ⟨digs4 n, _, 4, rfl, digs4_val n, digs4_dig h0 (by omega), Nat.le_refl _, Nat.le_refl _, hr.out, fun h => (by cases h), ⟨Nat.le_refl _, by unfold maxLen; decide⟩, g⟩
theorem at10_all (s : Srv) (i : Int) (w : World) (hp : parOk s = true) (i0 : 0 ≤ i) (i1 : i ≤ 1099511627776) :
    Calls Tryz.prog 42 #[.agg #[.int .i64 s.k, .int .i64 s.q, .int .i64 s.t], .int .i64 i] w fun e w' => e = .returned (.bool (atI (rowI s) i)) ∧ Gr w w' := by
  cases hw : whole s with
  | false => exact at10_any s i w hp hw i0 i1
  | true =>
    have hk : (s.k == 0) = true := by simpa using (whole_k hp).2 hw
    have ha : atI (rowI s) i = true := by
      rw [whole_row hw]
      unfold atI
      dsimp only
      rw [decide_eq_true i0, decide_eq_true (by omega)]
      rfl
    rw [ha]
    replace hw := Lib.hid hw
    replace hp := Lib.hid hp
    replace ha := Lib.hid ha
    go_enter Tryz.func42, Tryz.ntmps42
    go_wp2_with fail
    go_ret
    exact ⟨rfl, (by repeat (first | exact Gr.refl _ | apply Gr.alloc | apply Gr.drew | apply Gr.drewN | (refine Gr.setCell ?_ (by first | (simp; done) | (simp; omega)) _) | (refine Gr.trans ?_ (by assumption))))⟩
set_option maxRecDepth 100000 in
set_option maxHeartbeats 1600000 in
theorem slope12_any (s : Srv) (w : World) (hp : parOk s = true) :
    Calls Tryz.prog 79 #[.agg #[.int .i64 s.k, .int .i64 s.q, .int .i64 s.t]] w fun e w' => e = .returned (.tuple #[.int .i64 (rowI s).q, .int .i64 (rowI s).t, .int .i64 (silI (rowI s))]) ∧ Gr w w' := by
  cases hw : whole s with
  | true =>
    have hk : (s.k == 0) = true := by simpa using (whole_k hp).2 hw
    rw [whole_row hw]
    replace hw := Lib.hid hw
    replace hp := Lib.hid hp
    go_enter Tryz.func79, Tryz.ntmps79
    go_wp2_with fail
    refine bodyPost_ret (v := .tuple #[.int .i64 1, .int .i64 1, .int .i64 0]) (by simp [results, Tryz.results79, go_sem]) rfl ⟨rfl, ?_⟩
    repeat (first | exact Gr.refl _ | apply Gr.alloc | apply Gr.drew | apply Gr.drewN | (refine Gr.setCell ?_ (by simp) _) | (refine Gr.trans ?_ (by assumption)))
  | false =>
    have hs : Leg s := by
      unfold parOk at hp
      rw [hw, Bool.false_or] at hp
      exact (Srv.leg_iff _).1 hp
    have hgap := fun w => gap10_any s w hs (leg_gap hw)
    obtain ⟨e1, e2, _⟩ := leg_row hw
    obtain ⟨g0, g1, q1, qt, t2⟩ := rowI_ok hp
    obtain ⟨h1, h2, h3, h4, h5⟩ := hs
    have hk0 : (s.k == 0) = false := by simpa using (by omega : ¬ s.k = 0)
    unfold silI
    rw [e1, e2] at *
    generalize (rowI s).gap = gp at *
    have w1 : IntKind.i64.wrap (gp + s.t) = gp + s.t := by rw [IntKind.wrap_i64]; omega
    have w2 : IntKind.i64.wrap (gp + s.t - s.q) = gp + s.t - s.q := by rw [IntKind.wrap_i64]; omega
    replace hgap := Lib.hid hgap
    replace hp := Lib.hid hp
    replace hw := Lib.hid hw
    replace e1 := Lib.hid e1
    replace e2 := Lib.hid e2
    obtain ⟨W, hW⟩ : ∃ W, W = w.alloc (.cells #[.int .i64 s.k, .int .i64 s.q, .int .i64 s.t] 29) := ⟨_, rfl⟩
    have gW : Gr w W := by rw [hW]; exact (Gr.refl w).alloc _
    have hB : Blk W w.heap.size #[.int .i64 s.k, .int .i64 s.q, .int .i64 s.t] 29 := by rw [hW]; exact Blk.new w _ _
    have b0 := hB.cell (i := 0) (v := .int .i64 s.k) rfl
    have b1 := hB.cell (i := 1) (v := .int .i64 s.q) rfl
    have b2 := hB.cell (i := 2) (v := .int .i64 s.t) rfl
    replace hW := Lib.hid hW
    replace hB := Lib.hid hB
    go_enter Tryz.func79, Tryz.ntmps79
    go_upto_region 1 with fail
    rw [← hW.out]
    go_upto_region 3 with fail
    go_region_held3 (fun w' => w'.cell? ⟨w.heap.size, 0, none⟩ = some (.int .i64 s.k) ∧ w'.cell? ⟨w.heap.size, 1, none⟩ = some (.int .i64 s.q) ∧ w'.cell? ⟨w.heap.size, 2, none⟩ = some (.int .i64 s.t)) (simp (maxDischargeDepth := 8) [go_sem, *])
      (first
        | (go_at_call 85; (with_reducible refine (hgap.out _).mono ?_); rintro e wx ⟨rfl, gx⟩; have gq : Gr W wx := ((Gr.refl W).drew).trans gx; have hBx := hB.out.gr gq; have x0 := hBx.cell (i := 0) (v := .int .i64 s.k) rfl; have x1 := hBx.cell (i := 1) (v := .int .i64 s.q) rfl; have x2 := hBx.cell (i := 2) (v := .int .i64 s.t) rfl; replace hBx := Lib.hid hBx)
        | fail)
    go_wp2_with fail
    refine bodyPost_ret (v := .tuple #[.int .i64 s.q, .int .i64 s.t, .int .i64 (gp + s.t - s.q)]) (by simp [results, Tryz.results79, go_sem]) rfl ⟨rfl, gW.trans gq⟩
set_option maxRecDepth 100000 in
set_option maxHeartbeats 6400000 in
theorem line12_ok (s : Srv) (p : Int × Int) (more : Int) (w : World) (hp : parOk s = true) (hsh : Shr p) (m0 : 0 ≤ more) (m1 : more ≤ 4096) (h : lineB s p more = true) :
    Calls Tryz.prog 41 #[.agg #[.int .i64 s.k, .int .i64 s.q, .int .i64 s.t], .agg #[.int .u64 (hiW p.1), .int .u64 (loW p.1), .int .u64 (hiW p.2), .int .u64 (loW p.2)], .int .i64 more] w fun e w' => e = .returned (.bool true) ∧ Gr w w' := by
  have hsl := fun w' => slope12_any s w' hp
  obtain ⟨g0, g1, q1, qt, t2⟩ := rowI_ok hp
  have hA : p.1 * (rowI s).t < p.2 * (rowI s).q ∧ (p.1 * 4096 + p.2 * more) * (rowI s).t ≤ p.2 * ((rowI s).q * (4096 - silI (rowI s))) := by
    unfold lineB at h
    rw [Bool.and_eq_true] at h
    refine ⟨?_, cmpI_le_iff.1 (of_decide_eq_true h.2)⟩
    have h1 := of_decide_eq_true h.1
    cases hw : whole s with
    | true =>
      rw [wiC_whole p hp hw] at h1
      rw [whole_row hw]
      have := cmpI_neg_iff.1 h1
      dsimp only
      omega
    | false =>
      rw [wiC_leg p hp hw] at h1
      obtain ⟨e1, e2, _⟩ := leg_row hw
      rw [e1, e2]
      exact cmpI_neg_iff.1 h1
  have hd0 : 0 ≤ silI (rowI s) ∧ silI (rowI s) ≤ 510 := by unfold silI; omega
  generalize hq : (rowI s).q = q at *
  generalize ht : (rowI s).t = t at *
  generalize hdd : silI (rowI s) = dd at *
  obtain ⟨hA1, hA2⟩ := hA
  obtain ⟨dd0, dd1⟩ := hd0
  have hn1 : Wide p.1 := ⟨hsh.1, by have := hsh.2.1; omega⟩
  have hn2 : Wide p.2 := ⟨by have := hsh.2.2.1; omega, by have := hsh.2.2.2; omega⟩
  have qb : 0 ≤ q * (4096 - dd) ∧ q * (4096 - dd) ≤ 256 * 4096 := mul_bd (by omega) (by omega) (by omega) (by omega)
  have w1 : IntKind.i64.wrap (4096 - dd) = 4096 - dd := by rw [IntKind.wrap_i64]; omega
  have w2 : IntKind.i64.wrap (q * (4096 - dd)) = q * (4096 - dd) := by rw [IntKind.wrap_i64]; omega
  have tl : ¬ 4096 - dd < 0 := by omega
  have tlb : decide (4096 - dd < 0) = false := decide_eq_false tl
  obtain ⟨W, hW⟩ : ∃ W, W = (w.alloc (.cells #[.int .i64 s.k, .int .i64 s.q, .int .i64 s.t] 29)).alloc (.cells #[.int .u64 (hiW p.1), .int .u64 (loW p.1), .int .u64 (hiW p.2), .int .u64 (loW p.2)] 81) := ⟨_, rfl⟩
  have gW : Gr w W := by rw [hW]; exact ((Gr.refl w).alloc _).alloc _
  have hB : Blk W w.heap.size #[.int .i64 s.k, .int .i64 s.q, .int .i64 s.t] 29 := by rw [hW]; exact (Blk.new w _ _).alloc _
  have hP : Blk W (w.heap.size + 1) #[.int .u64 (hiW p.1), .int .u64 (loW p.1), .int .u64 (hiW p.2), .int .u64 (loW p.2)] 81 := by
    rw [hW]
    have := Blk.new (w.alloc (.cells #[.int .i64 s.k, .int .i64 s.q, .int .i64 s.t] 29)) #[.int .u64 (hiW p.1), .int .u64 (loW p.1), .int .u64 (hiW p.2), .int .u64 (loW p.2)] 81
    rw [World.size_alloc] at this
    exact this
  have b0 := hB.cell (i := 0) (v := .int .i64 s.k) rfl
  have b1 := hB.cell (i := 1) (v := .int .i64 s.q) rfl
  have b2 := hB.cell (i := 2) (v := .int .i64 s.t) rfl
  replace hW := Lib.hid hW
  replace hB := Lib.hid hB
  replace hP := Lib.hid hP
  replace hsl := Lib.hid hsl
  replace hp := Lib.hid hp
  replace hq := Lib.hid hq
  replace ht := Lib.hid ht
  replace hdd := Lib.hid hdd
  replace h := Lib.hid h
  replace hA1 := Lib.hid hA1
  replace hA2 := Lib.hid hA2
  replace hsh := Lib.hid hsh
  replace hn1 := Lib.hid hn1
  replace hn2 := Lib.hid hn2
  go_enter Tryz.func41, Tryz.ntmps41
  go_upto_region 1 with fail
  rw [← hW.out]
  go_wp2_with fail
  refine (hsl.out W).mono ?_
  rintro e w0 ⟨rfl, gs⟩
  clear b0 b1 b2
  have hP0 := hP.out.gr gs
  have p0 := hP0.cell (i := 0) (v := .int .u64 (hiW p.1)) rfl
  have p1 := hP0.cell (i := 1) (v := .int .u64 (loW p.1)) rfl
  have p2 := hP0.cell (i := 2) (v := .int .u64 (hiW p.2)) rfl
  have p3 := hP0.cell (i := 3) (v := .int .u64 (loW p.2)) rfl
  replace hP0 := Lib.hid hP0
  go_upto_region 2 with fail
  go_region_held3 (fun w' => w'.cell? ⟨w.heap.size + 1, 0, none⟩ = some (.int .u64 (hiW p.1)) ∧ w'.cell? ⟨w.heap.size + 1, 1, none⟩ = some (.int .u64 (loW p.1)) ∧ w'.cell? ⟨w.heap.size + 1, 2, none⟩ = some (.int .u64 (hiW p.2)) ∧ w'.cell? ⟨w.heap.size + 1, 3, none⟩ = some (.int .u64 (loW p.2))) (simp (maxDischargeDepth := 8) [go_sem, *])
    (first
      | (go_at_call 80; (with_reducible refine (rof_any p.1 _ hn1.out).mono ?_); rintro e wa ⟨dn, an, cn, rfl, vn, iN, ln, mn, rn, -, -, gn⟩; have gan : Gr w0 wa := ((Gr.refl w0).drew).trans gn; have hPa := hP0.out.gr gan; have q0 := hPa.cell (i := 0) (v := .int .u64 (hiW p.1)) rfl; have q1 := hPa.cell (i := 1) (v := .int .u64 (loW p.1)) rfl; have q2 := hPa.cell (i := 2) (v := .int .u64 (hiW p.2)) rfl; have q3 := hPa.cell (i := 3) (v := .int .u64 (loW p.2)) rfl; replace hPa := Lib.hid hPa; replace vn := Lib.hid vn; replace iN := Lib.hid iN; replace rn := Lib.hid rn)
      | (go_at_call 80; (with_reducible refine (rof_any p.2 _ hn2.out).mono ?_); rintro e wb ⟨dm, am, cm, rfl, vm, im, lm, mm, rm, -, -, gm⟩; have hPb := hPa.out.gr gm; have o0 := hPb.cell (i := 0) (v := .int .u64 (hiW p.1)) rfl; have o1 := hPb.cell (i := 1) (v := .int .u64 (loW p.1)) rfl; have o2 := hPb.cell (i := 2) (v := .int .u64 (hiW p.2)) rfl; have o3 := hPb.cell (i := 3) (v := .int .u64 (loW p.2)) rfl; replace hPb := Lib.hid hPb; have rn2 := rn.out.gr gm; clear rn; have rn := rn2; clear rn2; replace rn := Lib.hid rn; replace vm := Lib.hid vm; replace im := Lib.hid im; replace rm := Lib.hid rm)
      | fail)
  clear p0 p1 p2 p3 q0 q1 q2 q3 o0 o1 o2 o3
  have gAb := ((gW.trans gs).trans gan).trans gm
  obtain ⟨in2, hin2⟩ : ∃ x : Hid (Dig dn), x = iN := ⟨_, rfl⟩
  have gAb := ((gW.trans gs).trans gan).trans gm
  go_wp2_with fail
  refine (of12_any (t) wb (by omega) (by omega)).mono ?_
  rintro e w1 ⟨d1, a1, c1, rfl, v1, i1, l1, m1, r1, -, -, g1⟩
  replace v1 := Lib.hid v1
  replace i1 := Lib.hid i1
  replace r1 := Lib.hid r1
  have rnx := rn.out.gr g1
  clear rn
  have rn := rnx
  clear rnx
  replace rn := Lib.hid rn
  have rmx := rm.out.gr g1
  clear rm
  have rm := rmx
  clear rmx
  replace rm := Lib.hid rm
  have gA1 := gAb.trans g1
  go_wp2_with fail
  refine (btimes_any an a1 dn d1 cn c1 w1 rn.out r1.out iN.out i1.out (by omega) (by omega) (by omega)).mono ?_
  rintro e w2 ⟨d2, a2, c2, rfl, v2, i2, l2, m2, r2, -, -, g2⟩
  replace v2 := Lib.hid v2
  replace i2 := Lib.hid i2
  replace r2 := Lib.hid r2
  have rnx := rn.out.gr g2
  clear rn
  have rn := rnx
  clear rnx
  replace rn := Lib.hid rn
  have rmx := rm.out.gr g2
  clear rm
  have rm := rmx
  clear rmx
  replace rm := Lib.hid rm
  have r1x := r1.out.gr g2
  clear r1
  have r1 := r1x
  clear r1x
  replace r1 := Lib.hid r1
  have gA2 := gA1.trans g2
  go_wp2_with fail
  refine (of12_any (q) w2 (by omega) (by omega)).mono ?_
  rintro e w3 ⟨d3, a3, c3, rfl, v3, i3, l3, m3, r3, -, -, g3⟩
  replace v3 := Lib.hid v3
  replace i3 := Lib.hid i3
  replace r3 := Lib.hid r3
  have rnx := rn.out.gr g3
  clear rn
  have rn := rnx
  clear rnx
  replace rn := Lib.hid rn
  have rmx := rm.out.gr g3
  clear rm
  have rm := rmx
  clear rmx
  replace rm := Lib.hid rm
  have r1x := r1.out.gr g3
  clear r1
  have r1 := r1x
  clear r1x
  replace r1 := Lib.hid r1
  have r2x := r2.out.gr g3
  clear r2
  have r2 := r2x
  clear r2x
  replace r2 := Lib.hid r2
  have gA3 := gA2.trans g3
  go_wp2_with fail
  refine (btimes_any am a3 dm d3 cm c3 w3 rm.out r3.out im.out i3.out (by omega) (by omega) (by omega)).mono ?_
  rintro e w4 ⟨d4, a4, c4, rfl, v4, i4, l4, m4, r4, -, -, g4⟩
  replace v4 := Lib.hid v4
  replace i4 := Lib.hid i4
  replace r4 := Lib.hid r4
  have rnx := rn.out.gr g4
  clear rn
  have rn := rnx
  clear rnx
  replace rn := Lib.hid rn
  have rmx := rm.out.gr g4
  clear rm
  have rm := rmx
  clear rmx
  replace rm := Lib.hid rm
  have r1x := r1.out.gr g4
  clear r1
  have r1 := r1x
  clear r1x
  replace r1 := Lib.hid r1
  have r2x := r2.out.gr g4
  clear r2
  have r2 := r2x
  clear r2x
  replace r2 := Lib.hid r2
  have r3x := r3.out.gr g4
  clear r3
  have r3 := r3x
  clear r3x
  replace r3 := Lib.hid r3
  have gA4 := gA3.trans g4
  have hl1 := bless_any a2 a4 d2 d4 c2 c4 w4 r2.out r4.out i2.out i4.out (by omega) (by omega)
  rw [v2.out, v4.out, vn.out, vm.out, v1.out, v3.out, decide_eq_true hA1.out] at hl1
  replace hl1 := Lib.hid hl1
  go_wp2_with fail
  refine hl1.out.mono ?_
  rintro e w5 ⟨rfl, hw5⟩
  subst hw5
  go_wp2_with fail
  refine (of12_any (4096) w4 (by omega) (by omega)).mono ?_
  rintro e w6 ⟨d6, a6, c6, rfl, v6, i6, l6, m6, r6, -, -, g6⟩
  replace v6 := Lib.hid v6
  replace i6 := Lib.hid i6
  replace r6 := Lib.hid r6
  have rnx := rn.out.gr g6
  clear rn
  have rn := rnx
  clear rnx
  replace rn := Lib.hid rn
  have rmx := rm.out.gr g6
  clear rm
  have rm := rmx
  clear rmx
  replace rm := Lib.hid rm
  have r1x := r1.out.gr g6
  clear r1
  have r1 := r1x
  clear r1x
  replace r1 := Lib.hid r1
  have r2x := r2.out.gr g6
  clear r2
  have r2 := r2x
  clear r2x
  replace r2 := Lib.hid r2
  have r3x := r3.out.gr g6
  clear r3
  have r3 := r3x
  clear r3x
  replace r3 := Lib.hid r3
  have r4x := r4.out.gr g6
  clear r4
  have r4 := r4x
  clear r4x
  replace r4 := Lib.hid r4
  have gA6 := gA4.trans g6
  go_wp2_with fail
  refine (btimes_any an a6 dn d6 cn c6 w6 rn.out r6.out iN.out i6.out (by omega) (by omega) (by omega)).mono ?_
  rintro e w7 ⟨d7, a7, c7, rfl, v7, i7, l7, m7, r7, -, -, g7⟩
  replace v7 := Lib.hid v7
  replace i7 := Lib.hid i7
  replace r7 := Lib.hid r7
  have rnx := rn.out.gr g7
  clear rn
  have rn := rnx
  clear rnx
  replace rn := Lib.hid rn
  have rmx := rm.out.gr g7
  clear rm
  have rm := rmx
  clear rmx
  replace rm := Lib.hid rm
  have r1x := r1.out.gr g7
  clear r1
  have r1 := r1x
  clear r1x
  replace r1 := Lib.hid r1
  have r2x := r2.out.gr g7
  clear r2
  have r2 := r2x
  clear r2x
  replace r2 := Lib.hid r2
  have r3x := r3.out.gr g7
  clear r3
  have r3 := r3x
  clear r3x
  replace r3 := Lib.hid r3
  have r4x := r4.out.gr g7
  clear r4
  have r4 := r4x
  clear r4x
  replace r4 := Lib.hid r4
  have r6x := r6.out.gr g7
  clear r6
  have r6 := r6x
  clear r6x
  replace r6 := Lib.hid r6
  have gA7 := gA6.trans g7
  go_wp2_with fail
  refine (of12_any (more) w7 (by omega) (by omega)).mono ?_
  rintro e w8 ⟨d8, a8, c8, rfl, v8, i8, l8, m8, r8, -, -, g8⟩
  replace v8 := Lib.hid v8
  replace i8 := Lib.hid i8
  replace r8 := Lib.hid r8
  have rnx := rn.out.gr g8
  clear rn
  have rn := rnx
  clear rnx
  replace rn := Lib.hid rn
  have rmx := rm.out.gr g8
  clear rm
  have rm := rmx
  clear rmx
  replace rm := Lib.hid rm
  have r1x := r1.out.gr g8
  clear r1
  have r1 := r1x
  clear r1x
  replace r1 := Lib.hid r1
  have r2x := r2.out.gr g8
  clear r2
  have r2 := r2x
  clear r2x
  replace r2 := Lib.hid r2
  have r3x := r3.out.gr g8
  clear r3
  have r3 := r3x
  clear r3x
  replace r3 := Lib.hid r3
  have r4x := r4.out.gr g8
  clear r4
  have r4 := r4x
  clear r4x
  replace r4 := Lib.hid r4
  have r6x := r6.out.gr g8
  clear r6
  have r6 := r6x
  clear r6x
  replace r6 := Lib.hid r6
  have r7x := r7.out.gr g8
  clear r7
  have r7 := r7x
  clear r7x
  replace r7 := Lib.hid r7
  have gA8 := gA7.trans g8
  go_wp2_with fail
  refine (btimes_any am a8 dm d8 cm c8 w8 rm.out r8.out im.out i8.out (by omega) (by omega) (by omega)).mono ?_
  rintro e w9 ⟨d9, a9, c9, rfl, v9, i9, l9, m9, r9, -, -, g9⟩
  replace v9 := Lib.hid v9
  replace i9 := Lib.hid i9
  replace r9 := Lib.hid r9
  have rnx := rn.out.gr g9
  clear rn
  have rn := rnx
  clear rnx
  replace rn := Lib.hid rn
  have rmx := rm.out.gr g9
  clear rm
  have rm := rmx
  clear rmx
  replace rm := Lib.hid rm
  have r1x := r1.out.gr g9
  clear r1
  have r1 := r1x
  clear r1x
  replace r1 := Lib.hid r1
  have r2x := r2.out.gr g9
  clear r2
  have r2 := r2x
  clear r2x
  replace r2 := Lib.hid r2
  have r3x := r3.out.gr g9
  clear r3
  have r3 := r3x
  clear r3x
  replace r3 := Lib.hid r3
  have r4x := r4.out.gr g9
  clear r4
  have r4 := r4x
  clear r4x
  replace r4 := Lib.hid r4
  have r6x := r6.out.gr g9
  clear r6
  have r6 := r6x
  clear r6x
  replace r6 := Lib.hid r6
  have r7x := r7.out.gr g9
  clear r7
  have r7 := r7x
  clear r7x
  replace r7 := Lib.hid r7
  have r8x := r8.out.gr g9
  clear r8
  have r8 := r8x
  clear r8x
  replace r8 := Lib.hid r8
  have gA9 := gA8.trans g9
  go_wp2_with fail
  refine (bplus_any a7 a9 d7 d9 c7 c9 w9 r7.out r9.out i7.out i9.out (by omega) (by omega)).mono ?_
  rintro e w10 ⟨d10, a10, c10, rfl, v10, i10, l10, m10, r10, -, -, g10⟩
  replace v10 := Lib.hid v10
  replace i10 := Lib.hid i10
  replace r10 := Lib.hid r10
  have rnx := rn.out.gr g10
  clear rn
  have rn := rnx
  clear rnx
  replace rn := Lib.hid rn
  have rmx := rm.out.gr g10
  clear rm
  have rm := rmx
  clear rmx
  replace rm := Lib.hid rm
  have r1x := r1.out.gr g10
  clear r1
  have r1 := r1x
  clear r1x
  replace r1 := Lib.hid r1
  have r2x := r2.out.gr g10
  clear r2
  have r2 := r2x
  clear r2x
  replace r2 := Lib.hid r2
  have r3x := r3.out.gr g10
  clear r3
  have r3 := r3x
  clear r3x
  replace r3 := Lib.hid r3
  have r4x := r4.out.gr g10
  clear r4
  have r4 := r4x
  clear r4x
  replace r4 := Lib.hid r4
  have r6x := r6.out.gr g10
  clear r6
  have r6 := r6x
  clear r6x
  replace r6 := Lib.hid r6
  have r7x := r7.out.gr g10
  clear r7
  have r7 := r7x
  clear r7x
  replace r7 := Lib.hid r7
  have r8x := r8.out.gr g10
  clear r8
  have r8 := r8x
  clear r8x
  replace r8 := Lib.hid r8
  have r9x := r9.out.gr g10
  clear r9
  have r9 := r9x
  clear r9x
  replace r9 := Lib.hid r9
  have gA10 := gA9.trans g10
  go_wp2_with fail
  refine (of12_any (q * (4096 - dd)) w10 (by omega) (by omega)).mono ?_
  rintro e w11 ⟨d11, a11, c11, rfl, v11, i11, l11, m11, r11, -, -, g11⟩
  replace v11 := Lib.hid v11
  replace i11 := Lib.hid i11
  replace r11 := Lib.hid r11
  have rnx := rn.out.gr g11
  clear rn
  have rn := rnx
  clear rnx
  replace rn := Lib.hid rn
  have rmx := rm.out.gr g11
  clear rm
  have rm := rmx
  clear rmx
  replace rm := Lib.hid rm
  have r1x := r1.out.gr g11
  clear r1
  have r1 := r1x
  clear r1x
  replace r1 := Lib.hid r1
  have r2x := r2.out.gr g11
  clear r2
  have r2 := r2x
  clear r2x
  replace r2 := Lib.hid r2
  have r3x := r3.out.gr g11
  clear r3
  have r3 := r3x
  clear r3x
  replace r3 := Lib.hid r3
  have r4x := r4.out.gr g11
  clear r4
  have r4 := r4x
  clear r4x
  replace r4 := Lib.hid r4
  have r6x := r6.out.gr g11
  clear r6
  have r6 := r6x
  clear r6x
  replace r6 := Lib.hid r6
  have r7x := r7.out.gr g11
  clear r7
  have r7 := r7x
  clear r7x
  replace r7 := Lib.hid r7
  have r8x := r8.out.gr g11
  clear r8
  have r8 := r8x
  clear r8x
  replace r8 := Lib.hid r8
  have r9x := r9.out.gr g11
  clear r9
  have r9 := r9x
  clear r9x
  replace r9 := Lib.hid r9
  have r10x := r10.out.gr g11
  clear r10
  have r10 := r10x
  clear r10x
  replace r10 := Lib.hid r10
  have gA11 := gA10.trans g11
  go_wp2_with fail
  refine (btimes_any am a11 dm d11 cm c11 w11 rm.out r11.out im.out i11.out (by omega) (by omega) (by omega)).mono ?_
  rintro e w12 ⟨d12, a12, c12, rfl, v12, i12, l12, m12, r12, -, -, g12⟩
  replace v12 := Lib.hid v12
  replace i12 := Lib.hid i12
  replace r12 := Lib.hid r12
  have rnx := rn.out.gr g12
  clear rn
  have rn := rnx
  clear rnx
  replace rn := Lib.hid rn
  have rmx := rm.out.gr g12
  clear rm
  have rm := rmx
  clear rmx
  replace rm := Lib.hid rm
  have r1x := r1.out.gr g12
  clear r1
  have r1 := r1x
  clear r1x
  replace r1 := Lib.hid r1
  have r2x := r2.out.gr g12
  clear r2
  have r2 := r2x
  clear r2x
  replace r2 := Lib.hid r2
  have r3x := r3.out.gr g12
  clear r3
  have r3 := r3x
  clear r3x
  replace r3 := Lib.hid r3
  have r4x := r4.out.gr g12
  clear r4
  have r4 := r4x
  clear r4x
  replace r4 := Lib.hid r4
  have r6x := r6.out.gr g12
  clear r6
  have r6 := r6x
  clear r6x
  replace r6 := Lib.hid r6
  have r7x := r7.out.gr g12
  clear r7
  have r7 := r7x
  clear r7x
  replace r7 := Lib.hid r7
  have r8x := r8.out.gr g12
  clear r8
  have r8 := r8x
  clear r8x
  replace r8 := Lib.hid r8
  have r9x := r9.out.gr g12
  clear r9
  have r9 := r9x
  clear r9x
  replace r9 := Lib.hid r9
  have r10x := r10.out.gr g12
  clear r10
  have r10 := r10x
  clear r10x
  replace r10 := Lib.hid r10
  have r11x := r11.out.gr g12
  clear r11
  have r11 := r11x
  clear r11x
  replace r11 := Lib.hid r11
  have gA12 := gA11.trans g12
  go_wp2_with fail
  refine (of12_any (t) w12 (by omega) (by omega)).mono ?_
  rintro e w13 ⟨d13, a13, c13, rfl, v13, i13, l13, m13, r13, -, -, g13⟩
  replace v13 := Lib.hid v13
  replace i13 := Lib.hid i13
  replace r13 := Lib.hid r13
  have rnx := rn.out.gr g13
  clear rn
  have rn := rnx
  clear rnx
  replace rn := Lib.hid rn
  have rmx := rm.out.gr g13
  clear rm
  have rm := rmx
  clear rmx
  replace rm := Lib.hid rm
  have r1x := r1.out.gr g13
  clear r1
  have r1 := r1x
  clear r1x
  replace r1 := Lib.hid r1
  have r2x := r2.out.gr g13
  clear r2
  have r2 := r2x
  clear r2x
  replace r2 := Lib.hid r2
  have r3x := r3.out.gr g13
  clear r3
  have r3 := r3x
  clear r3x
  replace r3 := Lib.hid r3
  have r4x := r4.out.gr g13
  clear r4
  have r4 := r4x
  clear r4x
  replace r4 := Lib.hid r4
  have r6x := r6.out.gr g13
  clear r6
  have r6 := r6x
  clear r6x
  replace r6 := Lib.hid r6
  have r7x := r7.out.gr g13
  clear r7
  have r7 := r7x
  clear r7x
  replace r7 := Lib.hid r7
  have r8x := r8.out.gr g13
  clear r8
  have r8 := r8x
  clear r8x
  replace r8 := Lib.hid r8
  have r9x := r9.out.gr g13
  clear r9
  have r9 := r9x
  clear r9x
  replace r9 := Lib.hid r9
  have r10x := r10.out.gr g13
  clear r10
  have r10 := r10x
  clear r10x
  replace r10 := Lib.hid r10
  have r11x := r11.out.gr g13
  clear r11
  have r11 := r11x
  clear r11x
  replace r11 := Lib.hid r11
  have r12x := r12.out.gr g13
  clear r12
  have r12 := r12x
  clear r12x
  replace r12 := Lib.hid r12
  have gA13 := gA12.trans g13
  go_wp2_with fail
  refine (btimes_any a10 a13 d10 d13 c10 c13 w13 r10.out r13.out i10.out i13.out (by omega) (by omega) (by omega)).mono ?_
  rintro e w14 ⟨d14, a14, c14, rfl, v14, i14, l14, m14, r14, -, -, g14⟩
  replace v14 := Lib.hid v14
  replace i14 := Lib.hid i14
  replace r14 := Lib.hid r14
  have rnx := rn.out.gr g14
  clear rn
  have rn := rnx
  clear rnx
  replace rn := Lib.hid rn
  have rmx := rm.out.gr g14
  clear rm
  have rm := rmx
  clear rmx
  replace rm := Lib.hid rm
  have r1x := r1.out.gr g14
  clear r1
  have r1 := r1x
  clear r1x
  replace r1 := Lib.hid r1
  have r2x := r2.out.gr g14
  clear r2
  have r2 := r2x
  clear r2x
  replace r2 := Lib.hid r2
  have r3x := r3.out.gr g14
  clear r3
  have r3 := r3x
  clear r3x
  replace r3 := Lib.hid r3
  have r4x := r4.out.gr g14
  clear r4
  have r4 := r4x
  clear r4x
  replace r4 := Lib.hid r4
  have r6x := r6.out.gr g14
  clear r6
  have r6 := r6x
  clear r6x
  replace r6 := Lib.hid r6
  have r7x := r7.out.gr g14
  clear r7
  have r7 := r7x
  clear r7x
  replace r7 := Lib.hid r7
  have r8x := r8.out.gr g14
  clear r8
  have r8 := r8x
  clear r8x
  replace r8 := Lib.hid r8
  have r9x := r9.out.gr g14
  clear r9
  have r9 := r9x
  clear r9x
  replace r9 := Lib.hid r9
  have r10x := r10.out.gr g14
  clear r10
  have r10 := r10x
  clear r10x
  replace r10 := Lib.hid r10
  have r11x := r11.out.gr g14
  clear r11
  have r11 := r11x
  clear r11x
  replace r11 := Lib.hid r11
  have r12x := r12.out.gr g14
  clear r12
  have r12 := r12x
  clear r12x
  replace r12 := Lib.hid r12
  have r13x := r13.out.gr g14
  clear r13
  have r13 := r13x
  clear r13x
  replace r13 := Lib.hid r13
  have gA14 := gA13.trans g14
  have hl2 := bless_any a12 a14 d12 d14 c12 c14 w14 r12.out r14.out i12.out i14.out (by omega) (by omega)
  rw [v12.out, v14.out, vm.out, v11.out, v10.out, v13.out, v7.out, v9.out, vn.out, vm.out, v6.out, v8.out, decide_eq_false (by have := hA2.out; omega)] at hl2
  replace hl2 := Lib.hid hl2
  go_wp2_with fail
  refine hl2.out.mono ?_
  rintro e w15 ⟨rfl, hw15⟩
  subst hw15
  go_wp2_with fail
  go_ret
  exact ⟨rfl, gA14⟩
set_option maxRecDepth 100000 in
set_option maxHeartbeats 6400000 in
theorem rkids12_ok (s : Srv) (a : Option Addr) (l : List Srv) (c : Nat) (w : World) (hl : SrvsAt w a l) (h : kidsErr s l = none) :
    Calls Tryz.prog 11 #[.agg #[.int .i64 s.k, .int .i64 s.q, .int .i64 s.t], .slice a l.length c] w fun e w' => e = .returned (.int .i64 0) ∧ Gr w w' := by
  obtain ⟨hp, hse, hln, hbl⟩ := kids_parts h
  obtain ⟨hal, h8⟩ := srvErr_none hse
  have hba := below_all hp hal hbl
  have hrow := rowI_ok hp
  have hg0 : givI (rowI s) 0 = 0 := by
    have h1 := giv_nonneg hrow 0
    have h2 := giv_le hrow (l := 0) (Int.le_refl _)
    omega
  replace hg0 := Lib.hid hg0
  have hsh := shr_share hal h8
  have hqb := sumQ_bd hal h8
  obtain ⟨W, hW⟩ : ∃ W, W = w.alloc (.cells #[.int .i64 s.k, .int .i64 s.q, .int .i64 s.t] 29) := ⟨_, rfl⟩
  have gW : Gr w W := by rw [hW]; exact (Gr.refl w).alloc _
  have hB : Blk W w.heap.size #[.int .i64 s.k, .int .i64 s.q, .int .i64 s.t] 29 := by rw [hW]; exact Blk.new w _ _
  have b0 := hB.cell (i := 0) (v := .int .i64 s.k) rfl
  have b1 := hB.cell (i := 1) (v := .int .i64 s.q) rfl
  have b2 := hB.cell (i := 2) (v := .int .i64 s.t) rfl
  have hlg := fun w' => rlegal10_any s w'
  rw [hp] at hlg
  replace hW := Lib.hid hW
  replace hB := Lib.hid hB
  replace hlg := Lib.hid hlg
  replace hp := Lib.hid hp
  replace hse := Lib.hid hse
  replace hln := Lib.hid hln
  replace hbl := Lib.hid hbl
  replace hal := Lib.hid hal
  replace h := Lib.hid h
  replace hba := Lib.hid hba
  replace hrow := Lib.hid hrow
  replace hsh := Lib.hid hsh
  replace hqb := Lib.hid hqb
  replace hl := Lib.hid hl
  go_enter Tryz.func11, Tryz.ntmps11
  go_upto_region 1 with fail
  rw [← hW.out]
  go_wp2_with fail
  refine (hlg.out W).mono ?_
  rintro e w1 ⟨rfl, g1⟩
  clear b0 b1 b2
  have hsv := rservers_yes a l c w1 (hl.out.gr (gW.trans g1)) hal.out h8
  replace hsv := Lib.hid hsv
  go_wp2_with fail
  refine hsv.out.mono ?_
  rintro e w2 ⟨rfl, g2⟩
  obtain ⟨pb, hpb⟩ : ∃ pb, pb = w2.heap.size := ⟨_, rfl⟩
  obtain ⟨w3, hw3⟩ : ∃ w3, w3 = w2.alloc (.cells #[.int .u64 (hiW (shareS l).1), .int .u64 (loW (shareS l).1), .int .u64 (hiW (shareS l).2), .int .u64 (loW (shareS l).2)] 81) := ⟨_, rfl⟩
  have g3 : Gr w2 w3 := by rw [hw3]; exact (Gr.refl _).alloc _
  have hP3 : Blk w3 pb #[.int .u64 (hiW (shareS l).1), .int .u64 (loW (shareS l).1), .int .u64 (hiW (shareS l).2), .int .u64 (loW (shareS l).2)] 81 := by rw [hw3, hpb]; exact Blk.new _ _ _
  have gA3 := ((gW.trans g1).trans g2).trans g3
  have hB3 := ((hB.out.gr g1).gr g2).gr g3
  replace hpb := Lib.hid hpb
  replace hw3 := Lib.hid hw3
  replace hP3 := Lib.hid hP3
  replace hB3 := Lib.hid hB3
  go_upto_region 4 with fail
  rw [← hpb.out, ← hw3.out]
  go_wp2_with fail
  go_loopw [7, 25] (fun sv iv wr => ∃ k : Nat, k ≤ l.length ∧ sv = .int .i64 (sumQ (l.take k)) ∧ iv = .int .i64 k ∧ Gr w3 wr) (fun _ iv _ => l.length - (intOf iv).toNat)
  case atStart => exact ⟨0, Nat.zero_le _, rfl, rfl, Gr.refl _⟩
  case round =>
    obtain ⟨k, hk, rfl, rfl, hg⟩ := hrel
    by_cases hlt : k < l.length
    · obtain ⟨x, hx⟩ := get_some l k hlt
      obtain ⟨ba, off, hag, hba2, d0, d1, d2⟩ := (hl.out.gr (gA3.trans hg)) k x hx
      subst hag
      have hs1 : sumQ (l.take (k + 1)) = sumQ (l.take k) + x.q := by unfold sumQ; rw [take_snoc hx, sumI_snoc]
      have hq1 := hqb.out k
      have hq2 := hqb.out (k + 1)
      have hww : IntKind.i64.wrap (sumQ (l.take k) + x.q) = sumQ (l.take k) + x.q := by rw [IntKind.wrap_i64] <;> omega
      replace hx := Lib.hid hx
      replace hs1 := Lib.hid hs1
      go_wp2_with fail
      go_roundw
      case rel => exact ⟨k + 1, by omega, by rw [hs1.out], by go_num, hg.alloc _⟩
      case measure => simp [intOf]; omega
    · have hkl : k = l.length := by omega
      have ti : ¬ (k : Int) < l.length := by omega
      have tib : decide ((k : Int) < l.length) = false := decide_eq_false ti
      have hsq : sumQ (l.take k) = sumQ l := by rw [hkl, List.take_length]
      have hq1 := hqb.out l.length
      rw [List.take_length] at hq1
      have hww : IntKind.i64.wrap (2 * sumQ (l.take k)) = 2 * sumQ (l.take k) := by rw [IntKind.wrap_i64, hsq] <;> omega
      have hlc := fun w' => line12_ok s (shareS l) (2 * sumQ (l.take k)) w' hp.out hsh.out (by rw [hsq]; omega) (by rw [hsq]; omega) (by rw [hsq]; exact hln.out)
      have hBx := hB3.out.gr hg
      have hPx := hP3.out.gr hg
      have gAx := gA3.trans hg
      have b0 := hBx.cell (i := 0) (v := .int .i64 s.k) rfl
      have b1 := hBx.cell (i := 1) (v := .int .i64 s.q) rfl
      have b2 := hBx.cell (i := 2) (v := .int .i64 s.t) rfl
      have p0 := hPx.cell (i := 0) (v := .int .u64 (hiW (shareS l).1)) rfl
      have p1 := hPx.cell (i := 1) (v := .int .u64 (loW (shareS l).1)) rfl
      have p2 := hPx.cell (i := 2) (v := .int .u64 (hiW (shareS l).2)) rfl
      have p3 := hPx.cell (i := 3) (v := .int .u64 (loW (shareS l).2)) rfl
      replace hlc := Lib.hid hlc
      replace hBx := Lib.hid hBx
      replace hPx := Lib.hid hPx
      replace hkl := Lib.hid hkl
      replace hsq := Lib.hid hsq
      go_wp2_with fail
      refine (hlc.out wr).mono ?_
      rintro e w4 ⟨rfl, g4⟩
      clear b0 b1 b2 p0 p1 p2 p3
      have gA4 := gAx.trans g4
      have hB4 := hBx.out.gr g4
      replace hB4 := Lib.hid hB4
      go_wp2_with fail
      go_loopw [10, 11] (fun sv iv wr => ∃ n : Nat, 1 ≤ n ∧ n ≤ 4097 ∧ sv = .int .i64 (givI (rowI s) ((n : Int) - 1)) ∧ iv = .int .i64 n ∧ Gr w4 wr) (fun _ iv _ => 4097 - (intOf iv).toNat)
      case atStart => exact ⟨1, by omega, by omega, by rw [show ((1 : Nat) : Int) - 1 = 0 by omega, hg0.out], rfl, Gr.refl _⟩
      case round =>
        obtain ⟨n, n1, n2, rfl, rfl, hg5⟩ := hrel
        obtain ⟨wo, rfl⟩ : ∃ wo : World, wo = wr := ⟨wr, rfl⟩
        by_cases hn : n ≤ 4096
        · have tn : (n : Int) ≤ 4096 := by omega
          have tnb : decide ((n : Int) ≤ 4096) = true := decide_eq_true tn
          have hwn : IntKind.i64.wrap ((n : Int) - 1) = (n : Int) - 1 := by rw [IntKind.wrap_i64] <;> omega
          have hst := giv_step hrow.out (i := (n : Int) - 1)
          rw [show (n : Int) - 1 + 1 = n by omega] at hst
          have hgb := giv_nonneg hrow.out ((n : Int) - 1)
          have hgu := giv_le hrow.out (l := (n : Int) - 1) (by omega)
          have hle := hba.out n hn
          have hat := at10_all s ((n : Int) - 1) wo hp.out (by omega) (by omega)
          have hB5 := hB4.out.gr hg5
          have b0 := hB5.cell (i := 0) (v := .int .i64 s.k) rfl
          have b1 := hB5.cell (i := 1) (v := .int .i64 s.q) rfl
          have b2 := hB5.cell (i := 2) (v := .int .i64 s.t) rfl
          have gA5 := gA4.trans hg5
          replace hB5 := Lib.hid hB5
          cases ha : atI (rowI s) ((n : Int) - 1) with
          | true =>
            rw [ha] at hat hst
            replace ha := Lib.hid ha
            replace hat := Lib.hid hat
            rw [if_pos rfl] at hst
            have hw1 : IntKind.i64.wrap (givI (rowI s) ((n : Int) - 1) + 1) = givI (rowI s) n := by rw [hst, IntKind.wrap_i64] <;> omega
            replace hst := Lib.hid hst
            go_wp2_with fail
            refine hat.out.mono ?_
            rintro e w5 ⟨rfl, g5⟩
            have hsv := rservers11_any a l c n w5 (hl.out.gr (gA5.trans g5)) hal.out h8 ⟨by omega, by omega⟩
            have tg : ¬ givI (rowI s) n < sumI (fun s => askedI s (n : Int)) l := by have h1 := hle; unfold demI at h1; omega
            have tgb : decide (givI (rowI s) n < sumI (fun s => askedI s (n : Int)) l) = false := decide_eq_false tg
            replace hsv := Lib.hid hsv
            clear b0 b1 b2
            go_wp2_with fail
            refine hsv.out.mono ?_
            rintro e w6 ⟨rfl, g6⟩
            go_wp2_with fail
            go_roundw
            case rel => exact ⟨n + 1, by omega, by omega, by rw [show ((n + 1 : Nat) : Int) - 1 = n by omega], by go_num, (hg5.trans g5).trans g6⟩
            case measure => simp [intOf]; omega
          | false =>
            rw [ha] at hat hst
            replace ha := Lib.hid ha
            replace hat := Lib.hid hat
            rw [if_neg (by decide), Int.add_zero] at hst
            replace hst := Lib.hid hst
            go_wp2_with fail
            refine hat.out.mono ?_
            rintro e w5 ⟨rfl, g5⟩
            have hsv := rservers11_any a l c n w5 (hl.out.gr (gA5.trans g5)) hal.out h8 ⟨by omega, by omega⟩
            have tg : ¬ givI (rowI s) ((n : Int) - 1) < sumI (fun s => askedI s (n : Int)) l := by have h1 := hle; unfold demI at h1; rw [← hst.out]; omega
            have tgb : decide (givI (rowI s) ((n : Int) - 1) < sumI (fun s => askedI s (n : Int)) l) = false := decide_eq_false tg
            replace hsv := Lib.hid hsv
            clear b0 b1 b2
            go_wp2_with fail
            refine hsv.out.mono ?_
            rintro e w6 ⟨rfl, g6⟩
            go_wp2_with fail
            go_roundw
            case rel => exact ⟨n + 1, by omega, by omega, by rw [show ((n + 1 : Nat) : Int) - 1 = n by omega]; rw [hst.out], by go_num, (hg5.trans g5).trans g6⟩
            case measure => simp [intOf]; omega
        · have tn : ¬ (n : Int) ≤ 4096 := by omega
          have tnb : decide ((n : Int) ≤ 4096) = false := decide_eq_false tn
          go_wp2_with fail
          go_ret
          exact ⟨rfl, gA4.trans hg5⟩
end Go.Proofs.YtanfgipanfjcoaaGreatDoor
