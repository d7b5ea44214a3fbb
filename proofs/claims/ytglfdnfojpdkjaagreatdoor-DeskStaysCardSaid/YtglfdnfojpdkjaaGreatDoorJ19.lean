/- admit.Guest under PolicyDeadline: the contract. -/
import Derived.Test.YtglfdnfojpdkjaaGreatDoorJ18
namespace Go.Proofs.YtglfdnfojpdkjaaGreatDoor
open Go.RowKit

set_option maxRecDepth 100000 in
set_option maxHeartbeats 6400000 in
theorem guestD_line {G : List Nat} {E : Nat → Addr} (s : Srv) (a : Option Addr) (l : List Tsk) (c : Nat) (w : World) (hE : EAt G E w) (i0 : 4 ∈ G) (i1 : 5 ∈ G) (h : parOk s = true) (hl : TsksAt w a l) (hg : guestOk 1 l = true) (hb1 : lineB s (shareT l) (sumC l + maxS l) = false) :
    Calls Tryz.prog 123 #[.agg #[.int .i64 s.k, .int .i64 s.q, .int .i64 s.t], .int .i64 1, .slice a l.length c] w fun e w' => e = .returned (Value.iface 258 (.pointer (some (E 5)))) ∧ Gr w w' := by
  have hsi := fun w => silence_yes s w h
  have hcg := fun w' (g : Gr w w') => checkGuest_yes 1 a l c w' (hl.gr g) hg
  obtain ⟨_, _, hok⟩ := (guestOk_iff 1 l).1 hg
  have h8 := (tasksOk_parts hok).2
  have htk := fun w' (g : Gr w w') => tasks_yes a l c w' (hl.gr g) hok
  have hsh := shr_shareT hok
  have hq := sumC_bd hok l.length
  have hs := maxS_bd hok l.length
  rw [List.take_length] at hq hs
  obtain ⟨hq1, hq2⟩ := hq
  obtain ⟨hs1, hs2⟩ := hs
  have hln := fun w' (g : Gr w w') => line_any s (shareT l) (sumC l + maxS l) w' (hE.gr g) i0 h hsh (by omega) (by omega)
  rw [hb1] at hln
  have hQ := sumC_bd hok
  have hM := maxS_bd hok
  replace hsi := Lib.hid hsi
  replace hcg := Lib.hid hcg
  replace htk := Lib.hid htk
  replace hln := Lib.hid hln
  replace hQ := Lib.hid hQ
  replace hM := Lib.hid hM
  replace hok := Lib.hid hok
  replace hsh := Lib.hid hsh
  replace hb1 := Lib.hid hb1
  replace h := Lib.hid h
  replace hg := Lib.hid hg
  go_enter Tryz.func123, Tryz.ntmps123
  go_wp2_with fail
  refine (hsi.out _).mono ?_
  rintro e w0 ⟨rfl, g0⟩
  obtain ⟨c0, f0, s0⟩ := g0.cells
  try simp only [size_drewN] at c0 f0 s0
  try simp only [World.size_alloc] at c0 f0 s0
  try simp only [World.size_drew] at c0 f0 s0
  try simp only [World.size_setCell] at c0 f0 s0
  have z00 : w.heap.size < w0.heap.size := by omega
  have y00 : w.heap.size ≤ w0.heap.size := by omega
  have k00 := fun o => c0 (w.heap.size) o (by omega)
  have j00 := fun o => f0 (w.heap.size) o (by omega)
  have z01 : w.heap.size + 1 < w0.heap.size := by omega
  have k01 := fun o => c0 (w.heap.size + 1) o (by omega)
  have j01 := fun o => f0 (w.heap.size + 1) o (by omega)
  have gZ : Gr w w0 := (((Gr.refl w).alloc _).alloc _).trans g0
  go_wp2_with fail
  go_wp2_with fail
  refine (hcg.out _ gZ).mono ?_
  rintro e w1 ⟨rfl, g1⟩
  obtain ⟨c1, f1, s1⟩ := g1.cells
  try simp only [size_drewN] at c1 f1 s1
  try simp only [World.size_alloc] at c1 f1 s1
  try simp only [World.size_drew] at c1 f1 s1
  try simp only [World.size_setCell] at c1 f1 s1
  have z10 : w.heap.size < w1.heap.size := by omega
  have y10 : w.heap.size ≤ w1.heap.size := by omega
  have k10 := fun o => c1 (w.heap.size) o (by omega)
  have j10 := fun o => f1 (w.heap.size) o (by omega)
  have z11 : w.heap.size + 1 < w1.heap.size := by omega
  have k11 := fun o => c1 (w.heap.size + 1) o (by omega)
  have j11 := fun o => f1 (w.heap.size + 1) o (by omega)
  have gA := gZ.trans g1
  go_wp2_with fail
  go_wp2_with fail
  refine (htk.out _ gA).mono ?_
  rintro e w2 ⟨rfl, g2⟩
  obtain ⟨c2, f2, s2⟩ := g2.cells
  try simp only [size_drewN] at c2 f2 s2
  try simp only [World.size_alloc] at c2 f2 s2
  try simp only [World.size_drew] at c2 f2 s2
  try simp only [World.size_setCell] at c2 f2 s2
  have z20 : w.heap.size < w2.heap.size := by omega
  have y20 : w.heap.size ≤ w2.heap.size := by omega
  have k20 := fun o => c2 (w.heap.size) o (by omega)
  have j20 := fun o => f2 (w.heap.size) o (by omega)
  have z21 : w.heap.size + 1 < w2.heap.size := by omega
  have k21 := fun o => c2 (w.heap.size + 1) o (by omega)
  have j21 := fun o => f2 (w.heap.size + 1) o (by omega)
  have gB := gA.trans g2
  go_wp2_with fail
  go_loopw [62, 15, 16] (fun iv nv mv wr => ∃ k : Nat, k ≤ l.length ∧ iv = .int .i64 k ∧ nv = .int .i64 (sumC (l.take k)) ∧ mv = .int .i64 (maxS (l.take k)) ∧ Gr (w2.alloc (.cells #[.int .u64 (hiW (shareT l).1), .int .u64 (loW (shareT l).1), .int .u64 (hiW (shareT l).2), .int .u64 (loW (shareT l).2)] 136)) wr) (fun iv _ _ _ => l.length - (intOf iv).toNat)
  case atStart => exact ⟨0, Nat.zero_le _, rfl, rfl, rfl, Gr.refl _⟩
  case round =>
    obtain ⟨k, hk, rfl, rfl, rfl, hg⟩ := hrel
    obtain ⟨cg, fg, sg⟩ := hg.cells
    simp only [World.size_alloc] at cg fg sg
    have k1 := fun o => cg w.heap.size o (by omega)
    have k2 := fun o => cg (w.heap.size + 1) o (by omega)
    have k3 := fun o => cg w2.heap.size o (by omega)
    clear cg fg
    have gall : Gr w wr := (gB.alloc _).trans hg
    by_cases hlt : k < l.length
    · obtain ⟨x, hx⟩ := get_some l k hlt
      obtain ⟨b, off, rfl, hb, d0, d1, d2, d3⟩ := (hl.gr gall) k x hx
      have hq1 := hQ.out k
      have hq2 := hQ.out (k + 1)
      have hm1 := hM.out k
      have hleg := legT_mem hok.out hx
      have hnext : sumC (l.take (k + 1)) = sumC (l.take k) + x.c := by unfold sumC; rw [take_snoc hx, sumI_snoc]
      have hnext2 : maxS (l.take (k + 1)) = max (maxS (l.take k)) x.s := by rw [take_snoc hx, maxS_snoc]
      rw [hnext] at hq2
      obtain ⟨q1, q2⟩ := hq1
      obtain ⟨q3, q4⟩ := hq2
      obtain ⟨m1, m2⟩ := hm1
      obtain ⟨x1, x2, x3, x4, x5, x6⟩ := hleg
      replace hnext := Lib.hid hnext
      replace hx := Lib.hid hx
      by_cases hmx : maxS (l.take k) < x.s
      · have hn3 : maxS (l.take (k + 1)) = x.s := by omega
        clear hnext2
        replace hn3 := Lib.hid hn3
        go_wp2_with fail
        go_roundw
        case rel => exact ⟨k + 1, by omega, by go_num, by rw [hnext.out], by rw [hn3.out]; first | rfl | go_num | (congr 1; omega), hg.trans ((Gr.refl _).alloc _)⟩
        case measure => simp [intOf]; omega
      · have hn3 : maxS (l.take (k + 1)) = maxS (l.take k) := by omega
        clear hnext2
        replace hn3 := Lib.hid hn3
        go_wp2_with fail
        go_roundw
        case rel => exact ⟨k + 1, by omega, by go_num, by rw [hnext.out], by rw [hn3.out]; first | rfl | go_num | (congr 1; omega), hg.trans ((Gr.refl _).alloc _)⟩
        case measure => simp [intOf]; omega
    · have hall : l.take k = l := List.take_of_length_le (by omega)
      rw [hall]
      have hs1 : IntKind.i64.wrap (sumC l + maxS l) = sumC l + maxS l := by rw [IntKind.wrap_i64]; omega
      go_wp2_with fail
      have c0 : wr.cell? ⟨w.heap.size, 0, none⟩ = some (.int .i64 s.k) := by simp (maxDischargeDepth := 8) [go_sem, *]
      have c1 : wr.cell? ⟨w.heap.size, 1, none⟩ = some (.int .i64 s.q) := by simp (maxDischargeDepth := 8) [go_sem, *]
      have c2 : wr.cell? ⟨w.heap.size, 2, none⟩ = some (.int .i64 s.t) := by simp (maxDischargeDepth := 8) [go_sem, *]
      have c3 : wr.cell? ⟨w.heap.size + 1, 0, none⟩ = some (.slice a l.length c) := by simp (maxDischargeDepth := 8) [go_sem, *]
      have z1 : w.heap.size < wr.heap.size := by omega
      have z2 : w.heap.size + 1 < wr.heap.size := by omega
      have z3 : w2.heap.size < wr.heap.size := by omega
      have c4 : wr.cell? ⟨w2.heap.size, 0, none⟩ = some (.int .u64 (hiW (shareT l).1)) := by simp (maxDischargeDepth := 8) [go_sem, *]
      have c5 : wr.cell? ⟨w2.heap.size, 1, none⟩ = some (.int .u64 (loW (shareT l).1)) := by simp (maxDischargeDepth := 8) [go_sem, *]
      have c6 : wr.cell? ⟨w2.heap.size, 2, none⟩ = some (.int .u64 (hiW (shareT l).2)) := by simp (maxDischargeDepth := 8) [go_sem, *]
      have c7 : wr.cell? ⟨w2.heap.size, 3, none⟩ = some (.int .u64 (loW (shareT l).2)) := by simp (maxDischargeDepth := 8) [go_sem, *]
      have q0 := GrW.cell c0
      have q1 := GrW.cell c1
      have q2 := GrW.cell c2
      have q4 := GrW.cell c4
      have q5 := GrW.cell c5
      have q6 := GrW.cell c6
      have q7 := GrW.cell c7
      refine wp_region_grows (by kernel_rfl) (by kernel_rfl) ?_
      repeat (any_goals (first | go_big_quiet_step (first | (exact Calls.grows (hln.out _ (gall.trans (by exact GrW.gr _))))) | quiet_step (first | (exact Calls.grows (hln.out _ (gall.trans (by exact GrW.gr _)))))))
      refine wpQuiet_nil ?_
      intro wp hwq
      have gp := GrW.of hwq
      clear hwq
      obtain ⟨cp, fp, sp⟩ := gp.cells
      try simp only [size_drewN] at cp fp sp
      try simp only [World.size_alloc] at cp fp sp
      try simp only [World.size_drew] at cp fp sp
      try simp only [World.size_setCell] at cp fp sp
      have he := (hE.gr (gall.trans gp)).c0 i1
      go_wp2_with fail
      go_ret
      exact ⟨rfl, gall.trans gp⟩
set_option maxRecDepth 100000 in
set_option maxHeartbeats 6400000 in
theorem guestD_yes {G : List Nat} {E : Nat → Addr} (s : Srv) (a : Option Addr) (l : List Tsk) (c : Nat) (w : World) (hE : EAt G E w) (i0 : 4 ∈ G) (h : parOk s = true) (hl : TsksAt w a l) (hg : guestOk 1 l = true) (hb1 : lineB s (shareT l) (sumC l + maxS l) = true) (hb2 : fitsD s l = true) :
    Calls Tryz.prog 123 #[.agg #[.int .i64 s.k, .int .i64 s.q, .int .i64 s.t], .int .i64 1, .slice a l.length c] w fun e w' => e = .returned .nilIface ∧ Gr w w' := by
  have hsi := fun w => silence_yes s w h
  have hcg := fun w' (g : Gr w w') => checkGuest_yes 1 a l c w' (hl.gr g) hg
  obtain ⟨_, _, hok⟩ := (guestOk_iff 1 l).1 hg
  have h8 := (tasksOk_parts hok).2
  have htk := fun w' (g : Gr w w') => tasks_yes a l c w' (hl.gr g) hok
  have hsh := shr_shareT hok
  have hq := sumC_bd hok l.length
  have hs := maxS_bd hok l.length
  rw [List.take_length] at hq hs
  obtain ⟨hq1, hq2⟩ := hq
  obtain ⟨hs1, hs2⟩ := hs
  have hln := fun w' (g : Gr w w') => line_any s (shareT l) (sumC l + maxS l) w' (hE.gr g) i0 h hsh (by omega) (by omega)
  rw [hb1] at hln
  have hst := fun w' (g : Gr w w') => deadlines_any a l c w' (hl.gr g) hok
  have hbl := fun aL ls cL w' lb (g : Gr w w') h40 (hde : Deads l ls) hL hc => below_tasks s aL ls cL lb a l c w' h hL h40 (fun x hx => ⟨by have := dead_pos hok ((hde x).1 hx).2; omega, by have := ((hde x).1 hx).1; omega⟩) (hl.gr g) (fun x hx => chkT_ok hok hx) hok hc
  have hbd := fun ls (hde : Deads l ls) => below_deads (s := s) hok hde
  rw [hb2] at hbd
  have hbl2 : ∀ aL ls cL w' lb, Gr w w' → ls.length ≤ 40000 → Deads l ls → IntsAt w' aL ls → w'.cell? ⟨lb, 0, none⟩ = some (.slice a l.length c) → Calls Tryz.prog 132 #[.agg #[.int .i64 s.k, .int .i64 s.q, .int .i64 s.t], .slice aL ls.length cL, .func (.func 144) #[] #[.pointer (some ⟨lb, 0, none⟩)]] w' fun e w'' => e = .returned (.bool true) ∧ Gr w' w'' := fun aL ls cL w' lb g h40 hde hL hc => by
    have := hbl aL ls cL w' lb g h40 hde hL hc
    rw [hbd ls hde] at this
    exact this
  clear hbl hbd
  replace hst := Lib.hid hst
  replace hbl2 := Lib.hid hbl2
  replace hb2 := Lib.hid hb2
  have hQ := sumC_bd hok
  have hM := maxS_bd hok
  replace hsi := Lib.hid hsi
  replace hcg := Lib.hid hcg
  replace htk := Lib.hid htk
  replace hln := Lib.hid hln
  replace hQ := Lib.hid hQ
  replace hM := Lib.hid hM
  replace hok := Lib.hid hok
  replace hsh := Lib.hid hsh
  replace hb1 := Lib.hid hb1
  replace h := Lib.hid h
  replace hg := Lib.hid hg
  go_enter Tryz.func123, Tryz.ntmps123
  go_wp2_with fail
  refine (hsi.out _).mono ?_
  rintro e w0 ⟨rfl, g0⟩
  obtain ⟨c0, f0, s0⟩ := g0.cells
  try simp only [size_drewN] at c0 f0 s0
  try simp only [World.size_alloc] at c0 f0 s0
  try simp only [World.size_drew] at c0 f0 s0
  try simp only [World.size_setCell] at c0 f0 s0
  have z00 : w.heap.size < w0.heap.size := by omega
  have y00 : w.heap.size ≤ w0.heap.size := by omega
  have k00 := fun o => c0 (w.heap.size) o (by omega)
  have j00 := fun o => f0 (w.heap.size) o (by omega)
  have z01 : w.heap.size + 1 < w0.heap.size := by omega
  have k01 := fun o => c0 (w.heap.size + 1) o (by omega)
  have j01 := fun o => f0 (w.heap.size + 1) o (by omega)
  have gZ : Gr w w0 := (((Gr.refl w).alloc _).alloc _).trans g0
  go_wp2_with fail
  go_wp2_with fail
  refine (hcg.out _ gZ).mono ?_
  rintro e w1 ⟨rfl, g1⟩
  obtain ⟨c1, f1, s1⟩ := g1.cells
  try simp only [size_drewN] at c1 f1 s1
  try simp only [World.size_alloc] at c1 f1 s1
  try simp only [World.size_drew] at c1 f1 s1
  try simp only [World.size_setCell] at c1 f1 s1
  have z10 : w.heap.size < w1.heap.size := by omega
  have y10 : w.heap.size ≤ w1.heap.size := by omega
  have k10 := fun o => c1 (w.heap.size) o (by omega)
  have j10 := fun o => f1 (w.heap.size) o (by omega)
  have z11 : w.heap.size + 1 < w1.heap.size := by omega
  have k11 := fun o => c1 (w.heap.size + 1) o (by omega)
  have j11 := fun o => f1 (w.heap.size + 1) o (by omega)
  have gA := gZ.trans g1
  go_wp2_with fail
  go_wp2_with fail
  refine (htk.out _ gA).mono ?_
  rintro e w2 ⟨rfl, g2⟩
  obtain ⟨c2, f2, s2⟩ := g2.cells
  try simp only [size_drewN] at c2 f2 s2
  try simp only [World.size_alloc] at c2 f2 s2
  try simp only [World.size_drew] at c2 f2 s2
  try simp only [World.size_setCell] at c2 f2 s2
  have z20 : w.heap.size < w2.heap.size := by omega
  have y20 : w.heap.size ≤ w2.heap.size := by omega
  have k20 := fun o => c2 (w.heap.size) o (by omega)
  have j20 := fun o => f2 (w.heap.size) o (by omega)
  have z21 : w.heap.size + 1 < w2.heap.size := by omega
  have k21 := fun o => c2 (w.heap.size + 1) o (by omega)
  have j21 := fun o => f2 (w.heap.size + 1) o (by omega)
  have gB := gA.trans g2
  go_wp2_with fail
  go_loopw [62, 15, 16] (fun iv nv mv wr => ∃ k : Nat, k ≤ l.length ∧ iv = .int .i64 k ∧ nv = .int .i64 (sumC (l.take k)) ∧ mv = .int .i64 (maxS (l.take k)) ∧ Gr (w2.alloc (.cells #[.int .u64 (hiW (shareT l).1), .int .u64 (loW (shareT l).1), .int .u64 (hiW (shareT l).2), .int .u64 (loW (shareT l).2)] 136)) wr) (fun iv _ _ _ => l.length - (intOf iv).toNat)
  case atStart => exact ⟨0, Nat.zero_le _, rfl, rfl, rfl, Gr.refl _⟩
  case round =>
    obtain ⟨k, hk, rfl, rfl, rfl, hg⟩ := hrel
    obtain ⟨cg, fg, sg⟩ := hg.cells
    simp only [World.size_alloc] at cg fg sg
    have k1 := fun o => cg w.heap.size o (by omega)
    have k2 := fun o => cg (w.heap.size + 1) o (by omega)
    have k3 := fun o => cg w2.heap.size o (by omega)
    clear cg fg
    have gall : Gr w wr := (gB.alloc _).trans hg
    by_cases hlt : k < l.length
    · obtain ⟨x, hx⟩ := get_some l k hlt
      obtain ⟨b, off, rfl, hb, d0, d1, d2, d3⟩ := (hl.gr gall) k x hx
      have hq1 := hQ.out k
      have hq2 := hQ.out (k + 1)
      have hm1 := hM.out k
      have hleg := legT_mem hok.out hx
      have hnext : sumC (l.take (k + 1)) = sumC (l.take k) + x.c := by unfold sumC; rw [take_snoc hx, sumI_snoc]
      have hnext2 : maxS (l.take (k + 1)) = max (maxS (l.take k)) x.s := by rw [take_snoc hx, maxS_snoc]
      rw [hnext] at hq2
      obtain ⟨q1, q2⟩ := hq1
      obtain ⟨q3, q4⟩ := hq2
      obtain ⟨m1, m2⟩ := hm1
      obtain ⟨x1, x2, x3, x4, x5, x6⟩ := hleg
      replace hnext := Lib.hid hnext
      replace hx := Lib.hid hx
      by_cases hmx : maxS (l.take k) < x.s
      · have hn3 : maxS (l.take (k + 1)) = x.s := by omega
        clear hnext2
        replace hn3 := Lib.hid hn3
        go_wp2_with fail
        go_roundw
        case rel => exact ⟨k + 1, by omega, by go_num, by rw [hnext.out], by rw [hn3.out]; first | rfl | go_num | (congr 1; omega), hg.trans ((Gr.refl _).alloc _)⟩
        case measure => simp [intOf]; omega
      · have hn3 : maxS (l.take (k + 1)) = maxS (l.take k) := by omega
        clear hnext2
        replace hn3 := Lib.hid hn3
        go_wp2_with fail
        go_roundw
        case rel => exact ⟨k + 1, by omega, by go_num, by rw [hnext.out], by rw [hn3.out]; first | rfl | go_num | (congr 1; omega), hg.trans ((Gr.refl _).alloc _)⟩
        case measure => simp [intOf]; omega
    · have hall : l.take k = l := List.take_of_length_le (by omega)
      rw [hall]
      have hs1 : IntKind.i64.wrap (sumC l + maxS l) = sumC l + maxS l := by rw [IntKind.wrap_i64]; omega
      go_wp2_with fail
      have c0 : wr.cell? ⟨w.heap.size, 0, none⟩ = some (.int .i64 s.k) := by simp (maxDischargeDepth := 8) [go_sem, *]
      have c1 : wr.cell? ⟨w.heap.size, 1, none⟩ = some (.int .i64 s.q) := by simp (maxDischargeDepth := 8) [go_sem, *]
      have c2 : wr.cell? ⟨w.heap.size, 2, none⟩ = some (.int .i64 s.t) := by simp (maxDischargeDepth := 8) [go_sem, *]
      have c3 : wr.cell? ⟨w.heap.size + 1, 0, none⟩ = some (.slice a l.length c) := by simp (maxDischargeDepth := 8) [go_sem, *]
      have z1 : w.heap.size < wr.heap.size := by omega
      have z2 : w.heap.size + 1 < wr.heap.size := by omega
      have z3 : w2.heap.size < wr.heap.size := by omega
      go_region_held3 (fun w' => w'.cell? ⟨w.heap.size, 0, none⟩ = some (.int .i64 s.k) ∧ w'.cell? ⟨w.heap.size, 1, none⟩ = some (.int .i64 s.q) ∧ w'.cell? ⟨w.heap.size, 2, none⟩ = some (.int .i64 s.t) ∧ w'.cell? ⟨w.heap.size + 1, 0, none⟩ = some (.slice a l.length c) ∧ w'.cell? ⟨w2.heap.size, 0, none⟩ = some (.int .u64 (hiW (shareT l).1)) ∧ w'.cell? ⟨w2.heap.size, 1, none⟩ = some (.int .u64 (loW (shareT l).1)) ∧ w'.cell? ⟨w2.heap.size, 2, none⟩ = some (.int .u64 (hiW (shareT l).2)) ∧ w'.cell? ⟨w2.heap.size, 3, none⟩ = some (.int .u64 (loW (shareT l).2))) (simp (maxDischargeDepth := 8) [go_sem, *])
          (first
            | (go_at_call 131; (with_reducible refine (hln.out _ (gall.drew)).mono ?_); rintro e w4 ⟨rfl, g4⟩; obtain ⟨c4, f4, s4⟩ := g4.cells; simp only [World.size_drew] at c4 f4 s4; have k4 := fun o => c4 w.heap.size o (by omega); have k5 := fun o => c4 (w.heap.size + 1) o (by omega); have k6 := fun o => c4 w2.heap.size o (by omega); clear c4 f4; have gall4 := (gall.drew).trans g4; replace gall4 := Lib.hid gall4)
            | (go_at_call 146; (with_reducible refine (hst.out _ gall4.out).mono ?_); rintro e w5 ⟨aS, lS, cS, rfl, hS4, hSd, hS, g5⟩; obtain ⟨c5, f5, s5⟩ := g5.cells; have k7 := fun o => c5 w.heap.size o (by omega); have k8 := fun o => c5 (w.heap.size + 1) o (by omega); have k9 := fun o => c5 w2.heap.size o (by omega); clear c5 f5; have gall5 := gall4.out.trans g5; replace gall5 := Lib.hid gall5; replace hS := Lib.hid hS; replace hSd := Lib.hid hSd; replace hS4 := Lib.hid hS4)
            | (go_at_call 132; (with_reducible refine (hbl2.out aS lS cS _ (w.heap.size + 1) gall5.out hS4.out hSd.out hS.out (by simp (maxDischargeDepth := 8) [go_sem, *])).mono ?_); rintro e w6 ⟨rfl, g6⟩; obtain ⟨c6, f6, s6⟩ := g6.cells; have k10 := fun o => c6 w.heap.size o (by omega); have k11 := fun o => c6 (w.heap.size + 1) o (by omega); have k12 := fun o => c6 w2.heap.size o (by omega); clear c6 f6; have gall6 := gall5.out.trans g6; replace gall6 := Lib.hid gall6)
            | fail)
      all_goals go_wp2_with fail
      all_goals go_ret
      all_goals exact ⟨rfl, gall6.out⟩
set_option maxRecDepth 100000 in
set_option maxHeartbeats 6400000 in
theorem guestD_over {G : List Nat} {E : Nat → Addr} (s : Srv) (a : Option Addr) (l : List Tsk) (c : Nat) (w : World) (hE : EAt G E w) (i0 : 4 ∈ G) (i1 : 5 ∈ G) (h : parOk s = true) (hl : TsksAt w a l) (hg : guestOk 1 l = true) (hb1 : lineB s (shareT l) (sumC l + maxS l) = true) (hb2 : fitsD s l = false) :
    Calls Tryz.prog 123 #[.agg #[.int .i64 s.k, .int .i64 s.q, .int .i64 s.t], .int .i64 1, .slice a l.length c] w fun e w' => e = .returned (Value.iface 258 (.pointer (some (E 5)))) ∧ Gr w w' := by
  have hsi := fun w => silence_yes s w h
  have hcg := fun w' (g : Gr w w') => checkGuest_yes 1 a l c w' (hl.gr g) hg
  obtain ⟨_, _, hok⟩ := (guestOk_iff 1 l).1 hg
  have h8 := (tasksOk_parts hok).2
  have htk := fun w' (g : Gr w w') => tasks_yes a l c w' (hl.gr g) hok
  have hsh := shr_shareT hok
  have hq := sumC_bd hok l.length
  have hs := maxS_bd hok l.length
  rw [List.take_length] at hq hs
  obtain ⟨hq1, hq2⟩ := hq
  obtain ⟨hs1, hs2⟩ := hs
  have hln := fun w' (g : Gr w w') => line_any s (shareT l) (sumC l + maxS l) w' (hE.gr g) i0 h hsh (by omega) (by omega)
  rw [hb1] at hln
  have hst := fun w' (g : Gr w w') => deadlines_any a l c w' (hl.gr g) hok
  have hbl := fun aL ls cL w' lb (g : Gr w w') h40 (hde : Deads l ls) hL hc => below_tasks s aL ls cL lb a l c w' h hL h40 (fun x hx => ⟨by have := dead_pos hok ((hde x).1 hx).2; omega, by have := ((hde x).1 hx).1; omega⟩) (hl.gr g) (fun x hx => chkT_ok hok hx) hok hc
  have hbd := fun ls (hde : Deads l ls) => below_deads (s := s) hok hde
  rw [hb2] at hbd
  have hbl2 : ∀ aL ls cL w' lb, Gr w w' → ls.length ≤ 40000 → Deads l ls → IntsAt w' aL ls → w'.cell? ⟨lb, 0, none⟩ = some (.slice a l.length c) → Calls Tryz.prog 132 #[.agg #[.int .i64 s.k, .int .i64 s.q, .int .i64 s.t], .slice aL ls.length cL, .func (.func 144) #[] #[.pointer (some ⟨lb, 0, none⟩)]] w' fun e w'' => e = .returned (.bool false) ∧ Gr w' w'' := fun aL ls cL w' lb g h40 hde hL hc => by
    have := hbl aL ls cL w' lb g h40 hde hL hc
    rw [hbd ls hde] at this
    exact this
  clear hbl hbd
  replace hst := Lib.hid hst
  replace hbl2 := Lib.hid hbl2
  replace hb2 := Lib.hid hb2
  have hQ := sumC_bd hok
  have hM := maxS_bd hok
  replace hsi := Lib.hid hsi
  replace hcg := Lib.hid hcg
  replace htk := Lib.hid htk
  replace hln := Lib.hid hln
  replace hQ := Lib.hid hQ
  replace hM := Lib.hid hM
  replace hok := Lib.hid hok
  replace hsh := Lib.hid hsh
  replace hb1 := Lib.hid hb1
  replace h := Lib.hid h
  replace hg := Lib.hid hg
  go_enter Tryz.func123, Tryz.ntmps123
  go_wp2_with fail
  refine (hsi.out _).mono ?_
  rintro e w0 ⟨rfl, g0⟩
  obtain ⟨c0, f0, s0⟩ := g0.cells
  try simp only [size_drewN] at c0 f0 s0
  try simp only [World.size_alloc] at c0 f0 s0
  try simp only [World.size_drew] at c0 f0 s0
  try simp only [World.size_setCell] at c0 f0 s0
  have z00 : w.heap.size < w0.heap.size := by omega
  have y00 : w.heap.size ≤ w0.heap.size := by omega
  have k00 := fun o => c0 (w.heap.size) o (by omega)
  have j00 := fun o => f0 (w.heap.size) o (by omega)
  have z01 : w.heap.size + 1 < w0.heap.size := by omega
  have k01 := fun o => c0 (w.heap.size + 1) o (by omega)
  have j01 := fun o => f0 (w.heap.size + 1) o (by omega)
  have gZ : Gr w w0 := (((Gr.refl w).alloc _).alloc _).trans g0
  go_wp2_with fail
  go_wp2_with fail
  refine (hcg.out _ gZ).mono ?_
  rintro e w1 ⟨rfl, g1⟩
  obtain ⟨c1, f1, s1⟩ := g1.cells
  try simp only [size_drewN] at c1 f1 s1
  try simp only [World.size_alloc] at c1 f1 s1
  try simp only [World.size_drew] at c1 f1 s1
  try simp only [World.size_setCell] at c1 f1 s1
  have z10 : w.heap.size < w1.heap.size := by omega
  have y10 : w.heap.size ≤ w1.heap.size := by omega
  have k10 := fun o => c1 (w.heap.size) o (by omega)
  have j10 := fun o => f1 (w.heap.size) o (by omega)
  have z11 : w.heap.size + 1 < w1.heap.size := by omega
  have k11 := fun o => c1 (w.heap.size + 1) o (by omega)
  have j11 := fun o => f1 (w.heap.size + 1) o (by omega)
  have gA := gZ.trans g1
  go_wp2_with fail
  go_wp2_with fail
  refine (htk.out _ gA).mono ?_
  rintro e w2 ⟨rfl, g2⟩
  obtain ⟨c2, f2, s2⟩ := g2.cells
  try simp only [size_drewN] at c2 f2 s2
  try simp only [World.size_alloc] at c2 f2 s2
  try simp only [World.size_drew] at c2 f2 s2
  try simp only [World.size_setCell] at c2 f2 s2
  have z20 : w.heap.size < w2.heap.size := by omega
  have y20 : w.heap.size ≤ w2.heap.size := by omega
  have k20 := fun o => c2 (w.heap.size) o (by omega)
  have j20 := fun o => f2 (w.heap.size) o (by omega)
  have z21 : w.heap.size + 1 < w2.heap.size := by omega
  have k21 := fun o => c2 (w.heap.size + 1) o (by omega)
  have j21 := fun o => f2 (w.heap.size + 1) o (by omega)
  have gB := gA.trans g2
  go_wp2_with fail
  go_loopw [62, 15, 16] (fun iv nv mv wr => ∃ k : Nat, k ≤ l.length ∧ iv = .int .i64 k ∧ nv = .int .i64 (sumC (l.take k)) ∧ mv = .int .i64 (maxS (l.take k)) ∧ Gr (w2.alloc (.cells #[.int .u64 (hiW (shareT l).1), .int .u64 (loW (shareT l).1), .int .u64 (hiW (shareT l).2), .int .u64 (loW (shareT l).2)] 136)) wr) (fun iv _ _ _ => l.length - (intOf iv).toNat)
  case atStart => exact ⟨0, Nat.zero_le _, rfl, rfl, rfl, Gr.refl _⟩
  case round =>
    obtain ⟨k, hk, rfl, rfl, rfl, hg⟩ := hrel
    obtain ⟨cg, fg, sg⟩ := hg.cells
    simp only [World.size_alloc] at cg fg sg
    have k1 := fun o => cg w.heap.size o (by omega)
    have k2 := fun o => cg (w.heap.size + 1) o (by omega)
    have k3 := fun o => cg w2.heap.size o (by omega)
    clear cg fg
    have gall : Gr w wr := (gB.alloc _).trans hg
    by_cases hlt : k < l.length
    · obtain ⟨x, hx⟩ := get_some l k hlt
      obtain ⟨b, off, rfl, hb, d0, d1, d2, d3⟩ := (hl.gr gall) k x hx
      have hq1 := hQ.out k
      have hq2 := hQ.out (k + 1)
      have hm1 := hM.out k
      have hleg := legT_mem hok.out hx
      have hnext : sumC (l.take (k + 1)) = sumC (l.take k) + x.c := by unfold sumC; rw [take_snoc hx, sumI_snoc]
      have hnext2 : maxS (l.take (k + 1)) = max (maxS (l.take k)) x.s := by rw [take_snoc hx, maxS_snoc]
      rw [hnext] at hq2
      obtain ⟨q1, q2⟩ := hq1
      obtain ⟨q3, q4⟩ := hq2
      obtain ⟨m1, m2⟩ := hm1
      obtain ⟨x1, x2, x3, x4, x5, x6⟩ := hleg
      replace hnext := Lib.hid hnext
      replace hx := Lib.hid hx
      by_cases hmx : maxS (l.take k) < x.s
      · have hn3 : maxS (l.take (k + 1)) = x.s := by omega
        clear hnext2
        replace hn3 := Lib.hid hn3
        go_wp2_with fail
        go_roundw
        case rel => exact ⟨k + 1, by omega, by go_num, by rw [hnext.out], by rw [hn3.out]; first | rfl | go_num | (congr 1; omega), hg.trans ((Gr.refl _).alloc _)⟩
        case measure => simp [intOf]; omega
      · have hn3 : maxS (l.take (k + 1)) = maxS (l.take k) := by omega
        clear hnext2
        replace hn3 := Lib.hid hn3
        go_wp2_with fail
        go_roundw
        case rel => exact ⟨k + 1, by omega, by go_num, by rw [hnext.out], by rw [hn3.out]; first | rfl | go_num | (congr 1; omega), hg.trans ((Gr.refl _).alloc _)⟩
        case measure => simp [intOf]; omega
    · have hall : l.take k = l := List.take_of_length_le (by omega)
      rw [hall]
      have hs1 : IntKind.i64.wrap (sumC l + maxS l) = sumC l + maxS l := by rw [IntKind.wrap_i64]; omega
      go_wp2_with fail
      have c0 : wr.cell? ⟨w.heap.size, 0, none⟩ = some (.int .i64 s.k) := by simp (maxDischargeDepth := 8) [go_sem, *]
      have c1 : wr.cell? ⟨w.heap.size, 1, none⟩ = some (.int .i64 s.q) := by simp (maxDischargeDepth := 8) [go_sem, *]
      have c2 : wr.cell? ⟨w.heap.size, 2, none⟩ = some (.int .i64 s.t) := by simp (maxDischargeDepth := 8) [go_sem, *]
      have c3 : wr.cell? ⟨w.heap.size + 1, 0, none⟩ = some (.slice a l.length c) := by simp (maxDischargeDepth := 8) [go_sem, *]
      have z1 : w.heap.size < wr.heap.size := by omega
      have z2 : w.heap.size + 1 < wr.heap.size := by omega
      have z3 : w2.heap.size < wr.heap.size := by omega
      go_region_held3 (fun w' => w'.cell? ⟨w.heap.size, 0, none⟩ = some (.int .i64 s.k) ∧ w'.cell? ⟨w.heap.size, 1, none⟩ = some (.int .i64 s.q) ∧ w'.cell? ⟨w.heap.size, 2, none⟩ = some (.int .i64 s.t) ∧ w'.cell? ⟨w.heap.size + 1, 0, none⟩ = some (.slice a l.length c) ∧ w'.cell? ⟨w2.heap.size, 0, none⟩ = some (.int .u64 (hiW (shareT l).1)) ∧ w'.cell? ⟨w2.heap.size, 1, none⟩ = some (.int .u64 (loW (shareT l).1)) ∧ w'.cell? ⟨w2.heap.size, 2, none⟩ = some (.int .u64 (hiW (shareT l).2)) ∧ w'.cell? ⟨w2.heap.size, 3, none⟩ = some (.int .u64 (loW (shareT l).2))) (simp (maxDischargeDepth := 8) [go_sem, *])
          (first
            | (go_at_call 131; (with_reducible refine (hln.out _ (gall.drew)).mono ?_); rintro e w4 ⟨rfl, g4⟩; obtain ⟨c4, f4, s4⟩ := g4.cells; simp only [World.size_drew] at c4 f4 s4; have k4 := fun o => c4 w.heap.size o (by omega); have k5 := fun o => c4 (w.heap.size + 1) o (by omega); have k6 := fun o => c4 w2.heap.size o (by omega); clear c4 f4; have gall4 := (gall.drew).trans g4; replace gall4 := Lib.hid gall4)
            | (go_at_call 146; (with_reducible refine (hst.out _ gall4.out).mono ?_); rintro e w5 ⟨aS, lS, cS, rfl, hS4, hSd, hS, g5⟩; obtain ⟨c5, f5, s5⟩ := g5.cells; have k7 := fun o => c5 w.heap.size o (by omega); have k8 := fun o => c5 (w.heap.size + 1) o (by omega); have k9 := fun o => c5 w2.heap.size o (by omega); clear c5 f5; have gall5 := gall4.out.trans g5; replace gall5 := Lib.hid gall5; replace hS := Lib.hid hS; replace hSd := Lib.hid hSd; replace hS4 := Lib.hid hS4)
            | (go_at_call 132; (with_reducible refine (hbl2.out aS lS cS _ (w.heap.size + 1) gall5.out hS4.out hSd.out hS.out (by simp (maxDischargeDepth := 8) [go_sem, *])).mono ?_); rintro e w6 ⟨rfl, g6⟩; obtain ⟨c6, f6, s6⟩ := g6.cells; have k10 := fun o => c6 w.heap.size o (by omega); have k11 := fun o => c6 (w.heap.size + 1) o (by omega); have k12 := fun o => c6 w2.heap.size o (by omega); clear c6 f6; have gall6 := gall5.out.trans g6; replace gall6 := Lib.hid gall6)
            | fail)
      all_goals (have he := (hE.gr gall6.out).c0 i1)
      all_goals go_wp2_with fail
      all_goals go_ret
      all_goals exact ⟨rfl, gall6.out⟩
end Go.Proofs.YtglfdnfojpdkjaaGreatDoor
