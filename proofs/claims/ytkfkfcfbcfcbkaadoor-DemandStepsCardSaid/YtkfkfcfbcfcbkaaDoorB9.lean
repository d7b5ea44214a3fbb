/- The law DemandSteps. -/
import Derived.Test.YtkfkfcfbcfcbkaaDoorE2
import Derived.Test.YtkfkfcfbcfcbkaaDoorL2
namespace Go.Proofs.YtkfkfcfbcfcbkaaDoor
open Go.RowKit

theorem srvErr_ok {l : List Srv} (h : srvErr l = none) : chkS l 0 = none ∧ allLeg l = true ∧ l.length ≤ 8 := by
  unfold srvErr at h
  unfold chkS
  split at h
  · cases h
  · split at h
    · cases h
    · rename_i h1 h2; rw [if_neg h1, if_neg h2, if_neg (by omega)]; exact ⟨rfl, by simpa using h1, by omega⟩
theorem srvErr_chk0 {l : List Srv} {n : Int} {g : Nat} (h : srvErr l = some g) : chkS l n = some g := by
  unfold srvErr at h
  unfold chkS
  split at h
  · rename_i h1; rw [if_pos h1]; exact h
  · rename_i h1
    split at h
    · rename_i h2; rw [if_neg h1, if_pos h2]; exact h
    · cases h
theorem numI_nz (g : Nat) : (numI g != 0) = true := by
  unfold numI
  have : ((errNos.idxOf g : Int) + 1 == 0) = false := by simp; omega
  simp [bne, this]

set_option maxRecDepth 100000 in
set_option maxHeartbeats 1600000 in
theorem demandSteps_walk {G : List Nat} {E : Nat → Addr} (a : Option Addr) (l : List Srv) (c : Nat) (n : Int) (w : World) (hE : EAt G E w) (i0 : 0 ∈ G) (i3 : 3 ∈ G) (i2 : 2 ∈ G) (hl : SrvsAt w a l) (hm : l.length * 24 ≤ 140737488351232) (hc : a = none → c = 0) (hn : I64 n) :
    Calls Tryd.prog 9 #[.slice a l.length c, .int .i64 n] w fun e w' => e = .returned (.bool true) ∧ Gr w w' := by
  obtain ⟨i27, hi, hz0, hz1, hz2⟩ := info_parts Tryd.infoSrv
  have hmm : l.length ≤ maxLen := by unfold maxLen; omega
  have n2 : l.length * 24 ≤ 140737488355328 := by omega
  obtain ⟨hn1, hn2⟩ := hn
  have hrs := fun w h => ref_servers a l c w h hmm
  cases hS : srvErr l with
  | some g =>
    rw [hS] at hrs
    dsimp only [numO, pw] at hrs
    have hck := srvErr_chk0 (n := 0) hS
    have hg1 := numI_nz g
    replace hrs := Lib.hid hrs
    replace hck := Lib.hid hck
    replace hS := Lib.hid hS
    go_enter Tryd.func9, Tryd.ntmps9
    go_wp2_with fail
    refine (alive11 _).mono ?_
    rintro e wa ⟨rfl, ga⟩
    obtain ⟨ca, fa, sa⟩ := ga.cells
    try simp only [size_drewN] at ca fa sa
    try simp only [World.size_alloc] at ca fa sa
    try simp only [World.size_drew] at ca fa sa
    try simp only [World.size_setCell] at ca fa sa
    have ea := hE.gr ga
    have la := hl.gr ga
    go_wp2_with (at_builtin; refine wpList_copyN (k := 3) (enc := Srv.cells) rfl _ _ 22 rfl 27 i27 _ 24 Tryd.underlying22 hi hz0 hz1 hz2 rfl (by decide) Srv.cells_len Srv.cells_one wa.heap.size rfl rfl a c l rfl (srvs_recs la) hc hmm n2 ?_; intro v1 wc hown gc)
    obtain ⟨a1, c1, rfl, r1, _, _⟩ := recs_of_owns Srv.cells_len hown
    clear hown
    have ec := ea.gr gc
    have lc := la.gr gc
    obtain ⟨cc, fc, sc⟩ := gc.cells
    go_wp2_with fail
    refine (steps_no a1 l c1 n _ ec i0 i3 i2 (recs_srvs r1) hmm g hck.out).mono ?_
    rintro e wd ⟨rfl, gd⟩
    obtain ⟨cd, fd, sd⟩ := gd.cells
    try simp only [size_drewN] at cd fd sd
    try simp only [World.size_alloc] at cd fd sd
    try simp only [World.size_drew] at cd fd sd
    try simp only [World.size_setCell] at cd fd sd
    go_wp2_with fail
    refine (hrs.out _ (lc.gr gd)).mono ?_
    rintro e we ⟨rfl, ge⟩
    obtain ⟨ce, fe, se⟩ := ge.cells
    try simp only [size_drewN] at ce fe se
    try simp only [World.size_alloc] at ce fe se
    try simp only [World.size_drew] at ce fe se
    try simp only [World.size_setCell] at ce fe se
    go_wp2_with fail
    go_ret
    refine ⟨rfl, ?_⟩
    repeat (first | exact Gr.refl _ | apply Gr.alloc | apply Gr.drew | apply Gr.drewN | (refine Gr.setCell ?_ (by simp) _) | (refine Gr.trans ?_ (by assumption)))
  | none =>
    rw [hS] at hrs
    dsimp only [numO, pw] at hrs
    obtain ⟨hck, hal, h8⟩ := srvErr_ok hS
    obtain ⟨N, hN⟩ : ∃ N : Nat, N = (min n 4096).toNat := ⟨_, rfl⟩
    have hN4 : N ≤ 4096 := by omega
    have hz := demI_zero l hal
    replace hN := Lib.hid hN
    replace hrs := Lib.hid hrs
    replace hck := Lib.hid hck
    replace hal := Lib.hid hal
    replace hS := Lib.hid hS
    replace hz := Lib.hid hz
    go_enter Tryd.func9, Tryd.ntmps9
    go_wp2_with fail
    refine (alive11 _).mono ?_
    rintro e wa ⟨rfl, ga⟩
    obtain ⟨ca, fa, sa⟩ := ga.cells
    try simp only [size_drewN] at ca fa sa
    try simp only [World.size_alloc] at ca fa sa
    try simp only [World.size_drew] at ca fa sa
    try simp only [World.size_setCell] at ca fa sa
    have la := hl.gr ga
    go_wp2_with (at_builtin; refine wpList_copyN (k := 3) (enc := Srv.cells) rfl _ _ 22 rfl 27 i27 _ 24 Tryd.underlying22 hi hz0 hz1 hz2 rfl (by decide) Srv.cells_len Srv.cells_one wa.heap.size rfl rfl a c l rfl (srvs_recs la) hc hmm n2 ?_; intro v1 wc hown gc)
    obtain ⟨a1, c1, rfl, r1, _, _⟩ := recs_of_owns Srv.cells_len hown
    clear hown
    have lc := la.gr gc
    go_wp2_with fail
    refine (steps_yes a1 l c1 n N _ (recs_srvs r1) hS.out hck.out hal.out h8 hN.out hn1 hn2).mono ?_
    rintro e wd ⟨a2, c2, rfl, r2, gd⟩
    have ld := lc.gr gd
    go_wp2_with fail
    refine (hrs.out _ ld).mono ?_
    rintro e we ⟨rfl, ge⟩
    obtain ⟨ce, fe, se⟩ := ge.cells
    try simp only [size_drewN] at ce fe se
    try simp only [World.size_alloc] at ce fe se
    try simp only [World.size_drew] at ce fe se
    try simp only [World.size_setCell] at ce fe se
    go_wp2_with fail
    have ge0 : Gr w (we.alloc (.cells #[.int .u64 (hiW (shareS l).1), .int .u64 (loW (shareS l).1), .int .u64 (hiW (shareS l).2), .int .u64 (loW (shareS l).2)] 41)) := (((ga.trans gc).trans gd).trans ge).alloc _
    have r3 := (r2.gr ge).gr ((Gr.refl we).alloc (.cells #[.int .u64 (hiW (shareS l).1), .int .u64 (loW (shareS l).1), .int .u64 (hiW (shareS l).2), .int .u64 (loW (shareS l).2)] 41))
    have ln := stepsL_len l N
    go_loopw [10, 8, 9] (fun lv av tv wr => ∃ i : Nat, i ≤ N ∧ lv = .int .i64 ((i : Int) + 1) ∧ av = .int .i64 ((stepsL l i).length : Nat) ∧ tv = .int .i64 (demI l i) ∧ Gr (we.alloc (.cells #[.int .u64 (hiW (shareS l).1), .int .u64 (loW (shareS l).1), .int .u64 (hiW (shareS l).2), .int .u64 (loW (shareS l).2)] 41)) wr) (fun lv _ _ _ => N + 1 - (intOf lv).toNat)
    case atStart => exact ⟨0, Nat.zero_le _, rfl, rfl, by rw [show ((0 : Nat) : Int) = 0 from rfl, hz.out], Gr.refl _⟩
    case round =>
      obtain ⟨i, hiN, rfl, rfl, rfl, hg⟩ := hrel
      have bi := demI_bd hal.out h8 (n := i) ⟨by omega, by omega⟩
      obtain ⟨bi1, bi2⟩ := bi
      by_cases hlt : i < N
      · have hon : LenOk ((i : Int) + 1) := ⟨by omega, by omega⟩
        have hle : (i : Int) + 1 ≤ n := by have := hN.out; omega
        have hle2 : (i : Int) + 1 ≤ 4096 := by omega
        have bj := demI_bd hal.out h8 hon
        obtain ⟨bj1, bj2⟩ := bj
        have hlr := (hl.gr ge0).gr hg
        have hsv := fun w h => rservers11_any a l c ((i : Int) + 1) w h hal.out h8 hon
        rw [show sumI (fun s => askedI s ((i : Int) + 1)) l = demI l ((i : Int) + 1) from rfl] at hsv
        replace hsv := Lib.hid hsv
        by_cases hd : demI l i < demI l ((i : Int) + 1)
        · have hst := stepsL_at hlt hd
          have hs2 := stepsL_yes hd
          have hlen : (stepsL l (i + 1)).length = (stepsL l i).length + 1 := by rw [hs2]; simp
          have hat : (stepsL l i).length < (stepsL l N).length := get_lt hst
          obtain ⟨b, off, rfl, hb, hcell⟩ := (r3.gr hg).get hst
          clear hs2
          replace hst := Lib.hid hst
          replace hlen := Lib.hid hlen
          generalize (stepsL l i).length = p at *
          go_wp2_with fail
          refine (hsv.out _ hlr).mono ?_
          rintro e wx ⟨rfl, gx⟩
          obtain ⟨cx, fx, sx⟩ := gx.cells
          try simp only [size_drewN] at cx fx sx
          try simp only [World.size_alloc] at cx fx sx
          try simp only [World.size_drew] at cx fx sx
          try simp only [World.size_setCell] at cx fx sx
          have kx := fun o => cx b o hb
          go_wp2_with fail
          go_roundw
          case rel => exact ⟨i + 1, by omega, by go_num, by rw [hlen.out]; go_num, by simp, hg.trans gx⟩
          case measure => simp [intOf]; omega
        · have hs2 := stepsL_no hd
          have hlen : (stepsL l (i + 1)).length = (stepsL l i).length := by rw [hs2]
          clear hs2
          replace hlen := Lib.hid hlen
          go_wp2_with fail
          refine (hsv.out _ hlr).mono ?_
          rintro e wx ⟨rfl, gx⟩
          obtain ⟨cx, fx, sx⟩ := gx.cells
          try simp only [size_drewN] at cx fx sx
          try simp only [World.size_alloc] at cx fx sx
          try simp only [World.size_drew] at cx fx sx
          try simp only [World.size_setCell] at cx fx sx
          go_wp2_with fail
          go_roundw
          case rel => exact ⟨i + 1, by omega, by go_num, by rw [hlen.out], by simp, hg.trans gx⟩
          case measure => simp [intOf]; omega
      · obtain rfl : i = N := by omega
        have hq : (i : Int) + 1 ≤ n ∨ ¬ (i : Int) + 1 ≤ n := by omega
        rcases hq with hq | hq
        · have hle2 : ¬ (i : Int) + 1 ≤ 4096 := by have := hN.out; omega
          go_wp2_with fail
          go_ret
          exact ⟨retb (by simp), ge0.trans hg⟩
        · go_wp2_with fail
          go_ret
          exact ⟨retb (by simp), ge0.trans hg⟩
end Go.Proofs.YtkfkfcfbcfcbkaaDoor
