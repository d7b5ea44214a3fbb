/- almonerref08: Servers, Tasks. -/
import Derived.Test.YtmookdgeblcjnaaDoorN7
import Derived.Test.YtmookdgeblcjnaaDoorA7
import Derived.Outline
namespace Go.Proofs.YtmookdgeblcjnaaDoor
open Go.RowKit

abbrev z4 : Obj := .cells #[.int .u64 0, .int .u64 0, .int .u64 0, .int .u64 0] 34
abbrev z1 : Obj := .cells #[.int .u64 0, .int .u64 0, .int .u64 0, .int .u64 1] 34

set_option maxHeartbeats 1600000 in
theorem rservers_no (a : Option Addr) (l : List Srv) (c : Nat) (w : World) (hl : SrvsAt w a l) (hm : l.length ≤ maxLen) (h : allLeg l = false) :
    Calls Tryd.prog 11 #[.slice a l.length c] w fun e w' => e = .returned (.tuple #[partZ, .int .i64 10]) ∧ Gr w w' := by
  unfold maxLen at hm
  replace h := Lib.hid h
  go_enter Tryd.func11, Tryd.ntmps11
  go_wp2_with fail
  go_loopw [13] (fun i wr => ∃ k : Nat, k ≤ l.length ∧ allLeg (l.take k) = true ∧ i = .int .i64 k ∧ Gr ((w.alloc z4).alloc z1) wr) (fun i _ => l.length - (intOf i).toNat)
  case atStart => exact ⟨0, Nat.zero_le _, rfl, rfl, Gr.refl _⟩
  case round =>
    obtain ⟨k, hk, hal, rfl, hg⟩ := hrel
    replace hal := Lib.hid hal
    have hgw : Gr w wr := (((Gr.refl _).alloc _).alloc _).trans hg
    have zw : w.heap.size + 1 < wr.heap.size := by have := hg.size; simp at this; omega
    have zw0 : w.heap.size < wr.heap.size := by omega
    obtain ⟨cw, fw, _⟩ := hg.cells
    simp only [World.size_alloc] at cw fw
    by_cases hlt : k < l.length
    · obtain ⟨s, hs⟩ := get_some l k hlt
      obtain ⟨b, off, rfl, hb, h0, h1, h2⟩ := (hl.gr hgw) k s hs
      have hc := rlegal_any s
      cases hleg : s.leg
      · rw [hleg] at hc
        replace hc := Lib.hid hc
        replace hleg := Lib.hid hleg
        go_wp2_with fail
        refine (hc.out _).mono ?_
        rintro e wa ⟨rfl, ga⟩
        obtain ⟨ca, fa, sa⟩ := ga.cells
        try simp only [size_drewN] at ca fa sa
        try simp only [World.size_alloc] at ca fa sa
        try simp only [World.size_drew] at ca fa sa
        try simp only [World.size_setCell] at ca fa sa
        have za0 : w.heap.size < wa.heap.size := by omega
        have ya0 : w.heap.size ≤ wa.heap.size := by omega
        have ka0 := fun o => ca (w.heap.size) o (by omega)
        have ja0 := fun o => fa (w.heap.size) o (by omega)
        go_wp2_with fail
        refine bodyPost_ret (v := .tuple #[partZ, .int .i64 10]) (by simp (maxDischargeDepth := 8) [results, Tryd.results11, go_sem, *]) rfl ⟨rfl, ?_⟩
        repeat (first | exact Gr.refl _ | apply Gr.alloc | apply Gr.drew | apply Gr.drewN | (refine Gr.setCell ?_ (by simp) _) | (refine Gr.trans ?_ (by assumption)))
      · rw [hleg] at hc
        replace hc := Lib.hid hc
        replace hleg := Lib.hid hleg
        go_wp2_with fail
        refine (hc.out _).mono ?_
        rintro e wa ⟨rfl, ga⟩
        obtain ⟨ca, fa, sa⟩ := ga.cells
        try simp only [size_drewN] at ca fa sa
        try simp only [World.size_alloc] at ca fa sa
        try simp only [World.size_drew] at ca fa sa
        try simp only [World.size_setCell] at ca fa sa
        have za0 : w.heap.size < wa.heap.size := by omega
        have ya0 : w.heap.size ≤ wa.heap.size := by omega
        have ka0 := fun o => ca (w.heap.size) o (by omega)
        have ja0 := fun o => fa (w.heap.size) o (by omega)
        go_wp2_with fail
        go_roundw
        case rel => exact ⟨k + 1, by omega, by rw [take_snoc hs, allLeg_snoc, hal.out, hleg.out]; rfl, by go_num, (hg.alloc _).trans ga⟩
        case measure => simp [intOf]; omega
    · have h1 := hal.out
      have h2 := h.out
      have : l.take k = l := List.take_of_length_le (by omega)
      rw [this, h2] at h1
      cases h1

set_option maxHeartbeats 1600000 in
theorem rservers_full (a : Option Addr) (l : List Srv) (c : Nat) (w : World) (hl : SrvsAt w a l) (hm : l.length ≤ maxLen) (h : allLeg l = true) (h8 : 8 < l.length) :
    Calls Tryd.prog 11 #[.slice a l.length c] w fun e w' => e = .returned (.tuple #[partZ, .int .i64 7]) ∧ Gr w w' := by
  unfold maxLen at hm
  replace h := Lib.hid h
  go_enter Tryd.func11, Tryd.ntmps11
  go_wp2_with fail
  go_loopw [13] (fun i wr => ∃ k : Nat, k ≤ l.length ∧ i = .int .i64 k ∧ Gr ((w.alloc z4).alloc z1) wr) (fun i _ => l.length - (intOf i).toNat)
  case atStart => exact ⟨0, Nat.zero_le _, rfl, Gr.refl _⟩
  case round =>
    obtain ⟨k, hk, rfl, hg⟩ := hrel
    have hgw : Gr w wr := (((Gr.refl _).alloc _).alloc _).trans hg
    have zw : w.heap.size + 1 < wr.heap.size := by have := hg.size; simp at this; omega
    have zw0 : w.heap.size < wr.heap.size := by omega
    obtain ⟨cw, fw, _⟩ := hg.cells
    simp only [World.size_alloc] at cw fw
    by_cases hlt : k < l.length
    · obtain ⟨s, hs⟩ := get_some l k hlt
      obtain ⟨b, off, rfl, hb, h0, h1, h2⟩ := (hl.gr hgw) k s hs
      have hc := rlegal_any s
      rw [allLeg_get h.out hs] at hc
      replace hc := Lib.hid hc
      go_wp2_with fail
      refine (hc.out _).mono ?_
      rintro e wa ⟨rfl, ga⟩
      obtain ⟨ca, fa, sa⟩ := ga.cells
      try simp only [size_drewN] at ca fa sa
      try simp only [World.size_alloc] at ca fa sa
      try simp only [World.size_drew] at ca fa sa
      try simp only [World.size_setCell] at ca fa sa
      have za0 : w.heap.size < wa.heap.size := by omega
      have ya0 : w.heap.size ≤ wa.heap.size := by omega
      have ka0 := fun o => ca (w.heap.size) o (by omega)
      have ja0 := fun o => fa (w.heap.size) o (by omega)
      go_wp2_with fail
      go_roundw
      case rel => exact ⟨k + 1, by omega, by go_num, (hg.alloc _).trans ga⟩
      case measure => simp [intOf]; omega
    · go_wp2_with fail
      refine bodyPost_ret (v := .tuple #[partZ, .int .i64 7]) (by simp (maxDischargeDepth := 8) [results, Tryd.results11, go_sem, *]) rfl ⟨rfl, ?_⟩
      repeat (first | exact Gr.refl _ | apply Gr.alloc | apply Gr.drew | apply Gr.drewN | (refine Gr.setCell ?_ (by simp) _) | (refine Gr.trans ?_ (by assumption)))

set_option maxHeartbeats 1600000 in
theorem rservers_yes (a : Option Addr) (l : List Srv) (c : Nat) (w : World) (hl : SrvsAt w a l) (h : allLeg l = true) (h8 : l.length ≤ 8) :
    Calls Tryd.prog 11 #[.slice a l.length c] w fun e w' => e = .returned (.tuple #[partV (shareS l), .int .i64 0]) ∧ Gr w w' := by
  go_enter Tryd.func11, Tryd.ntmps11
  go_wp2_with fail
  go_loopw [13] (fun i wr => ∃ k : Nat, k ≤ l.length ∧ i = .int .i64 k ∧ Gr ((w.alloc z4).alloc z1) wr) (fun i _ => l.length - (intOf i).toNat)
  case atStart => exact ⟨0, Nat.zero_le _, rfl, Gr.refl _⟩
  case round =>
    obtain ⟨k, hk, rfl, hg⟩ := hrel
    have hgw : Gr w wr := (((Gr.refl _).alloc _).alloc _).trans hg
    have zw : w.heap.size + 1 < wr.heap.size := by have := hg.size; simp at this; omega
    have zw0 : w.heap.size < wr.heap.size := by omega
    obtain ⟨cw, fw, _⟩ := hg.cells
    simp only [World.size_alloc] at cw fw
    by_cases hlt : k < l.length
    · obtain ⟨s, hs⟩ := get_some l k hlt
      obtain ⟨b, off, rfl, hb, h0, h1, h2⟩ := (hl.gr hgw) k s hs
      have hc := rlegal_any s
      rw [allLeg_get h hs] at hc
      replace hc := Lib.hid hc
      go_wp2_with fail
      refine (hc.out _).mono ?_
      rintro e wa ⟨rfl, ga⟩
      obtain ⟨ca, fa, sa⟩ := ga.cells
      try simp only [size_drewN] at ca fa sa
      try simp only [World.size_alloc] at ca fa sa
      try simp only [World.size_drew] at ca fa sa
      try simp only [World.size_setCell] at ca fa sa
      have za0 : w.heap.size < wa.heap.size := by omega
      have ya0 : w.heap.size ≤ wa.heap.size := by omega
      have ka0 := fun o => ca (w.heap.size) o (by omega)
      have ja0 := fun o => fa (w.heap.size) o (by omega)
      go_wp2_with fail
      go_roundw
      case rel => exact ⟨k + 1, by omega, by go_num, (hg.alloc _).trans ga⟩
      case measure => simp [intOf]; omega
    · go_wp2_with fail
      obtain ⟨wo, rfl⟩ : ∃ wo : World, wo = wr := ⟨_, rfl⟩
      have q0 : wo.cell? ⟨w.heap.size, 0, none⟩ = some (.int .u64 0) := by simp [go_sem, *]
      have q1 : wo.cell? ⟨w.heap.size, 1, none⟩ = some (.int .u64 0) := by simp [go_sem, *]
      have q2 : wo.cell? ⟨w.heap.size, 2, none⟩ = some (.int .u64 0) := by simp [go_sem, *]
      have q3 : wo.cell? ⟨w.heap.size, 3, none⟩ = some (.int .u64 0) := by simp [go_sem, *]
      have qf : ∀ o, wo.frozen? ⟨w.heap.size, o, none⟩ = false := fun o => by simp [go_sem, *]
      have p0 : wo.cell? ⟨w.heap.size + 1, 0, none⟩ = some (.int .u64 (hiW (shareS (l.take 0)).1)) := by simp [go_sem, *]; rfl
      have p1 : wo.cell? ⟨w.heap.size + 1, 1, none⟩ = some (.int .u64 (loW (shareS (l.take 0)).1)) := by simp [go_sem, *]; rfl
      have p2 : wo.cell? ⟨w.heap.size + 1, 2, none⟩ = some (.int .u64 (hiW (shareS (l.take 0)).2)) := by simp [go_sem, *]; rfl
      have p3 : wo.cell? ⟨w.heap.size + 1, 3, none⟩ = some (.int .u64 (loW (shareS (l.take 0)).2)) := by simp [go_sem, *]; rfl
      have pf : ∀ o, wo.frozen? ⟨w.heap.size + 1, o, none⟩ = false := fun o => by simp [go_sem, *]
      clear cw fw hg
      go_loopw [28] (fun i wx => ∃ j : Nat, j ≤ l.length ∧ i = .int .i64 j ∧ Gr w wx ∧ w.heap.size + 1 < wx.heap.size ∧ (∀ o, wx.frozen? ⟨w.heap.size, o, none⟩ = false) ∧ wx.cell? ⟨w.heap.size, 0, none⟩ = some (.int .u64 0) ∧ wx.cell? ⟨w.heap.size, 1, none⟩ = some (.int .u64 0) ∧ wx.cell? ⟨w.heap.size, 2, none⟩ = some (.int .u64 0) ∧ wx.cell? ⟨w.heap.size, 3, none⟩ = some (.int .u64 0) ∧ (∀ o, wx.frozen? ⟨w.heap.size + 1, o, none⟩ = false) ∧ wx.cell? ⟨w.heap.size + 1, 0, none⟩ = some (.int .u64 (hiW (shareS (l.take j)).1)) ∧ wx.cell? ⟨w.heap.size + 1, 1, none⟩ = some (.int .u64 (loW (shareS (l.take j)).1)) ∧ wx.cell? ⟨w.heap.size + 1, 2, none⟩ = some (.int .u64 (hiW (shareS (l.take j)).2)) ∧ wx.cell? ⟨w.heap.size + 1, 3, none⟩ = some (.int .u64 (loW (shareS (l.take j)).2))) (fun i _ => l.length - (intOf i).toNat)
      case atStart => exact ⟨0, Nat.zero_le _, rfl, hgw, zw, qf, q0, q1, q2, q3, pf, p0, p1, p2, p3⟩
      case round =>
        clear q0 q1 q2 q3 qf p0 p1 p2 p3 pf hgw zw zw0
        obtain ⟨j, hj, rfl, gx, zx, qf, q0, q1, q2, q3, fx, x0, x1, x2, x3⟩ := hrel
        have zx0 : w.heap.size < wr.heap.size := by omega
        have bd := shareS_bd l h j hj
        by_cases hlt2 : j < l.length
        · obtain ⟨s, hs⟩ := get_some l j hlt2
          obtain ⟨b, off, rfl, hb, h0, h1, h2⟩ := (hl.gr gx) j s hs
          have hleg := (Srv.leg_iff _).1 (allLeg_get h hs)
          obtain ⟨s1, s2, s3, s4, s5, s6, s7, s8, s9⟩ := share_step (by omega) bd ⟨hleg.2.2.1, hleg.2.2.2.1, hleg.2.2.2.2⟩
          have hsn : shareS (l.take (j + 1)) = plusP (shareS (l.take j)) s.q s.t := by rw [take_snoc hs, shareS_snoc]
          replace hsn := Lib.hid hsn
          generalize shareS (l.take j) = p at *
          obtain ⟨n, d⟩ := p
          dsimp only at s1 s2 s3 s4 s5 s6 s7 s8 s9 x0 x1 x2 x3
          clear bd
          go_wp2_with fail
          refine (rshare_any n d s.q s.t _ s1 s2 s3 s4 s5 s6 s7 s8 s9).mono ?_
          rintro e wp ⟨rfl, gp⟩
          obtain ⟨cp, fp, sp⟩ := gp.cells
          try simp only [size_drewN] at cp fp sp
          try simp only [World.size_alloc] at cp fp sp
          try simp only [World.size_drew] at cp fp sp
          try simp only [World.size_setCell] at cp fp sp
          have zp0 : w.heap.size < wp.heap.size := by omega
          have yp0 : w.heap.size ≤ wp.heap.size := by omega
          have kp0 := fun o => cp (w.heap.size) o (by omega)
          have jp0 := fun o => fp (w.heap.size) o (by omega)
          have zp1 : w.heap.size + 1 < wp.heap.size := by omega
          have kp1 := fun o => cp (w.heap.size + 1) o (by omega)
          have jp1 := fun o => fp (w.heap.size + 1) o (by omega)
          go_wp2_with fail
          go_roundw
          case rel =>
            refine ⟨j + 1, by omega, by go_num, ?_, by simp; omega, fun o => by simp [go_sem, *], ?_, ?_, ?_, ?_, fun o => by simp [go_sem, *], ?_, ?_, ?_, ?_⟩
            focus
              repeat (first | exact Gr.refl _ | apply Gr.alloc | apply Gr.drew | apply Gr.drewN | (refine Gr.setCell ?_ (by simp) _) | (refine Gr.trans ?_ (by assumption)))
            all_goals (first | (simp (maxDischargeDepth := 8) [go_sem, *]; done) | (rw [hsn.out]; simp (maxDischargeDepth := 8) [go_sem, plusP, *]))
          case measure => simp [intOf]; omega
        · have hj' : j = l.length := by omega
          subst hj'
          rw [List.take_length] at x0 x1 x2 x3
          go_wp2_with fail
          refine bodyPost_ret (v := .tuple #[partV (shareS l), .int .i64 0]) (by simp (maxDischargeDepth := 8) [results, Tryd.results11, go_sem, *]) rfl ⟨rfl, ?_⟩
          repeat (first | exact Gr.refl _ | apply Gr.alloc | apply Gr.drew | apply Gr.drewN | (refine Gr.setCell ?_ (by simp) _) | (refine Gr.trans ?_ (by assumption)))
end Go.Proofs.YtmookdgeblcjnaaDoor
