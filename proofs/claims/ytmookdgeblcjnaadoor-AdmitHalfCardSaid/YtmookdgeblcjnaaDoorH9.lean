/- AdmitHalf: the walk. -/
import Derived.Test.YtmookdgeblcjnaaDoorH7
namespace Go.Proofs.YtmookdgeblcjnaaDoor
open Go.RowKit

theorem neq_same (E : Nat → Addr) (g : Nat) (w : World) : (binOp .neq 28 (.iface 146 (.pointer (some (E g)))) (.iface 146 (.pointer (some (E g))))).run Tryd.prog w = .ok (.bool false) w := by
  obtain ⟨i, hi, hc⟩ := Option.map_eq_some_iff.1 Tryd.errComp
  obtain ⟨j, hj, hs⟩ := Option.map_eq_some_iff.1 Tryd.errSize
  simp only [binOp]
  simp [Op.equal, Op.maxDepth, run_equalIn_iface_ptr_same w 9998 (E g) Tryd.underlying28 Tryd.underlying146 hi hc hj]

set_option maxRecDepth 100000 in
set_option maxHeartbeats 6400000 in
theorem admitHalf_ok {G : List Nat} {E : Nat → Addr} (W : World) (hE : EAt G E W) (i0 : 0 ∈ G) (i1 : 1 ∈ G) (i3 : 3 ∈ G) (s : Srv) (a : Option Addr) (l : List Srv) (c : Nat) (n : Int) (hp : parOk s = true) (hl : SrvsAt W a l) (hm : l.length ≤ maxLen) :
    Calls Tryd.prog 3 #[.agg #[.int .i64 s.k, .int .i64 s.q, .int .i64 s.t], .slice a l.length c, .int .i64 n] W fun e w' => e = .returned (.bool true) ∧ Gr W w' := by
  have gw := (Gr.refl W).alloc (.cells #[.int .i64 s.k, .int .i64 s.q, .int .i64 s.t] 23)
  have hal := alive12_any _ (hE.gr gw) i0 i1 i3
  have hle := rlegal10_any s
  rw [hp] at hle
  have b1 : -193 < n.tmod 193 := Int.lt_tmod_of_pos n (by decide)
  have b2 : n.tmod 193 < 193 := Int.tmod_lt_of_pos n (by decide)
  obtain ⟨tn, hN⟩ : ∃ tn, 64 + n.tmod 193 % 193 = tn := ⟨_, rfl⟩
  have n1 : 64 ≤ tn := by omega
  have n2 : tn ≤ 256 := by omega
  have hq : 0 ≤ s.q * tn ∧ s.q * tn ≤ 256 * 256 ∧ 0 ≤ s.t ∧ s.t ≤ 256 := by
    cases hw : whole s with
    | true => obtain ⟨_, h2, h3⟩ := whole_iff.1 hw; rw [h2, h3]; omega
    | false =>
      obtain ⟨l1, l2, l3, l4, l5⟩ := par_leg hp hw
      have := mul_bd (show 0 ≤ s.q by omega) (show s.q ≤ 256 by omega) (show 0 ≤ tn by omega) n2
      omega
  obtain ⟨hq1, hq2, hq3, hq4⟩ := hq
  have hk0 : ∀ w, Gr W w → Calls Tryd.prog 10 #[.agg #[.int .i64 s.k, .int .i64 s.q, .int .i64 s.t], .slice none 0 0] w fun e w' => e = .returned .nilIface ∧ Gr w w' := fun w g => by
    have := kids_any s none [] 0 w (hE.gr g) i0 i1 i3 (fun i x h => by simp at h) (by simp)
    rw [kids_nil hp] at this
    exact this
  have hksm : ∀ w m, Gr W w → w.heap.size = m → (whole s = true ∨ (s.t ≤ 32 ∧ 4 * s.t ≤ s.q * tn)) → Calls Tryd.prog 10 #[.agg #[.int .i64 s.k, .int .i64 s.q, .int .i64 s.t], .slice (some ⟨m, 0, none⟩) 1 1] (w.alloc (.cells #[.int .i64 1, .int .i64 1, .int .i64 tn] 23)) fun e w' => e = .returned .nilIface ∧ Gr (w.alloc (.cells #[.int .i64 1, .int .i64 1, .int .i64 tn] 23)) w' := fun w m g hm hc => by
    subst hm
    have := kids_any s (some ⟨w.heap.size, 0, none⟩) [⟨1, 1, tn⟩] 1 _ (hE.gr (g.alloc _)) i0 i1 i3 (one_srv w ⟨1, 1, tn⟩) (by unfold maxLen; simp)
    rw [kids_small hp n1 n2 hc] at this
    exact this
  have heq := fun w => neq_same E 1 w
  have hkl := fun w (g : Gr W w) => kids_any s a l c w (hE.gr g) i0 i1 i3 (hl.gr g) hm
  unfold maxLen at hm
  replace hal := Lib.hid hal
  replace hle := Lib.hid hle
  replace hk0 := Lib.hid hk0
  replace hksm := Lib.hid hksm
  replace hkl := Lib.hid hkl
  cases hse : srvErr l with
  | some g0 =>
    have hsv : ∃ e : Int, (e == 0) = false ∧ ∀ w, Gr W w → Calls Tryd.prog 11 #[.slice a l.length c] w fun x w' => x = .returned (.tuple #[partZ, .int .i64 e]) ∧ Gr w w' := by
      unfold srvErr at hse
      split at hse
      · rename_i h1
        exact ⟨10, by decide, fun w g => rservers_no a l c w (hl.gr g) hm h1⟩
      · rename_i h1
        split at hse
        · rename_i h2
          exact ⟨7, by decide, fun w g => rservers_full a l c w (hl.gr g) hm (by simpa using h1) h2⟩
        · cases hse
    obtain ⟨e, he0, hsv⟩ := hsv
    replace hsv := Lib.hid hsv
    replace hp := Lib.hid hp
    replace hse := Lib.hid hse
    go_enter Tryd.func3, Tryd.ntmps3
    go_wp2_with fail
    refine (hal.out).mono ?_
    rintro e w1 ⟨rfl, g1⟩
    obtain ⟨c1, f1, s1⟩ := g1.cells
    try simp only [size_drewN] at c1 f1 s1
    try simp only [World.size_alloc] at c1 f1 s1
    try simp only [World.size_drew] at c1 f1 s1
    try simp only [World.size_setCell] at c1 f1 s1
    have z10 : W.heap.size < w1.heap.size := by omega
    have y10 : W.heap.size ≤ w1.heap.size := by omega
    have k10 := fun o => c1 (W.heap.size) o (by omega)
    have j10 := fun o => f1 (W.heap.size) o (by omega)
    go_wp2_with fail
    refine (hle.out _).mono ?_
    rintro e w2 ⟨rfl, g2⟩
    obtain ⟨c2, f2, s2⟩ := g2.cells
    try simp only [size_drewN] at c2 f2 s2
    try simp only [World.size_alloc] at c2 f2 s2
    try simp only [World.size_drew] at c2 f2 s2
    try simp only [World.size_setCell] at c2 f2 s2
    have z20 : W.heap.size < w2.heap.size := by omega
    have y20 : W.heap.size ≤ w2.heap.size := by omega
    have k20 := fun o => c2 (W.heap.size) o (by omega)
    have j20 := fun o => f2 (W.heap.size) o (by omega)
    have gA : Gr W w2 := (gw.trans g1).trans g2
    go_wp2_with fail
    go_wp2_with fail
    refine (hsv.out _ gA).mono ?_
    rintro e w3 ⟨rfl, g3⟩
    obtain ⟨c3, f3, s3⟩ := g3.cells
    try simp only [size_drewN] at c3 f3 s3
    try simp only [World.size_alloc] at c3 f3 s3
    try simp only [World.size_drew] at c3 f3 s3
    try simp only [World.size_setCell] at c3 f3 s3
    have z30 : W.heap.size < w3.heap.size := by omega
    have y30 : W.heap.size ≤ w3.heap.size := by omega
    have k30 := fun o => c3 (W.heap.size) o (by omega)
    have j30 := fun o => f3 (W.heap.size) o (by omega)
    have gB := (gA.trans g3).alloc (.cells #[.int .u64 0, .int .u64 0, .int .u64 0, .int .u64 0] 34)
    have hBox := ((((Blk.new W #[.int .i64 s.k, .int .i64 s.q, .int .i64 s.t] 23).gr g1).gr g2).gr g3).alloc (.cells #[.int .u64 0, .int .u64 0, .int .u64 0, .int .u64 0] 34)
    go_wp2_with fail
    refine (hk0.out _ gB).mono ?_
    rintro e w8 ⟨rfl, g8⟩
    have gT := gB.trans g8
    have gU := gT.alloc (.cells #[.int .i64 1, .int .i64 1, .int .i64 tn] 23)
    have x0 := (hBox.gr g8).cell (i := 0) rfl
    have x1 := (hBox.gr g8).cell (i := 1) rfl
    have x2 := (hBox.gr g8).cell (i := 2) rfl
    have zx := (hBox.gr g8).lt
    by_cases hw : whole s = true
    · have e1 : (s.k != 0) = false := by have := (whole_iff.1 hw).1; simpa using this
      replace hw := Lib.hid hw
      go_wp2_with fail
      refine (hksm.out _ (w8.heap.size + 1) gU (by simp) (.inl hw.out)).mono ?_
      rintro e w9 ⟨rfl, g9⟩
      go_wp2_with fail
      go_ret
      exact ⟨rfl, (gU.alloc _).trans g9⟩
    · have e1 : (s.k != 0) = true := by
        have hl := par_leg hp.out (by simpa using hw)
        have := hl.1
        simp
        omega
      by_cases c1 : 32 < s.t
      · go_wp2_with fail
        go_ret
        exact ⟨rfl, gU⟩
      · by_cases c2 : s.q * tn < 4 * s.t
        · go_wp2_with fail
          go_ret
          exact ⟨rfl, gU⟩
        · have c3 : 4 * s.t ≤ s.q * tn := by omega
          have c4 : s.t ≤ 32 := by omega
          go_wp2_with fail
          refine (hksm.out _ (w8.heap.size + 1) gU (by simp) (.inr ⟨c4, c3⟩)).mono ?_
          rintro e w9 ⟨rfl, g9⟩
          go_wp2_with fail
          go_ret
          exact ⟨rfl, (gU.alloc _).trans g9⟩
  | none =>
    obtain ⟨hal8, h8⟩ := srvErr_none hse
    have hsh := srvErr_shr hse
    have hsv := fun w (g : Gr W w) => rservers_yes a l c w (hl.gr g) hal8 h8
    have hwi := fun w => ref_within none (shareS l) s w (fun _ => hsh)
    rw [wiB_par, hp] at hwi
    have hkt := kids_tight (l := l) hp hse
    replace hsv := Lib.hid hsv
    replace hwi := Lib.hid hwi
    replace hp := Lib.hid hp
    replace hse := Lib.hid hse
    replace hsh := Lib.hid hsh
    replace hkt := Lib.hid hkt
    replace hal8 := Lib.hid hal8
    by_cases h0 : l.length = 0
    · have e0 : decide (0 < (l.length : Int)) = false := decide_eq_false (by omega)
      have h00 : (l.length : Int) ≤ 0 := by omega
      replace h0 := Lib.hid h0
      go_enter Tryd.func3, Tryd.ntmps3
      go_wp2_with fail
      refine (hal.out).mono ?_
      rintro e w1 ⟨rfl, g1⟩
      obtain ⟨c1, f1, s1⟩ := g1.cells
      try simp only [size_drewN] at c1 f1 s1
      try simp only [World.size_alloc] at c1 f1 s1
      try simp only [World.size_drew] at c1 f1 s1
      try simp only [World.size_setCell] at c1 f1 s1
      have z10 : W.heap.size < w1.heap.size := by omega
      have y10 : W.heap.size ≤ w1.heap.size := by omega
      have k10 := fun o => c1 (W.heap.size) o (by omega)
      have j10 := fun o => f1 (W.heap.size) o (by omega)
      go_wp2_with fail
      refine (hle.out _).mono ?_
      rintro e w2 ⟨rfl, g2⟩
      obtain ⟨c2, f2, s2⟩ := g2.cells
      try simp only [size_drewN] at c2 f2 s2
      try simp only [World.size_alloc] at c2 f2 s2
      try simp only [World.size_drew] at c2 f2 s2
      try simp only [World.size_setCell] at c2 f2 s2
      have z20 : W.heap.size < w2.heap.size := by omega
      have y20 : W.heap.size ≤ w2.heap.size := by omega
      have k20 := fun o => c2 (W.heap.size) o (by omega)
      have j20 := fun o => f2 (W.heap.size) o (by omega)
      have gA : Gr W w2 := (gw.trans g1).trans g2
      go_wp2_with fail
      go_wp2_with fail
      refine (hsv.out _ gA).mono ?_
      rintro e w3 ⟨rfl, g3⟩
      obtain ⟨c3, f3, s3⟩ := g3.cells
      try simp only [size_drewN] at c3 f3 s3
      try simp only [World.size_alloc] at c3 f3 s3
      try simp only [World.size_drew] at c3 f3 s3
      try simp only [World.size_setCell] at c3 f3 s3
      have z30 : W.heap.size < w3.heap.size := by omega
      have y30 : W.heap.size ≤ w3.heap.size := by omega
      have k30 := fun o => c3 (W.heap.size) o (by omega)
      have j30 := fun o => f3 (W.heap.size) o (by omega)
      have gB := (gA.trans g3).alloc (.cells #[.int .u64 (hiW (shareS l).1), .int .u64 (loW (shareS l).1), .int .u64 (hiW (shareS l).2), .int .u64 (loW (shareS l).2)] 34)
      have hBox := ((((Blk.new W #[.int .i64 s.k, .int .i64 s.q, .int .i64 s.t] 23).gr g1).gr g2).gr g3).alloc (.cells #[.int .u64 (hiW (shareS l).1), .int .u64 (loW (shareS l).1), .int .u64 (hiW (shareS l).2), .int .u64 (loW (shareS l).2)] 34)
      go_wp2_with fail
      refine (hk0.out _ gB).mono ?_
      rintro e w8 ⟨rfl, g8⟩
      have gT := gB.trans g8
      have gU := gT.alloc (.cells #[.int .i64 1, .int .i64 1, .int .i64 tn] 23)
      have x0 := (hBox.gr g8).cell (i := 0) rfl
      have x1 := (hBox.gr g8).cell (i := 1) rfl
      have x2 := (hBox.gr g8).cell (i := 2) rfl
      have zx := (hBox.gr g8).lt
      by_cases hw : whole s = true
      · have e1 : (s.k != 0) = false := by have := (whole_iff.1 hw).1; simpa using this
        replace hw := Lib.hid hw
        go_wp2_with fail
        refine (hksm.out _ (w8.heap.size + 1) gU (by simp) (.inl hw.out)).mono ?_
        rintro e w9 ⟨rfl, g9⟩
        go_wp2_with fail
        go_ret
        exact ⟨rfl, (gU.alloc _).trans g9⟩
      · have e1 : (s.k != 0) = true := by
          have hl := par_leg hp.out (by simpa using hw)
          have := hl.1
          simp
          omega
        by_cases c1 : 32 < s.t
        · go_wp2_with fail
          go_ret
          exact ⟨rfl, gU⟩
        · by_cases c2 : s.q * tn < 4 * s.t
          · go_wp2_with fail
            go_ret
            exact ⟨rfl, gU⟩
          · have c3 : 4 * s.t ≤ s.q * tn := by omega
            have c4 : s.t ≤ 32 := by omega
            go_wp2_with fail
            refine (hksm.out _ (w8.heap.size + 1) gU (by simp) (.inr ⟨c4, c3⟩)).mono ?_
            rintro e w9 ⟨rfl, g9⟩
            go_wp2_with fail
            go_ret
            exact ⟨rfl, (gU.alloc _).trans g9⟩
    · have h00 : 0 < (l.length : Int) := by omega
      obtain ⟨wC, hwC⟩ : ∃ wC, wC = wiC none (shareS l) s := ⟨_, rfl⟩
      rw [← hwC] at hwi hkt
      replace hwC := Lib.hid hwC
      clear h0
      go_enter Tryd.func3, Tryd.ntmps3
      go_wp2_with fail
      refine (hal.out).mono ?_
      rintro e w1 ⟨rfl, g1⟩
      obtain ⟨c1, f1, s1⟩ := g1.cells
      try simp only [size_drewN] at c1 f1 s1
      try simp only [World.size_alloc] at c1 f1 s1
      try simp only [World.size_drew] at c1 f1 s1
      try simp only [World.size_setCell] at c1 f1 s1
      have z10 : W.heap.size < w1.heap.size := by omega
      have y10 : W.heap.size ≤ w1.heap.size := by omega
      have k10 := fun o => c1 (W.heap.size) o (by omega)
      have j10 := fun o => f1 (W.heap.size) o (by omega)
      go_wp2_with fail
      refine (hle.out _).mono ?_
      rintro e w2 ⟨rfl, g2⟩
      obtain ⟨c2, f2, s2⟩ := g2.cells
      try simp only [size_drewN] at c2 f2 s2
      try simp only [World.size_alloc] at c2 f2 s2
      try simp only [World.size_drew] at c2 f2 s2
      try simp only [World.size_setCell] at c2 f2 s2
      have z20 : W.heap.size < w2.heap.size := by omega
      have y20 : W.heap.size ≤ w2.heap.size := by omega
      have k20 := fun o => c2 (W.heap.size) o (by omega)
      have j20 := fun o => f2 (W.heap.size) o (by omega)
      have gA : Gr W w2 := (gw.trans g1).trans g2
      go_wp2_with fail
      go_wp2_with fail
      refine (hsv.out _ gA).mono ?_
      rintro e w3 ⟨rfl, g3⟩
      obtain ⟨c3, f3, s3⟩ := g3.cells
      try simp only [size_drewN] at c3 f3 s3
      try simp only [World.size_alloc] at c3 f3 s3
      try simp only [World.size_drew] at c3 f3 s3
      try simp only [World.size_setCell] at c3 f3 s3
      have z30 : W.heap.size < w3.heap.size := by omega
      have y30 : W.heap.size ≤ w3.heap.size := by omega
      have k30 := fun o => c3 (W.heap.size) o (by omega)
      have j30 := fun o => f3 (W.heap.size) o (by omega)
      have gB := (gA.trans g3).alloc (.cells #[.int .u64 (hiW (shareS l).1), .int .u64 (loW (shareS l).1), .int .u64 (hiW (shareS l).2), .int .u64 (loW (shareS l).2)] 34)
      have hBox0 := ((((Blk.new W #[.int .i64 s.k, .int .i64 s.q, .int .i64 s.t] 23).gr g1).gr g2).gr g3).alloc (.cells #[.int .u64 (hiW (shareS l).1), .int .u64 (loW (shareS l).1), .int .u64 (hiW (shareS l).2), .int .u64 (loW (shareS l).2)] 34)
      go_wp2_with fail
      go_wp2_with fail
      refine (hwi.out _).mono ?_
      rintro e w4 ⟨rfl, g4⟩
      obtain ⟨c4, f4, s4⟩ := g4.cells
      try simp only [size_drewN] at c4 f4 s4
      try simp only [World.size_alloc] at c4 f4 s4
      try simp only [World.size_drew] at c4 f4 s4
      try simp only [World.size_setCell] at c4 f4 s4
      have gC := gB.trans g4
      have hBox1 := hBox0.gr g4
      have q0 := GrW.cell (hBox1.cell (i := 0) rfl)
      have q1 := GrW.cell (hBox1.cell (i := 1) rfl)
      have q2 := GrW.cell (hBox1.cell (i := 2) rfl)
      have q3 := GrW.cell ((hE.gr gC).c0 i1)
      by_cases hc : wC < 0
      · have hd : decide (0 ≤ wC) = false := decide_eq_false (by omega)
        go_wp2_with fail
        refine wp_region_grows (by kernel_rfl) (by kernel_rfl) ?_
        repeat (any_goals (first | go_big_quiet_step (first | (fail)) | quiet_step (first | (fail))))
        refine wpQuiet_nil ?_
        intro w5 hwq
        have g5 := GrW.of hwq
        clear hwq
        obtain ⟨c5, f5, s5⟩ := g5.cells
        try simp only [size_drewN] at c5 f5 s5
        try simp only [World.size_alloc] at c5 f5 s5
        try simp only [World.size_drew] at c5 f5 s5
        try simp only [World.size_setCell] at c5 f5 s5
        have gD := gC.trans g5
        have hBox := hBox1.gr g5
        have y0 := hBox.cell (i := 0) rfl
        have y1 := hBox.cell (i := 1) rfl
        have y2 := hBox.cell (i := 2) rfl
        have zy := hBox.lt
        clear q0 q1 q2 q3
        go_wp2_with fail
        refine (hk0.out _ gD).mono ?_
        rintro e w8 ⟨rfl, g8⟩
        have gT := gD.trans g8
        have gU := gT.alloc (.cells #[.int .i64 1, .int .i64 1, .int .i64 tn] 23)
        have x0 := (hBox.gr g8).cell (i := 0) rfl
        have x1 := (hBox.gr g8).cell (i := 1) rfl
        have x2 := (hBox.gr g8).cell (i := 2) rfl
        have zx := (hBox.gr g8).lt
        by_cases hw : whole s = true
        · have e1 : (s.k != 0) = false := by have := (whole_iff.1 hw).1; simpa using this
          replace hw := Lib.hid hw
          go_wp2_with fail
          refine (hksm.out _ (w8.heap.size + 1) gU (by simp) (.inl hw.out)).mono ?_
          rintro e w9 ⟨rfl, g9⟩
          go_wp2_with fail
          go_ret
          exact ⟨rfl, (gU.alloc _).trans g9⟩
        · have e1 : (s.k != 0) = true := by
            have hl := par_leg hp.out (by simpa using hw)
            have := hl.1
            simp
            omega
          by_cases c1 : 32 < s.t
          · go_wp2_with fail
            go_ret
            exact ⟨rfl, gU⟩
          · by_cases c2 : s.q * tn < 4 * s.t
            · go_wp2_with fail
              go_ret
              exact ⟨rfl, gU⟩
            · have c3 : 4 * s.t ≤ s.q * tn := by omega
              have c4 : s.t ≤ 32 := by omega
              go_wp2_with fail
              refine (hksm.out _ (w8.heap.size + 1) gU (by simp) (.inr ⟨c4, c3⟩)).mono ?_
              rintro e w9 ⟨rfl, g9⟩
              go_wp2_with fail
              go_ret
              exact ⟨rfl, (gU.alloc _).trans g9⟩
      · have hki : ∀ w, Gr W w → Calls Tryd.prog 10 #[.agg #[.int .i64 s.k, .int .i64 s.q, .int .i64 s.t], .slice a l.length c] w fun e w' => e = .returned (Value.iface 146 (.pointer (some (E 1)))) ∧ Gr w w' := fun w g => by
          have := hkl.out w g
          rw [hkt.out (by omega)] at this
          exact this
        have hc2 : 0 ≤ wC := by omega
        have hd : decide (0 ≤ wC) = true := decide_eq_true hc2
        replace hki := Lib.hid hki
        go_wp2_with fail
        refine wp_region_grows (by kernel_rfl) (by kernel_rfl) ?_
        repeat (any_goals (first | go_big_quiet_step (first | (exact Calls.grows (hki.out _ (gC.trans (by exact GrW.gr _))))) | quiet_step (first | (exact Calls.grows (hki.out _ (gC.trans (by exact GrW.gr _)))))))
        refine wpQuiet_nil ?_
        intro w5 hwq
        have g5 := GrW.of hwq
        clear hwq
        obtain ⟨c5, f5, s5⟩ := g5.cells
        try simp only [size_drewN] at c5 f5 s5
        try simp only [World.size_alloc] at c5 f5 s5
        try simp only [World.size_drew] at c5 f5 s5
        try simp only [World.size_setCell] at c5 f5 s5
        have gD := gC.trans g5
        have hBox := hBox1.gr g5
        have y0 := hBox.cell (i := 0) rfl
        have y1 := hBox.cell (i := 1) rfl
        have y2 := hBox.cell (i := 2) rfl
        have zy := hBox.lt
        clear q0 q1 q2 q3
        go_wp2_with fail
        refine (hk0.out _ gD).mono ?_
        rintro e w8 ⟨rfl, g8⟩
        have gT := gD.trans g8
        have gU := gT.alloc (.cells #[.int .i64 1, .int .i64 1, .int .i64 tn] 23)
        have x0 := (hBox.gr g8).cell (i := 0) rfl
        have x1 := (hBox.gr g8).cell (i := 1) rfl
        have x2 := (hBox.gr g8).cell (i := 2) rfl
        have zx := (hBox.gr g8).lt
        by_cases hw : whole s = true
        · have e1 : (s.k != 0) = false := by have := (whole_iff.1 hw).1; simpa using this
          replace hw := Lib.hid hw
          go_wp2_with fail
          refine (hksm.out _ (w8.heap.size + 1) gU (by simp) (.inl hw.out)).mono ?_
          rintro e w9 ⟨rfl, g9⟩
          go_wp2_with fail
          go_ret
          exact ⟨rfl, (gU.alloc _).trans g9⟩
        · have e1 : (s.k != 0) = true := by
            have hl := par_leg hp.out (by simpa using hw)
            have := hl.1
            simp
            omega
          by_cases c1 : 32 < s.t
          · go_wp2_with fail
            go_ret
            exact ⟨rfl, gU⟩
          · by_cases c2 : s.q * tn < 4 * s.t
            · go_wp2_with fail
              go_ret
              exact ⟨rfl, gU⟩
            · have c3 : 4 * s.t ≤ s.q * tn := by omega
              have c4 : s.t ≤ 32 := by omega
              go_wp2_with fail
              refine (hksm.out _ (w8.heap.size + 1) gU (by simp) (.inr ⟨c4, c3⟩)).mono ?_
              rintro e w9 ⟨rfl, g9⟩
              go_wp2_with fail
              go_ret
              exact ⟨rfl, (gU.alloc _).trans g9⟩

theorem admitHalf_any {G : List Nat} {E : Nat → Addr} (W : World) (hE : EAt G E W) (i0 : 0 ∈ G) (i1 : 1 ∈ G) (i3 : 3 ∈ G) (s : Srv) (a : Option Addr) (l : List Srv) (c : Nat) (n : Int) (hl : SrvsAt W a l) (hm : l.length ≤ maxLen) :
    Calls Tryd.prog 3 #[.agg #[.int .i64 s.k, .int .i64 s.q, .int .i64 s.t], .slice a l.length c, .int .i64 n] W fun e w' => e = .returned (.bool true) ∧ Gr W w' := by
  cases hp : parOk s with
  | false => exact admitHalf_bad W hE i0 i1 i3 s a l c n hp
  | true => exact admitHalf_ok W hE i0 i1 i3 s a l c n hp hl hm
end Go.Proofs.YtmookdgeblcjnaaDoor