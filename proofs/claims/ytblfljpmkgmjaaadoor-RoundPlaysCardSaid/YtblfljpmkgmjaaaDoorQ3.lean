/- The reference's round: fits. Printed by gen_q3.py. -/
import Derived.Test.YtblfljpmkgmjaaaDoorQ2
namespace Go.Proofs.YtblfljpmkgmjaaaDoor
open Go.RowKit
variable {K0 : Nat → Prop}

set_option maxRecDepth 100000 in
set_option maxHeartbeats 3200000 in
theorem rfits_any (M : RnM) (st fr : Int) (b : Bal) (w : World) (mb : Nat) (h : RnAt K0 w mb M) :
    Calls Tryd.prog 95 #[.pointer (some ⟨mb, 0, none⟩), .int .i64 st, .int .i64 fr, .agg #[.int .i64 b.r, .int .i64 b.n]] w fun e w' => e = .returned (.bool (M.v.hears st fr b)) ∧ Gr w w' := by
  rw [hears_ref M.v M.nd M.hs rfl]
  obtain ⟨W, hW⟩ : ∃ W, W = w.alloc (.cells #[.int .i64 b.r, .int .i64 b.n] 39) := ⟨_, rfl⟩
  have g1 : Gr w W := by rw [hW]; exact (Gr.refl w).alloc _
  have hB : Blk W w.heap.size #[.int .i64 b.r, .int .i64 b.n] 39 := by rw [hW]; exact Blk.new w _ _
  have h1 := h.gr g1
  have x0 := GrW.cell (hB.cell (i := 0) (v := .int .i64 b.r) rfl)
  have x1 := GrW.cell (hB.cell (i := 1) (v := .int .i64 b.n) rfl)
  have c0 := GrW.cell (h1.o.cell (i := 0) (v := .int .i64 M.nd) rfl)
  have c12 := GrW.cell (h1.o.cell (i := 12) (v := .int .i64 M.bal.r) rfl)
  have c13 := GrW.cell (h1.o.cell (i := 13) (v := .int .i64 M.bal.n) rfl)
  have c14 := GrW.cell (h1.o.cell (i := 14) (v := .int .i64 M.st) rfl)
  have hh := fun x : GrW W => rheard_any M fr x.to mb (h1.gr x.gr)
  have hm : 0 ≤ fr → decide (fr ∈ ints M.hs) = decide (fr.toNat ∈ M.hs) := fun h0 => by
    obtain ⟨f, rfl⟩ := Int.eq_ofNat_of_zero_le h0
    simp only [Int.toNat_natCast]
    refine decide_eq_decide.2 ⟨fun h => ?_, fun h => List.mem_map.2 ⟨f, h, rfl⟩⟩
    obtain ⟨a, h1, h2⟩ := List.mem_map.1 h
    have : a = f := by omega
    rwa [← this]
  replace hW := Lib.hid hW
  replace hB := Lib.hid hB
  replace h1 := Lib.hid h1
  replace hh := Lib.hid hh
  replace g1 := Lib.hid g1
  clear h
  by_cases q1 : M.st = st
  · have t1 : (M.st == st) = true := by simpa using q1
    by_cases q2 : b.r = M.bal.r
    · have t2 : (b.r == M.bal.r) = true := by simpa using q2
      by_cases q3 : b.n = M.bal.n
      · have t3 : (b.n == M.bal.n) = true := by simpa using q3
        by_cases q4 : 0 ≤ fr
        · have t4 : decide (0 ≤ fr) = true := decide_eq_true q4
          by_cases q5 : fr < M.nd
          · have t5 : decide (fr < (M.nd : Int)) = true := decide_eq_true q5
            have hm' := hm q4
            cases q6 : decide (fr.toNat ∈ M.hs) with
            | true =>
              rw [q6] at hm'
              rw [hm'] at hh
              rw [show (decide (M.v.st = st) && decide (b.r = M.v.bal.r ∧ b.n = M.v.bal.n) && decide (0 ≤ fr) && decide (fr < (M.nd : Int)) && !true) = false by simp]
              clear hm q1 q2 q3 q4 q5
              go_enter Tryd.func95, Tryd.ntmps95
              go_upto_region 1 with fail
              rw [← hW.out]
              refine wp_region_grows (by kernel_rfl) (by kernel_rfl) ?_
              repeat (any_goals (first | go_big_quiet_step (first | (exact Calls.grows_same (hh.out _)) | fail) | quiet_step (first | (exact Calls.grows_same (hh.out _)) | fail)))
              refine wpQuiet_nil ?_
              intro wz hwq
              have gz := GrW.of hwq
              clear hwq
              obtain ⟨cz, fz, sz⟩ := gz.cells
              try simp only [size_drewN] at cz fz sz
              try simp only [World.size_alloc] at cz fz sz
              try simp only [World.size_drew] at cz fz sz
              try simp only [World.size_setCell] at cz fz sz
              go_wp2_with fail
              go_ret
              exact ⟨rfl, g1.out.trans gz⟩
            | false =>
              rw [q6] at hm'
              rw [hm'] at hh
              rw [show (decide (M.v.st = st) && decide (b.r = M.v.bal.r ∧ b.n = M.v.bal.n) && decide (0 ≤ fr) && decide (fr < (M.nd : Int)) && !false) = true by simp [q1, q2, q3, q4, q5]]
              clear hm q1 q2 q3 q4 q5
              go_enter Tryd.func95, Tryd.ntmps95
              go_upto_region 1 with fail
              rw [← hW.out]
              refine wp_region_grows (by kernel_rfl) (by kernel_rfl) ?_
              repeat (any_goals (first | go_big_quiet_step (first | (exact Calls.grows_same (hh.out _)) | fail) | quiet_step (first | (exact Calls.grows_same (hh.out _)) | fail)))
              refine wpQuiet_nil ?_
              intro wz hwq
              have gz := GrW.of hwq
              clear hwq
              obtain ⟨cz, fz, sz⟩ := gz.cells
              try simp only [size_drewN] at cz fz sz
              try simp only [World.size_alloc] at cz fz sz
              try simp only [World.size_drew] at cz fz sz
              try simp only [World.size_setCell] at cz fz sz
              go_wp2_with fail
              go_ret
              exact ⟨rfl, g1.out.trans gz⟩
          · have t5 : decide (fr < (M.nd : Int)) = false := decide_eq_false q5
            rw [t5, Bool.and_false, Bool.false_and]
            clear hm q1 q2 q3 q4 q5
            go_enter Tryd.func95, Tryd.ntmps95
            go_upto_region 1 with fail
            rw [← hW.out]
            refine wp_region_grows (by kernel_rfl) (by kernel_rfl) ?_
            repeat (any_goals (first | go_big_quiet_step (first | (exact Calls.grows_same (hh.out _)) | fail) | quiet_step (first | (exact Calls.grows_same (hh.out _)) | fail)))
            refine wpQuiet_nil ?_
            intro wz hwq
            have gz := GrW.of hwq
            clear hwq
            obtain ⟨cz, fz, sz⟩ := gz.cells
            try simp only [size_drewN] at cz fz sz
            try simp only [World.size_alloc] at cz fz sz
            try simp only [World.size_drew] at cz fz sz
            try simp only [World.size_setCell] at cz fz sz
            go_wp2_with fail
            go_ret
            exact ⟨rfl, g1.out.trans gz⟩
        · have t4 : decide (0 ≤ fr) = false := decide_eq_false q4
          rw [t4, Bool.and_false, Bool.false_and, Bool.false_and]
          clear hm q1 q2 q3 q4
          go_enter Tryd.func95, Tryd.ntmps95
          go_upto_region 1 with fail
          rw [← hW.out]
          refine wp_region_grows (by kernel_rfl) (by kernel_rfl) ?_
          repeat (any_goals (first | go_big_quiet_step (first | (exact Calls.grows_same (hh.out _)) | fail) | quiet_step (first | (exact Calls.grows_same (hh.out _)) | fail)))
          refine wpQuiet_nil ?_
          intro wz hwq
          have gz := GrW.of hwq
          clear hwq
          obtain ⟨cz, fz, sz⟩ := gz.cells
          try simp only [size_drewN] at cz fz sz
          try simp only [World.size_alloc] at cz fz sz
          try simp only [World.size_drew] at cz fz sz
          try simp only [World.size_setCell] at cz fz sz
          go_wp2_with fail
          go_ret
          exact ⟨rfl, g1.out.trans gz⟩
      · have t3 : (b.n == M.bal.n) = false := beq_eq_false_iff_ne.2 q3
        rw [show decide (b.r = M.v.bal.r ∧ b.n = M.v.bal.n) = false from decide_eq_false (fun h => q3 h.2), Bool.and_false, Bool.false_and, Bool.false_and, Bool.false_and]
        clear hm q1 q2 q3
        go_enter Tryd.func95, Tryd.ntmps95
        go_upto_region 1 with fail
        rw [← hW.out]
        refine wp_region_grows (by kernel_rfl) (by kernel_rfl) ?_
        repeat (any_goals (first | go_big_quiet_step (first | (exact Calls.grows_same (hh.out _)) | fail) | quiet_step (first | (exact Calls.grows_same (hh.out _)) | fail)))
        refine wpQuiet_nil ?_
        intro wz hwq
        have gz := GrW.of hwq
        clear hwq
        obtain ⟨cz, fz, sz⟩ := gz.cells
        try simp only [size_drewN] at cz fz sz
        try simp only [World.size_alloc] at cz fz sz
        try simp only [World.size_drew] at cz fz sz
        try simp only [World.size_setCell] at cz fz sz
        go_wp2_with fail
        go_ret
        exact ⟨rfl, g1.out.trans gz⟩
    · have t2 : (b.r == M.bal.r) = false := beq_eq_false_iff_ne.2 q2
      rw [show decide (b.r = M.v.bal.r ∧ b.n = M.v.bal.n) = false from decide_eq_false (fun h => q2 h.1), Bool.and_false, Bool.false_and, Bool.false_and, Bool.false_and]
      clear hm q1 q2
      go_enter Tryd.func95, Tryd.ntmps95
      go_upto_region 1 with fail
      rw [← hW.out]
      refine wp_region_grows (by kernel_rfl) (by kernel_rfl) ?_
      repeat (any_goals (first | go_big_quiet_step (first | (exact Calls.grows_same (hh.out _)) | fail) | quiet_step (first | (exact Calls.grows_same (hh.out _)) | fail)))
      refine wpQuiet_nil ?_
      intro wz hwq
      have gz := GrW.of hwq
      clear hwq
      obtain ⟨cz, fz, sz⟩ := gz.cells
      try simp only [size_drewN] at cz fz sz
      try simp only [World.size_alloc] at cz fz sz
      try simp only [World.size_drew] at cz fz sz
      try simp only [World.size_setCell] at cz fz sz
      go_wp2_with fail
      go_ret
      exact ⟨rfl, g1.out.trans gz⟩
  · have t1 : (M.st == st) = false := beq_eq_false_iff_ne.2 q1
    rw [show decide (M.v.st = st) = false from decide_eq_false q1, Bool.false_and, Bool.false_and, Bool.false_and, Bool.false_and]
    clear hm q1
    go_enter Tryd.func95, Tryd.ntmps95
    go_upto_region 1 with fail
    rw [← hW.out]
    refine wp_region_grows (by kernel_rfl) (by kernel_rfl) ?_
    repeat (any_goals (first | go_big_quiet_step (first | (exact Calls.grows_same (hh.out _)) | fail) | quiet_step (first | (exact Calls.grows_same (hh.out _)) | fail)))
    refine wpQuiet_nil ?_
    intro wz hwq
    have gz := GrW.of hwq
    clear hwq
    obtain ⟨cz, fz, sz⟩ := gz.cells
    try simp only [size_drewN] at cz fz sz
    try simp only [World.size_alloc] at cz fz sz
    try simp only [World.size_drew] at cz fz sz
    try simp only [World.size_setCell] at cz fz sz
    go_wp2_with fail
    go_ret
    exact ⟨rfl, g1.out.trans gz⟩
end Go.Proofs.YtblfljpmkgmjaaaDoor
