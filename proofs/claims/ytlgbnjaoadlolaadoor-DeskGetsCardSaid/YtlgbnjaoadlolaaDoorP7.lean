/- desk.checkAsk. Printed by gen_p7.py. -/
import Derived.Test.YtlgbnjaoadlolaaDoorP6
import Derived.Test.YtlgbnjaoadlolaaDoorG20
namespace Go.Proofs.YtlgbnjaoadlolaaDoor
open Go.RowKit

/-- A question in form. -/
def askF (k : Int) (e : Ent) : Bool := (decide (k = 1) && entF e) || (decide (k = 2) && zoB e && decide (0 ≤ e.cl ∧ e.cl < 16 ∧ 1 ≤ e.nu ∧ e.nu ≤ 1099511627776))
set_option maxRecDepth 100000 in
set_option maxHeartbeats 3200000 in
theorem checkAsk_any {G : List Nat} {E : Nat → Addr} (k : Int) (x : EntM) (w : World) (h : x.ok Any w) (hE : EAt G E w) (i0 : 0 ∈ G) :
    Calls Tryd.prog 36 #[.agg #[.int .i64 k, .int .i64 x.e.cl, .int .i64 x.e.nu, .int .i64 x.e.kd, .int .i64 x.e.id, .int .i64 x.e.srv.k, .int .i64 x.e.srv.q, .int .i64 x.e.srv.t, .int .i64 x.e.po, .slice x.a x.e.tasks.length x.c, .int .i64 x.e.at_]] w fun e w' => e = .returned (entV E (askF k x.e)) ∧ Gr w w' := by
  by_cases h1 : k = 1
  · subst h1
    have hv : entV E (askF 1 x.e) = entV E (entF x.e) := by unfold askF; simp
    rw [hv]
    have hch := fun w' (g : Gr w w') => check_any x w' (h.gr g) (hE.gr g) i0
    generalize entV E (entF x.e) = v at *
    replace hch := Lib.hid hch
    replace hv := Lib.hid hv
    replace h := Lib.hid h
    go_enter Tryd.func36, Tryd.ntmps36
    go_wp2_with fail
    refine (entry_any 1 x _).mono ?_
    rintro e wa ⟨rfl, ga⟩
    obtain ⟨ca, fa, sa⟩ := ga.cells
    try simp only [size_drewN] at ca fa sa
    try simp only [World.size_alloc] at ca fa sa
    try simp only [World.size_drew] at ca fa sa
    try simp only [World.size_setCell] at ca fa sa
    go_wp2_with fail
    go_wp2_with fail
    refine (hch.out _ (((Gr.refl w).alloc _).trans ga)).mono ?_
    rintro e wb ⟨rfl, gb⟩
    obtain ⟨cb, fb, sb⟩ := gb.cells
    try simp only [size_drewN] at cb fb sb
    try simp only [World.size_alloc] at cb fb sb
    try simp only [World.size_drew] at cb fb sb
    try simp only [World.size_setCell] at cb fb sb
    go_wp2_with fail
    go_ret
    exact ⟨rfl, (((Gr.refl w).alloc _).trans ga).trans gb⟩
  · have t1 : (k == 1) = false := by simpa using h1
    by_cases h2 : k = 2
    · subst h2
      have hv : askF 2 x.e = (zoB x.e && decide (0 ≤ x.e.cl ∧ x.e.cl < 16 ∧ 1 ≤ x.e.nu ∧ x.e.nu ≤ 1099511627776)) := by unfold askF; simp
      rw [hv]
      have hsm := fun w => same0_any x w
      clear h1 h hv
      cases hz : zoB x.e with
      | false =>
        rw [hz] at hsm
        rw [Bool.false_and]
        replace hsm := Lib.hid hsm
        replace hz := Lib.hid hz
        go_enter Tryd.func36, Tryd.ntmps36
        go_upto_region 5 with fail
        have hb := Blk.new w #[.int .i64 2, .int .i64 x.e.cl, .int .i64 x.e.nu, .int .i64 x.e.kd, .int .i64 x.e.id, .int .i64 x.e.srv.k, .int .i64 x.e.srv.q, .int .i64 x.e.srv.t, .int .i64 x.e.po, .slice x.a x.e.tasks.length x.c, .int .i64 x.e.at_] 31
        have q0 := GrW.cell (hb.cell (i := 0) (v := .int .i64 2) rfl)
        have q1 := GrW.cell (hb.cell (i := 1) (v := .int .i64 x.e.cl) rfl)
        have q2 := GrW.cell (hb.cell (i := 2) (v := .int .i64 x.e.nu) rfl)
        have q3 := GrW.cell (hb.cell (i := 3) (v := .int .i64 x.e.kd) rfl)
        have q4 := GrW.cell (hb.cell (i := 4) (v := .int .i64 x.e.id) rfl)
        have q5 := GrW.cell (hb.cell (i := 5) (v := .int .i64 x.e.srv.k) rfl)
        have q6 := GrW.cell (hb.cell (i := 6) (v := .int .i64 x.e.srv.q) rfl)
        have q7 := GrW.cell (hb.cell (i := 7) (v := .int .i64 x.e.srv.t) rfl)
        have q8 := GrW.cell (hb.cell (i := 8) (v := .int .i64 x.e.po) rfl)
        have q9 := GrW.cell (hb.cell (i := 9) (v := .slice x.a x.e.tasks.length x.c) rfl)
        have q10 := GrW.cell (hb.cell (i := 10) (v := .int .i64 x.e.at_) rfl)
        refine wp_region_grows (by kernel_rfl) (by kernel_rfl) ?_
        repeat (any_goals (first | go_big_quiet_step (first | (exact Calls.grows (entry_any 2 x _)) | (exact Calls.grows (hsm.out _))) | quiet_step (first | (exact Calls.grows (entry_any 2 x _)) | (exact Calls.grows (hsm.out _)))))
        refine wpQuiet_nil ?_
        intro wz hwq
        have gz := GrW.of hwq
        clear hwq
        obtain ⟨cz, fz, sz⟩ := gz.cells
        try simp only [size_drewN] at cz fz sz
        try simp only [World.size_alloc] at cz fz sz
        try simp only [World.size_drew] at cz fz sz
        try simp only [World.size_setCell] at cz fz sz
        have zz0 : w.heap.size < wz.heap.size := by omega
        have yz0 : w.heap.size ≤ wz.heap.size := by omega
        have kz0 := fun o => cz (w.heap.size) o (by omega)
        have jz0 := fun o => fz (w.heap.size) o (by omega)
        have he := (hE.gr (((Gr.refl w).alloc _).trans gz)).c0 i0
        clear cz fz
        go_wp2_with fail
        go_ret
        exact ⟨rfl, ((Gr.refl w).alloc _).trans gz⟩
      | true =>
        rw [hz] at hsm
        rw [Bool.true_and]
        replace hsm := Lib.hid hsm
        replace hz := Lib.hid hz
        by_cases n1 : 0 ≤ x.e.cl
        · by_cases n2 : x.e.cl < 16
          · by_cases n3 : 1 ≤ x.e.nu
            · by_cases n4 : x.e.nu ≤ 1099511627776
              · rw [decide_eq_true (show 0 ≤ x.e.cl ∧ x.e.cl < 16 ∧ 1 ≤ x.e.nu ∧ x.e.nu ≤ 1099511627776 from ⟨n1, n2, n3, n4⟩)]
                go_enter Tryd.func36, Tryd.ntmps36
                go_upto_region 5 with fail
                have hb := Blk.new w #[.int .i64 2, .int .i64 x.e.cl, .int .i64 x.e.nu, .int .i64 x.e.kd, .int .i64 x.e.id, .int .i64 x.e.srv.k, .int .i64 x.e.srv.q, .int .i64 x.e.srv.t, .int .i64 x.e.po, .slice x.a x.e.tasks.length x.c, .int .i64 x.e.at_] 31
                have q0 := GrW.cell (hb.cell (i := 0) (v := .int .i64 2) rfl)
                have q1 := GrW.cell (hb.cell (i := 1) (v := .int .i64 x.e.cl) rfl)
                have q2 := GrW.cell (hb.cell (i := 2) (v := .int .i64 x.e.nu) rfl)
                have q3 := GrW.cell (hb.cell (i := 3) (v := .int .i64 x.e.kd) rfl)
                have q4 := GrW.cell (hb.cell (i := 4) (v := .int .i64 x.e.id) rfl)
                have q5 := GrW.cell (hb.cell (i := 5) (v := .int .i64 x.e.srv.k) rfl)
                have q6 := GrW.cell (hb.cell (i := 6) (v := .int .i64 x.e.srv.q) rfl)
                have q7 := GrW.cell (hb.cell (i := 7) (v := .int .i64 x.e.srv.t) rfl)
                have q8 := GrW.cell (hb.cell (i := 8) (v := .int .i64 x.e.po) rfl)
                have q9 := GrW.cell (hb.cell (i := 9) (v := .slice x.a x.e.tasks.length x.c) rfl)
                have q10 := GrW.cell (hb.cell (i := 10) (v := .int .i64 x.e.at_) rfl)
                refine wp_region_grows (by kernel_rfl) (by kernel_rfl) ?_
                repeat (any_goals (first | go_big_quiet_step (first | (exact Calls.grows (entry_any 2 x _)) | (exact Calls.grows (hsm.out _))) | quiet_step (first | (exact Calls.grows (entry_any 2 x _)) | (exact Calls.grows (hsm.out _)))))
                refine wpQuiet_nil ?_
                intro wz hwq
                have gz := GrW.of hwq
                clear hwq
                obtain ⟨cz, fz, sz⟩ := gz.cells
                try simp only [size_drewN] at cz fz sz
                try simp only [World.size_alloc] at cz fz sz
                try simp only [World.size_drew] at cz fz sz
                try simp only [World.size_setCell] at cz fz sz
                have zz0 : w.heap.size < wz.heap.size := by omega
                have yz0 : w.heap.size ≤ wz.heap.size := by omega
                have kz0 := fun o => cz (w.heap.size) o (by omega)
                have jz0 := fun o => fz (w.heap.size) o (by omega)
                have he := (hE.gr (((Gr.refl w).alloc _).trans gz)).c0 i0
                clear cz fz
                go_wp2_with fail
                go_ret
                exact ⟨rfl, ((Gr.refl w).alloc _).trans gz⟩
              · rw [decide_eq_false (show ¬ (0 ≤ x.e.cl ∧ x.e.cl < 16 ∧ 1 ≤ x.e.nu ∧ x.e.nu ≤ 1099511627776) from fun e => n4 e.2.2.2)]
                go_enter Tryd.func36, Tryd.ntmps36
                go_upto_region 5 with fail
                have hb := Blk.new w #[.int .i64 2, .int .i64 x.e.cl, .int .i64 x.e.nu, .int .i64 x.e.kd, .int .i64 x.e.id, .int .i64 x.e.srv.k, .int .i64 x.e.srv.q, .int .i64 x.e.srv.t, .int .i64 x.e.po, .slice x.a x.e.tasks.length x.c, .int .i64 x.e.at_] 31
                have q0 := GrW.cell (hb.cell (i := 0) (v := .int .i64 2) rfl)
                have q1 := GrW.cell (hb.cell (i := 1) (v := .int .i64 x.e.cl) rfl)
                have q2 := GrW.cell (hb.cell (i := 2) (v := .int .i64 x.e.nu) rfl)
                have q3 := GrW.cell (hb.cell (i := 3) (v := .int .i64 x.e.kd) rfl)
                have q4 := GrW.cell (hb.cell (i := 4) (v := .int .i64 x.e.id) rfl)
                have q5 := GrW.cell (hb.cell (i := 5) (v := .int .i64 x.e.srv.k) rfl)
                have q6 := GrW.cell (hb.cell (i := 6) (v := .int .i64 x.e.srv.q) rfl)
                have q7 := GrW.cell (hb.cell (i := 7) (v := .int .i64 x.e.srv.t) rfl)
                have q8 := GrW.cell (hb.cell (i := 8) (v := .int .i64 x.e.po) rfl)
                have q9 := GrW.cell (hb.cell (i := 9) (v := .slice x.a x.e.tasks.length x.c) rfl)
                have q10 := GrW.cell (hb.cell (i := 10) (v := .int .i64 x.e.at_) rfl)
                refine wp_region_grows (by kernel_rfl) (by kernel_rfl) ?_
                repeat (any_goals (first | go_big_quiet_step (first | (exact Calls.grows (entry_any 2 x _)) | (exact Calls.grows (hsm.out _))) | quiet_step (first | (exact Calls.grows (entry_any 2 x _)) | (exact Calls.grows (hsm.out _)))))
                refine wpQuiet_nil ?_
                intro wz hwq
                have gz := GrW.of hwq
                clear hwq
                obtain ⟨cz, fz, sz⟩ := gz.cells
                try simp only [size_drewN] at cz fz sz
                try simp only [World.size_alloc] at cz fz sz
                try simp only [World.size_drew] at cz fz sz
                try simp only [World.size_setCell] at cz fz sz
                have zz0 : w.heap.size < wz.heap.size := by omega
                have yz0 : w.heap.size ≤ wz.heap.size := by omega
                have kz0 := fun o => cz (w.heap.size) o (by omega)
                have jz0 := fun o => fz (w.heap.size) o (by omega)
                have he := (hE.gr (((Gr.refl w).alloc _).trans gz)).c0 i0
                clear cz fz
                go_wp2_with fail
                go_ret
                exact ⟨rfl, ((Gr.refl w).alloc _).trans gz⟩
            · rw [decide_eq_false (show ¬ (0 ≤ x.e.cl ∧ x.e.cl < 16 ∧ 1 ≤ x.e.nu ∧ x.e.nu ≤ 1099511627776) from fun e => n3 e.2.2.1)]
              go_enter Tryd.func36, Tryd.ntmps36
              go_upto_region 5 with fail
              have hb := Blk.new w #[.int .i64 2, .int .i64 x.e.cl, .int .i64 x.e.nu, .int .i64 x.e.kd, .int .i64 x.e.id, .int .i64 x.e.srv.k, .int .i64 x.e.srv.q, .int .i64 x.e.srv.t, .int .i64 x.e.po, .slice x.a x.e.tasks.length x.c, .int .i64 x.e.at_] 31
              have q0 := GrW.cell (hb.cell (i := 0) (v := .int .i64 2) rfl)
              have q1 := GrW.cell (hb.cell (i := 1) (v := .int .i64 x.e.cl) rfl)
              have q2 := GrW.cell (hb.cell (i := 2) (v := .int .i64 x.e.nu) rfl)
              have q3 := GrW.cell (hb.cell (i := 3) (v := .int .i64 x.e.kd) rfl)
              have q4 := GrW.cell (hb.cell (i := 4) (v := .int .i64 x.e.id) rfl)
              have q5 := GrW.cell (hb.cell (i := 5) (v := .int .i64 x.e.srv.k) rfl)
              have q6 := GrW.cell (hb.cell (i := 6) (v := .int .i64 x.e.srv.q) rfl)
              have q7 := GrW.cell (hb.cell (i := 7) (v := .int .i64 x.e.srv.t) rfl)
              have q8 := GrW.cell (hb.cell (i := 8) (v := .int .i64 x.e.po) rfl)
              have q9 := GrW.cell (hb.cell (i := 9) (v := .slice x.a x.e.tasks.length x.c) rfl)
              have q10 := GrW.cell (hb.cell (i := 10) (v := .int .i64 x.e.at_) rfl)
              refine wp_region_grows (by kernel_rfl) (by kernel_rfl) ?_
              repeat (any_goals (first | go_big_quiet_step (first | (exact Calls.grows (entry_any 2 x _)) | (exact Calls.grows (hsm.out _))) | quiet_step (first | (exact Calls.grows (entry_any 2 x _)) | (exact Calls.grows (hsm.out _)))))
              refine wpQuiet_nil ?_
              intro wz hwq
              have gz := GrW.of hwq
              clear hwq
              obtain ⟨cz, fz, sz⟩ := gz.cells
              try simp only [size_drewN] at cz fz sz
              try simp only [World.size_alloc] at cz fz sz
              try simp only [World.size_drew] at cz fz sz
              try simp only [World.size_setCell] at cz fz sz
              have zz0 : w.heap.size < wz.heap.size := by omega
              have yz0 : w.heap.size ≤ wz.heap.size := by omega
              have kz0 := fun o => cz (w.heap.size) o (by omega)
              have jz0 := fun o => fz (w.heap.size) o (by omega)
              have he := (hE.gr (((Gr.refl w).alloc _).trans gz)).c0 i0
              clear cz fz
              go_wp2_with fail
              go_ret
              exact ⟨rfl, ((Gr.refl w).alloc _).trans gz⟩
          · rw [decide_eq_false (show ¬ (0 ≤ x.e.cl ∧ x.e.cl < 16 ∧ 1 ≤ x.e.nu ∧ x.e.nu ≤ 1099511627776) from fun e => n2 e.2.1)]
            go_enter Tryd.func36, Tryd.ntmps36
            go_upto_region 5 with fail
            have hb := Blk.new w #[.int .i64 2, .int .i64 x.e.cl, .int .i64 x.e.nu, .int .i64 x.e.kd, .int .i64 x.e.id, .int .i64 x.e.srv.k, .int .i64 x.e.srv.q, .int .i64 x.e.srv.t, .int .i64 x.e.po, .slice x.a x.e.tasks.length x.c, .int .i64 x.e.at_] 31
            have q0 := GrW.cell (hb.cell (i := 0) (v := .int .i64 2) rfl)
            have q1 := GrW.cell (hb.cell (i := 1) (v := .int .i64 x.e.cl) rfl)
            have q2 := GrW.cell (hb.cell (i := 2) (v := .int .i64 x.e.nu) rfl)
            have q3 := GrW.cell (hb.cell (i := 3) (v := .int .i64 x.e.kd) rfl)
            have q4 := GrW.cell (hb.cell (i := 4) (v := .int .i64 x.e.id) rfl)
            have q5 := GrW.cell (hb.cell (i := 5) (v := .int .i64 x.e.srv.k) rfl)
            have q6 := GrW.cell (hb.cell (i := 6) (v := .int .i64 x.e.srv.q) rfl)
            have q7 := GrW.cell (hb.cell (i := 7) (v := .int .i64 x.e.srv.t) rfl)
            have q8 := GrW.cell (hb.cell (i := 8) (v := .int .i64 x.e.po) rfl)
            have q9 := GrW.cell (hb.cell (i := 9) (v := .slice x.a x.e.tasks.length x.c) rfl)
            have q10 := GrW.cell (hb.cell (i := 10) (v := .int .i64 x.e.at_) rfl)
            refine wp_region_grows (by kernel_rfl) (by kernel_rfl) ?_
            repeat (any_goals (first | go_big_quiet_step (first | (exact Calls.grows (entry_any 2 x _)) | (exact Calls.grows (hsm.out _))) | quiet_step (first | (exact Calls.grows (entry_any 2 x _)) | (exact Calls.grows (hsm.out _)))))
            refine wpQuiet_nil ?_
            intro wz hwq
            have gz := GrW.of hwq
            clear hwq
            obtain ⟨cz, fz, sz⟩ := gz.cells
            try simp only [size_drewN] at cz fz sz
            try simp only [World.size_alloc] at cz fz sz
            try simp only [World.size_drew] at cz fz sz
            try simp only [World.size_setCell] at cz fz sz
            have zz0 : w.heap.size < wz.heap.size := by omega
            have yz0 : w.heap.size ≤ wz.heap.size := by omega
            have kz0 := fun o => cz (w.heap.size) o (by omega)
            have jz0 := fun o => fz (w.heap.size) o (by omega)
            have he := (hE.gr (((Gr.refl w).alloc _).trans gz)).c0 i0
            clear cz fz
            go_wp2_with fail
            go_ret
            exact ⟨rfl, ((Gr.refl w).alloc _).trans gz⟩
        · rw [decide_eq_false (show ¬ (0 ≤ x.e.cl ∧ x.e.cl < 16 ∧ 1 ≤ x.e.nu ∧ x.e.nu ≤ 1099511627776) from fun e => n1 e.1)]
          go_enter Tryd.func36, Tryd.ntmps36
          go_upto_region 5 with fail
          have hb := Blk.new w #[.int .i64 2, .int .i64 x.e.cl, .int .i64 x.e.nu, .int .i64 x.e.kd, .int .i64 x.e.id, .int .i64 x.e.srv.k, .int .i64 x.e.srv.q, .int .i64 x.e.srv.t, .int .i64 x.e.po, .slice x.a x.e.tasks.length x.c, .int .i64 x.e.at_] 31
          have q0 := GrW.cell (hb.cell (i := 0) (v := .int .i64 2) rfl)
          have q1 := GrW.cell (hb.cell (i := 1) (v := .int .i64 x.e.cl) rfl)
          have q2 := GrW.cell (hb.cell (i := 2) (v := .int .i64 x.e.nu) rfl)
          have q3 := GrW.cell (hb.cell (i := 3) (v := .int .i64 x.e.kd) rfl)
          have q4 := GrW.cell (hb.cell (i := 4) (v := .int .i64 x.e.id) rfl)
          have q5 := GrW.cell (hb.cell (i := 5) (v := .int .i64 x.e.srv.k) rfl)
          have q6 := GrW.cell (hb.cell (i := 6) (v := .int .i64 x.e.srv.q) rfl)
          have q7 := GrW.cell (hb.cell (i := 7) (v := .int .i64 x.e.srv.t) rfl)
          have q8 := GrW.cell (hb.cell (i := 8) (v := .int .i64 x.e.po) rfl)
          have q9 := GrW.cell (hb.cell (i := 9) (v := .slice x.a x.e.tasks.length x.c) rfl)
          have q10 := GrW.cell (hb.cell (i := 10) (v := .int .i64 x.e.at_) rfl)
          refine wp_region_grows (by kernel_rfl) (by kernel_rfl) ?_
          repeat (any_goals (first | go_big_quiet_step (first | (exact Calls.grows (entry_any 2 x _)) | (exact Calls.grows (hsm.out _))) | quiet_step (first | (exact Calls.grows (entry_any 2 x _)) | (exact Calls.grows (hsm.out _)))))
          refine wpQuiet_nil ?_
          intro wz hwq
          have gz := GrW.of hwq
          clear hwq
          obtain ⟨cz, fz, sz⟩ := gz.cells
          try simp only [size_drewN] at cz fz sz
          try simp only [World.size_alloc] at cz fz sz
          try simp only [World.size_drew] at cz fz sz
          try simp only [World.size_setCell] at cz fz sz
          have zz0 : w.heap.size < wz.heap.size := by omega
          have yz0 : w.heap.size ≤ wz.heap.size := by omega
          have kz0 := fun o => cz (w.heap.size) o (by omega)
          have jz0 := fun o => fz (w.heap.size) o (by omega)
          have he := (hE.gr (((Gr.refl w).alloc _).trans gz)).c0 i0
          clear cz fz
          go_wp2_with fail
          go_ret
          exact ⟨rfl, ((Gr.refl w).alloc _).trans gz⟩
    · have t2 : (k == 2) = false := by simpa using h2
      have hv : askF k x.e = false := by unfold askF; rw [decide_eq_false h1, decide_eq_false h2]; rfl
      rw [hv]
      have he := (hE.gr ((Gr.refl w).alloc (.cells #[.int .i64 k, .int .i64 x.e.cl, .int .i64 x.e.nu, .int .i64 x.e.kd, .int .i64 x.e.id, .int .i64 x.e.srv.k, .int .i64 x.e.srv.q, .int .i64 x.e.srv.t, .int .i64 x.e.po, .slice x.a x.e.tasks.length x.c, .int .i64 x.e.at_] 31))).c0 i0
      replace h := Lib.hid h
      replace hv := Lib.hid hv
      go_enter Tryd.func36, Tryd.ntmps36
      go_wp2_with fail
      go_ret
      exact ⟨rfl, (Gr.refl w).alloc _⟩
end Go.Proofs.YtlgbnjaoadlolaaDoor
