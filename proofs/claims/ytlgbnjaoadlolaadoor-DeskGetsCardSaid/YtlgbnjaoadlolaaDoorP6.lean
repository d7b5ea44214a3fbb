/- desk.entry; slices.Equal of tasks against none; order.Same against the order of nothing; desk.checkAsk. Printed by gen_p6.py. -/
import Derived.Test.YtlgbnjaoadlolaaDoorP5
import Derived.Test.YtlgbnjaoadlolaaDoorG5
import Derived.Test.YtlgbnjaoadlolaaDoorG21
import Derived.Deep.DeepCutAuto
namespace Go.Proofs.YtlgbnjaoadlolaaDoor
open Go.RowKit

set_option maxHeartbeats 800000 in
theorem entry_any (k : Int) (x : EntM) (w : World) :
    Calls Tryd.prog 38 #[.agg #[.int .i64 k, .int .i64 x.e.cl, .int .i64 x.e.nu, .int .i64 x.e.kd, .int .i64 x.e.id, .int .i64 x.e.srv.k, .int .i64 x.e.srv.q, .int .i64 x.e.srv.t, .int .i64 x.e.po, .slice x.a x.e.tasks.length x.c, .int .i64 x.e.at_]] w fun e w' => e = .returned (.agg #[.int .i64 x.e.cl, .int .i64 x.e.nu, .int .i64 x.e.kd, .int .i64 x.e.id, .int .i64 x.e.srv.k, .int .i64 x.e.srv.q, .int .i64 x.e.srv.t, .int .i64 x.e.po, .slice x.a x.e.tasks.length x.c, .int .i64 x.e.at_]) ∧ Gr w w' := by
  go_enter Tryd.func38, Tryd.ntmps38
  go_wp2
  refine bodyPost_ret (v := .agg #[.int .i64 x.e.cl, .int .i64 x.e.nu, .int .i64 x.e.kd, .int .i64 x.e.id, .int .i64 x.e.srv.k, .int .i64 x.e.srv.q, .int .i64 x.e.srv.t, .int .i64 x.e.po, .slice x.a x.e.tasks.length x.c, .int .i64 x.e.at_]) (by simp [results, Tryd.results38, go_sem]) rfl ⟨rfl, ?_⟩
  repeat (first | exact Gr.refl _ | apply Gr.alloc | apply Gr.drew | apply Gr.drewN | (refine Gr.setCell ?_ (by simp) _) | (refine Gr.trans ?_ (by assumption)))

set_option maxHeartbeats 800000 in
theorem rentry_any (k : Int) (x : EntM) (w : World) :
    Calls Tryd.prog 41 #[.agg #[.int .i64 k, .int .i64 x.e.cl, .int .i64 x.e.nu, .int .i64 x.e.kd, .int .i64 x.e.id, .int .i64 x.e.srv.k, .int .i64 x.e.srv.q, .int .i64 x.e.srv.t, .int .i64 x.e.po, .slice x.a x.e.tasks.length x.c, .int .i64 x.e.at_]] w fun e w' => e = .returned (.agg #[.int .i64 x.e.cl, .int .i64 x.e.nu, .int .i64 x.e.kd, .int .i64 x.e.id, .int .i64 x.e.srv.k, .int .i64 x.e.srv.q, .int .i64 x.e.srv.t, .int .i64 x.e.po, .slice x.a x.e.tasks.length x.c, .int .i64 x.e.at_]) ∧ Gr w w' := by
  go_enter Tryd.func41, Tryd.ntmps41
  go_wp2
  refine bodyPost_ret (v := .agg #[.int .i64 x.e.cl, .int .i64 x.e.nu, .int .i64 x.e.kd, .int .i64 x.e.id, .int .i64 x.e.srv.k, .int .i64 x.e.srv.q, .int .i64 x.e.srv.t, .int .i64 x.e.po, .slice x.a x.e.tasks.length x.c, .int .i64 x.e.at_]) (by simp [results, Tryd.results41, go_sem]) rfl ⟨rfl, ?_⟩
  repeat (first | exact Gr.refl _ | apply Gr.alloc | apply Gr.drew | apply Gr.drewN | (refine Gr.setCell ?_ (by simp) _) | (refine Gr.trans ?_ (by assumption)))

set_option maxHeartbeats 800000 in
theorem equal0_any (a : Option Addr) (n c : Nat) (w : World) :
    Calls Tryd.prog 69 #[.slice a n c, .slice none 0 0] w fun e w' => e = .returned (.bool (decide (n = 0))) ∧ w = w' := by
  by_cases hn : n = 0
  · subst hn
    go_enter Tryd.func69, Tryd.ntmps69
    go_wp2_with fail
    go_loop [13] (fun iv => iv = .int .i64 0) (fun _ => 0)
    case atStart => rfl
    case round =>
      obtain rfl := hrel
      go_wp2_with fail
      go_ret
      exact ⟨rfl, rfl⟩
  · rw [decide_eq_false hn]
    have h1 : ((n : Int) == 0) = false := beq_eq_false_iff_ne.2 (by omega)
    go_enter Tryd.func69, Tryd.ntmps69
    go_wp2_with fail
    go_ret
    exact ⟨rfl, rfl⟩

/-- An order of nothing. -/
def zoB (e : Ent) : Bool := decide (e.kd = 0) && decide (e.id = 0) && decide (e.srv.k = 0 ∧ e.srv.q = 0 ∧ e.srv.t = 0) && decide (e.po = 0) && decide (e.at_ = 0) && decide (e.tasks.length = 0)
theorem key_eql (a b : Int) (w : World) : (binOp .eql 129 (.agg #[.int .i64 a, .int .i64 b]) (.agg #[.int .i64 a, .int .i64 b])).run Tryd.prog w = .ok (.bool true) w := by
  simp [go_sem]

theorem Blk.new1 {w : World} {n : Nat} {cs : Array Value} {t : TypeId} (h : w.heap.size = n) : Blk (w.alloc (.cells cs t)) n cs t := by
  subst h
  exact Blk.new w cs t
theorem zo_iff (e : Ent) : zoB e = true ↔ e.kd = 0 ∧ e.id = 0 ∧ (e.srv.k = 0 ∧ e.srv.q = 0 ∧ e.srv.t = 0) ∧ e.po = 0 ∧ e.at_ = 0 ∧ e.tasks.length = 0 := by
  unfold zoB
  simp only [Bool.and_eq_true, decide_eq_true_iff, and_assoc]
theorem zo_no {e : Ent} {v : Bool} (hz : Hid (v = zoB e)) (h : ¬ (e.kd = 0 ∧ e.id = 0 ∧ (e.srv.k = 0 ∧ e.srv.q = 0 ∧ e.srv.t = 0) ∧ e.po = 0 ∧ e.at_ = 0 ∧ e.tasks.length = 0)) : false = v := by
  rw [hz.out]
  cases hv : zoB e with
  | false => rfl
  | true => exact absurd ((zo_iff e).1 hv) h
set_option maxRecDepth 100000 in
set_option maxHeartbeats 6400000 in
theorem same0_any (x : EntM) (w : World) :
    Calls Tryd.prog 58 #[.agg #[.int .i64 x.e.cl, .int .i64 x.e.nu, .int .i64 x.e.kd, .int .i64 x.e.id, .int .i64 x.e.srv.k, .int .i64 x.e.srv.q, .int .i64 x.e.srv.t, .int .i64 x.e.po, .slice x.a x.e.tasks.length x.c, .int .i64 x.e.at_], .agg #[.int .i64 x.e.cl, .int .i64 x.e.nu, .int .i64 0, .int .i64 0, .int .i64 0, .int .i64 0, .int .i64 0, .int .i64 0, .slice none 0 0, .int .i64 0]] w fun e w' => e = .returned (.bool (zoB x.e)) ∧ Gr w w' := by
  obtain ⟨v, hz⟩ : ∃ v, v = zoB x.e := ⟨_, rfl⟩
  rw [← hz]
  replace hz := Lib.hid hz
  go_enter Tryd.func58, Tryd.ntmps58
  go_upto_region 1 with fail
  go_cut [5, 6] (fun s5 s6 wx => ∃ b5 b6, s5 = .pointer (some ⟨b5, 0, none⟩) ∧ s6 = .pointer (some ⟨b6, 0, none⟩) ∧ Blk wx b5 #[.int .i64 x.e.kd, .int .i64 x.e.id, .int .i64 x.e.srv.k, .int .i64 x.e.srv.q, .int .i64 x.e.srv.t, .int .i64 x.e.po, .slice x.a x.e.tasks.length x.c, .int .i64 x.e.at_] 29 ∧ Blk wx b6 #[.int .i64 0, .int .i64 0, .int .i64 0, .int .i64 0, .int .i64 0, .int .i64 0, .slice none 0 0, .int .i64 0] 29 ∧ Gr ((w.alloc (.cells #[.int .i64 x.e.cl, .int .i64 x.e.nu, .int .i64 x.e.kd, .int .i64 x.e.id, .int .i64 x.e.srv.k, .int .i64 x.e.srv.q, .int .i64 x.e.srv.t, .int .i64 x.e.po, .slice x.a x.e.tasks.length x.c, .int .i64 x.e.at_] 79)).alloc (.cells #[.int .i64 x.e.cl, .int .i64 x.e.nu, .int .i64 0, .int .i64 0, .int .i64 0, .int .i64 0, .int .i64 0, .int .i64 0, .slice none 0 0, .int .i64 0] 79)) wx)
  case first =>
    go_region
    all_goals go_wp2_with fail
    all_goals go_meet
    all_goals refine ⟨_, _, rfl, rfl, ?_, ?_, ?_⟩
    all_goals first | exact (Blk.new1 (by simp)).drew | exact ((Blk.new1 (by simp)).alloc _).drew | exact (by repeat (first | exact Gr.refl _ | apply Gr.alloc | apply Gr.drew | apply Gr.drewN | (refine Gr.setCell ?_ (by first | (simp; done) | (simp; omega)) _) | (refine Gr.trans ?_ (by assumption))))
  case rest =>
    obtain ⟨b5, b6, rfl, rfl, hb5, hb6, g0⟩ := hcut
    have g : Gr w wc := (((Gr.refl w).alloc _).alloc _).trans g0
    have hb2 := ((Blk.new w #[.int .i64 x.e.cl, .int .i64 x.e.nu, .int .i64 x.e.kd, .int .i64 x.e.id, .int .i64 x.e.srv.k, .int .i64 x.e.srv.q, .int .i64 x.e.srv.t, .int .i64 x.e.po, .slice x.a x.e.tasks.length x.c, .int .i64 x.e.at_] 79).alloc (.cells #[.int .i64 x.e.cl, .int .i64 x.e.nu, .int .i64 0, .int .i64 0, .int .i64 0, .int .i64 0, .int .i64 0, .int .i64 0, .slice none 0 0, .int .i64 0] 79)).gr g0
    have hb3 := (Blk.new1 (w := w.alloc (.cells #[.int .i64 x.e.cl, .int .i64 x.e.nu, .int .i64 x.e.kd, .int .i64 x.e.id, .int .i64 x.e.srv.k, .int .i64 x.e.srv.q, .int .i64 x.e.srv.t, .int .i64 x.e.po, .slice x.a x.e.tasks.length x.c, .int .i64 x.e.at_] 79)) (n := w.heap.size + 1) (cs := #[.int .i64 x.e.cl, .int .i64 x.e.nu, .int .i64 0, .int .i64 0, .int .i64 0, .int .i64 0, .int .i64 0, .int .i64 0, .slice none 0 0, .int .i64 0]) (t := 79) (by simp)).gr g0
    have z5 := hb5.lt
    have z6 := hb6.lt
    have z2 := hb2.lt
    have z3 := hb3.lt
    have p0 := GrW.cell (hb5.cell (i := 0) (v := .int .i64 x.e.kd) rfl)
    have p1 := GrW.cell (hb5.cell (i := 1) (v := .int .i64 x.e.id) rfl)
    have p2 := GrW.cell (hb5.cell (i := 2) (v := .int .i64 x.e.srv.k) rfl)
    have p3 := GrW.cell (hb5.cell (i := 3) (v := .int .i64 x.e.srv.q) rfl)
    have p4 := GrW.cell (hb5.cell (i := 4) (v := .int .i64 x.e.srv.t) rfl)
    have p5 := GrW.cell (hb5.cell (i := 5) (v := .int .i64 x.e.po) rfl)
    have p6 := GrW.cell (hb5.cell (i := 6) (v := .slice x.a x.e.tasks.length x.c) rfl)
    have p7 := GrW.cell (hb5.cell (i := 7) (v := .int .i64 x.e.at_) rfl)
    have q0 := GrW.cell (hb6.cell (i := 0) (v := .int .i64 0) rfl)
    have q1 := GrW.cell (hb6.cell (i := 1) (v := .int .i64 0) rfl)
    have q2 := GrW.cell (hb6.cell (i := 2) (v := .int .i64 0) rfl)
    have q3 := GrW.cell (hb6.cell (i := 3) (v := .int .i64 0) rfl)
    have q4 := GrW.cell (hb6.cell (i := 4) (v := .int .i64 0) rfl)
    have q5 := GrW.cell (hb6.cell (i := 5) (v := .int .i64 0) rfl)
    have q6 := GrW.cell (hb6.cell (i := 6) (v := .slice none 0 0) rfl)
    have q7 := GrW.cell (hb6.cell (i := 7) (v := .int .i64 0) rfl)
    have r0 := GrW.cell (hb2.cell (i := 0) (v := .int .i64 x.e.cl) rfl)
    have r1 := GrW.cell (hb2.cell (i := 1) (v := .int .i64 x.e.nu) rfl)
    have r2 := GrW.cell (hb2.cell (i := 2) (v := .int .i64 x.e.kd) rfl)
    have r3 := GrW.cell (hb2.cell (i := 3) (v := .int .i64 x.e.id) rfl)
    have r4 := GrW.cell (hb2.cell (i := 4) (v := .int .i64 x.e.srv.k) rfl)
    have r5 := GrW.cell (hb2.cell (i := 5) (v := .int .i64 x.e.srv.q) rfl)
    have r6 := GrW.cell (hb2.cell (i := 6) (v := .int .i64 x.e.srv.t) rfl)
    have r7 := GrW.cell (hb2.cell (i := 7) (v := .int .i64 x.e.po) rfl)
    have r8 := GrW.cell (hb2.cell (i := 8) (v := .slice x.a x.e.tasks.length x.c) rfl)
    have r9 := GrW.cell (hb2.cell (i := 9) (v := .int .i64 x.e.at_) rfl)
    have s0 := GrW.cell (hb3.cell (i := 0) (v := .int .i64 x.e.cl) rfl)
    have s1 := GrW.cell (hb3.cell (i := 1) (v := .int .i64 x.e.nu) rfl)
    have s2 := GrW.cell (hb3.cell (i := 2) (v := .int .i64 0) rfl)
    have s3 := GrW.cell (hb3.cell (i := 3) (v := .int .i64 0) rfl)
    have s4 := GrW.cell (hb3.cell (i := 4) (v := .int .i64 0) rfl)
    have s5 := GrW.cell (hb3.cell (i := 5) (v := .int .i64 0) rfl)
    have s6 := GrW.cell (hb3.cell (i := 6) (v := .int .i64 0) rfl)
    have s7 := GrW.cell (hb3.cell (i := 7) (v := .int .i64 0) rfl)
    have s8 := GrW.cell (hb3.cell (i := 8) (v := .slice none 0 0) rfl)
    have s9 := GrW.cell (hb3.cell (i := 9) (v := .int .i64 0) rfl)
    have hky := fun w => key_eql x.e.cl x.e.nu w
    have hsv := fun w => srv_eql x.e.srv ⟨0, 0, 0⟩ w
    dsimp only at hsv
    replace g := Lib.hid g
    clear hb2 hb3 hb5 hb6 g0
    by_cases hkd : x.e.kd = 0
    · have tkd : (x.e.kd == 0) = true := by simpa using hkd
      replace hkd := Lib.hid hkd
      by_cases hid : x.e.id = 0
      · have tid : (x.e.id == 0) = true := by simpa using hid
        replace hid := Lib.hid hid
        by_cases hsv0 : (x.e.srv.k = 0 ∧ x.e.srv.q = 0 ∧ x.e.srv.t = 0)
        · rw [decide_eq_true hsv0] at hsv
          replace hsv0 := Lib.hid hsv0
          by_cases hpo : x.e.po = 0
          · have tpo : (x.e.po == 0) = true := by simpa using hpo
            replace hpo := Lib.hid hpo
            by_cases hat : x.e.at_ = 0
            · have tat : (x.e.at_ == 0) = true := by simpa using hat
              replace hat := Lib.hid hat
              have heq := fun w => equal0_any x.a x.e.tasks.length x.c w
              by_cases htl : x.e.tasks.length = 0
              · rw [decide_eq_true htl] at heq
                replace htl := Lib.hid htl
                replace heq := Lib.hid heq
                go_upto_region 2 with fail
                refine wp_region_grows (by kernel_rfl) (by kernel_rfl) ?_
                repeat (any_goals (first | go_big_quiet_step (first | (exact Calls.grows (keyOf_any x _)) | (exact Calls.grows (keyOf_any ⟨⟨x.e.cl, x.e.nu, 0, 0, ⟨0, 0, 0⟩, 0, [], 0⟩, none, 0⟩ _)) | (exact Calls.grows_same (by first | exact heq.out _ | exact equal0_any x.a x.e.tasks.length x.c _))) | quiet_step (first | (exact Calls.grows (keyOf_any x _)) | (exact Calls.grows (keyOf_any ⟨⟨x.e.cl, x.e.nu, 0, 0, ⟨0, 0, 0⟩, 0, [], 0⟩, none, 0⟩ _)) | (exact Calls.grows_same (by first | exact heq.out _ | exact equal0_any x.a x.e.tasks.length x.c _)))))
                refine wpQuiet_nil ?_
                intro wz hwq
                have gz := GrW.of hwq
                clear hwq
                obtain ⟨cz, fz, sz⟩ := gz.cells
                try simp only [size_drewN] at cz fz sz
                try simp only [World.size_alloc] at cz fz sz
                try simp only [World.size_drew] at cz fz sz
                try simp only [World.size_setCell] at cz fz sz
                go_wp2_with fail
                go_ret
                exact ⟨retb ((hz.out.trans ((zo_iff _).2 ⟨hkd.out, hid.out, hsv0.out, hpo.out, hat.out, htl.out⟩)).symm), g.out.trans gz⟩
              · rw [decide_eq_false htl] at heq
                replace htl := Lib.hid htl
                replace heq := Lib.hid heq
                go_upto_region 2 with fail
                refine wp_region_grows (by kernel_rfl) (by kernel_rfl) ?_
                repeat (any_goals (first | go_big_quiet_step (first | (exact Calls.grows (keyOf_any x _)) | (exact Calls.grows (keyOf_any ⟨⟨x.e.cl, x.e.nu, 0, 0, ⟨0, 0, 0⟩, 0, [], 0⟩, none, 0⟩ _)) | (exact Calls.grows_same (by first | exact heq.out _ | exact equal0_any x.a x.e.tasks.length x.c _))) | quiet_step (first | (exact Calls.grows (keyOf_any x _)) | (exact Calls.grows (keyOf_any ⟨⟨x.e.cl, x.e.nu, 0, 0, ⟨0, 0, 0⟩, 0, [], 0⟩, none, 0⟩ _)) | (exact Calls.grows_same (by first | exact heq.out _ | exact equal0_any x.a x.e.tasks.length x.c _)))))
                refine wpQuiet_nil ?_
                intro wz hwq
                have gz := GrW.of hwq
                clear hwq
                obtain ⟨cz, fz, sz⟩ := gz.cells
                try simp only [size_drewN] at cz fz sz
                try simp only [World.size_alloc] at cz fz sz
                try simp only [World.size_drew] at cz fz sz
                try simp only [World.size_setCell] at cz fz sz
                go_wp2_with fail
                go_ret
                exact ⟨retb (zo_no hz (fun h => htl.out h.2.2.2.2.2)), g.out.trans gz⟩
            · have tat : (x.e.at_ == 0) = false := by simpa using hat
              replace hat := Lib.hid hat
              go_upto_region 2 with fail
              refine wp_region_grows (by kernel_rfl) (by kernel_rfl) ?_
              repeat (any_goals (first | go_big_quiet_step (first | (exact Calls.grows (keyOf_any x _)) | (exact Calls.grows (keyOf_any ⟨⟨x.e.cl, x.e.nu, 0, 0, ⟨0, 0, 0⟩, 0, [], 0⟩, none, 0⟩ _)) | (exact Calls.grows_same (by first | exact heq.out _ | exact equal0_any x.a x.e.tasks.length x.c _))) | quiet_step (first | (exact Calls.grows (keyOf_any x _)) | (exact Calls.grows (keyOf_any ⟨⟨x.e.cl, x.e.nu, 0, 0, ⟨0, 0, 0⟩, 0, [], 0⟩, none, 0⟩ _)) | (exact Calls.grows_same (by first | exact heq.out _ | exact equal0_any x.a x.e.tasks.length x.c _)))))
              refine wpQuiet_nil ?_
              intro wz hwq
              have gz := GrW.of hwq
              clear hwq
              obtain ⟨cz, fz, sz⟩ := gz.cells
              try simp only [size_drewN] at cz fz sz
              try simp only [World.size_alloc] at cz fz sz
              try simp only [World.size_drew] at cz fz sz
              try simp only [World.size_setCell] at cz fz sz
              go_wp2_with fail
              go_ret
              exact ⟨retb (zo_no hz (fun h => hat.out h.2.2.2.2.1)), g.out.trans gz⟩
          · have tpo : (x.e.po == 0) = false := by simpa using hpo
            replace hpo := Lib.hid hpo
            go_upto_region 2 with fail
            refine wp_region_grows (by kernel_rfl) (by kernel_rfl) ?_
            repeat (any_goals (first | go_big_quiet_step (first | (exact Calls.grows (keyOf_any x _)) | (exact Calls.grows (keyOf_any ⟨⟨x.e.cl, x.e.nu, 0, 0, ⟨0, 0, 0⟩, 0, [], 0⟩, none, 0⟩ _)) | (exact Calls.grows_same (by first | exact heq.out _ | exact equal0_any x.a x.e.tasks.length x.c _))) | quiet_step (first | (exact Calls.grows (keyOf_any x _)) | (exact Calls.grows (keyOf_any ⟨⟨x.e.cl, x.e.nu, 0, 0, ⟨0, 0, 0⟩, 0, [], 0⟩, none, 0⟩ _)) | (exact Calls.grows_same (by first | exact heq.out _ | exact equal0_any x.a x.e.tasks.length x.c _)))))
            refine wpQuiet_nil ?_
            intro wz hwq
            have gz := GrW.of hwq
            clear hwq
            obtain ⟨cz, fz, sz⟩ := gz.cells
            try simp only [size_drewN] at cz fz sz
            try simp only [World.size_alloc] at cz fz sz
            try simp only [World.size_drew] at cz fz sz
            try simp only [World.size_setCell] at cz fz sz
            go_wp2_with fail
            go_ret
            exact ⟨retb (zo_no hz (fun h => hpo.out h.2.2.2.1)), g.out.trans gz⟩
        · rw [decide_eq_false hsv0] at hsv
          replace hsv0 := Lib.hid hsv0
          go_upto_region 2 with fail
          refine wp_region_grows (by kernel_rfl) (by kernel_rfl) ?_
          repeat (any_goals (first | go_big_quiet_step (first | (exact Calls.grows (keyOf_any x _)) | (exact Calls.grows (keyOf_any ⟨⟨x.e.cl, x.e.nu, 0, 0, ⟨0, 0, 0⟩, 0, [], 0⟩, none, 0⟩ _)) | (exact Calls.grows_same (by first | exact heq.out _ | exact equal0_any x.a x.e.tasks.length x.c _))) | quiet_step (first | (exact Calls.grows (keyOf_any x _)) | (exact Calls.grows (keyOf_any ⟨⟨x.e.cl, x.e.nu, 0, 0, ⟨0, 0, 0⟩, 0, [], 0⟩, none, 0⟩ _)) | (exact Calls.grows_same (by first | exact heq.out _ | exact equal0_any x.a x.e.tasks.length x.c _)))))
          refine wpQuiet_nil ?_
          intro wz hwq
          have gz := GrW.of hwq
          clear hwq
          obtain ⟨cz, fz, sz⟩ := gz.cells
          try simp only [size_drewN] at cz fz sz
          try simp only [World.size_alloc] at cz fz sz
          try simp only [World.size_drew] at cz fz sz
          try simp only [World.size_setCell] at cz fz sz
          go_wp2_with fail
          go_ret
          exact ⟨retb (zo_no hz (fun h => hsv0.out h.2.2.1)), g.out.trans gz⟩
      · have tid : (x.e.id == 0) = false := by simpa using hid
        replace hid := Lib.hid hid
        go_upto_region 2 with fail
        refine wp_region_grows (by kernel_rfl) (by kernel_rfl) ?_
        repeat (any_goals (first | go_big_quiet_step (first | (exact Calls.grows (keyOf_any x _)) | (exact Calls.grows (keyOf_any ⟨⟨x.e.cl, x.e.nu, 0, 0, ⟨0, 0, 0⟩, 0, [], 0⟩, none, 0⟩ _)) | (exact Calls.grows_same (by first | exact heq.out _ | exact equal0_any x.a x.e.tasks.length x.c _))) | quiet_step (first | (exact Calls.grows (keyOf_any x _)) | (exact Calls.grows (keyOf_any ⟨⟨x.e.cl, x.e.nu, 0, 0, ⟨0, 0, 0⟩, 0, [], 0⟩, none, 0⟩ _)) | (exact Calls.grows_same (by first | exact heq.out _ | exact equal0_any x.a x.e.tasks.length x.c _)))))
        refine wpQuiet_nil ?_
        intro wz hwq
        have gz := GrW.of hwq
        clear hwq
        obtain ⟨cz, fz, sz⟩ := gz.cells
        try simp only [size_drewN] at cz fz sz
        try simp only [World.size_alloc] at cz fz sz
        try simp only [World.size_drew] at cz fz sz
        try simp only [World.size_setCell] at cz fz sz
        go_wp2_with fail
        go_ret
        exact ⟨retb (zo_no hz (fun h => hid.out h.2.1)), g.out.trans gz⟩
    · have tkd : (x.e.kd == 0) = false := by simpa using hkd
      replace hkd := Lib.hid hkd
      go_upto_region 2 with fail
      refine wp_region_grows (by kernel_rfl) (by kernel_rfl) ?_
      repeat (any_goals (first | go_big_quiet_step (first | (exact Calls.grows (keyOf_any x _)) | (exact Calls.grows (keyOf_any ⟨⟨x.e.cl, x.e.nu, 0, 0, ⟨0, 0, 0⟩, 0, [], 0⟩, none, 0⟩ _)) | (exact Calls.grows_same (by first | exact heq.out _ | exact equal0_any x.a x.e.tasks.length x.c _))) | quiet_step (first | (exact Calls.grows (keyOf_any x _)) | (exact Calls.grows (keyOf_any ⟨⟨x.e.cl, x.e.nu, 0, 0, ⟨0, 0, 0⟩, 0, [], 0⟩, none, 0⟩ _)) | (exact Calls.grows_same (by first | exact heq.out _ | exact equal0_any x.a x.e.tasks.length x.c _)))))
      refine wpQuiet_nil ?_
      intro wz hwq
      have gz := GrW.of hwq
      clear hwq
      obtain ⟨cz, fz, sz⟩ := gz.cells
      try simp only [size_drewN] at cz fz sz
      try simp only [World.size_alloc] at cz fz sz
      try simp only [World.size_drew] at cz fz sz
      try simp only [World.size_setCell] at cz fz sz
      go_wp2_with fail
      go_ret
      exact ⟨retb (zo_no hz (fun h => hkd.out h.1)), g.out.trans gz⟩
end Go.Proofs.YtlgbnjaoadlolaaDoor
