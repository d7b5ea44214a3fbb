/- The law DemandTasks. (Printed by gen_b10.py.) -/
import Derived.Test.YtkfkfcfbcfcbkaaDoorE5
import Derived.Test.YtkfkfcfbcfcbkaaDoorN9
import Derived.Test.YtkfkfcfbcfcbkaaDoorB3
import Derived.Test.YtkfkfcfbcfcbkaaDoorR2
namespace Go.Proofs.YtkfkfcfbcfcbkaaDoor
open Go.RowKit

theorem tskErr_ok {l : List Tsk} (h : tskErr l = none) : tasksOk l = true := by
  unfold tskErr at h
  split at h
  · cases h
  · rename_i h1; simpa using h1
theorem tskErr_no {l : List Tsk} {g : Nat} (h : tskErr l = some g) : tasksOk l = false ∧ g = 1 := by
  unfold tskErr at h
  split at h
  · rename_i h1; exact ⟨h1, (Option.some.inj h).symm⟩
  · cases h
theorem chkT_ok {l : List Tsk} {n : Int} (h : tasksOk l = true) (hn : LenOk n) : chkT l n = none := by
  unfold LenOk at hn
  unfold chkT; rw [if_neg (by rw [h]; decide), if_neg (by omega)]
theorem chkT_len {l : List Tsk} {n : Int} (h : tasksOk l = true) (hn : ¬ LenOk n) : chkT l n = some 2 := by
  unfold LenOk at hn
  unfold chkT; rw [if_neg (by rw [h]; decide), if_pos (by omega)]
theorem chkT_bad {l : List Tsk} {n : Int} (h : tasksOk l = false) : chkT l n = some 1 := by unfold chkT; rw [if_pos h]
theorem chkU_num {l : List Tsk} {i n : Int} (h : tasksOk l = true) (hn : ¬ LenOk n ∨ i < 0 ∨ (l.length : Int) ≤ i) : chkU l i n = some 2 := by
  unfold LenOk at hn
  unfold chkU; rw [if_neg (by rw [h]; decide), if_pos (by omega)]
theorem chkU_bad {l : List Tsk} {i n : Int} (h : tasksOk l = false) : chkU l i n = some 1 := by unfold chkU; rw [if_pos h]
theorem chkT1_tsk {s : Tsk} {n : Int} (h : s.leg = false) : chkT1 s n = some 1 := by unfold chkT1; rw [if_pos h]
theorem chkT1_num {s : Tsk} {n : Int} (h : s.leg = true) (hn : ¬ LenOk n) : chkT1 s n = some 2 := by
  unfold LenOk at hn
  unfold chkT1; rw [if_neg (by rw [h]; decide), if_pos (by omega)]
theorem numI_num : numI 2 = 1 := by decide
theorem numI_tsk : numI 1 = 11 := by decide

set_option maxRecDepth 100000 in
set_option maxHeartbeats 3200000 in
theorem demandTasks_Ai {G : List Nat} {E : Nat → Addr} (a : Option Addr) (l : List Tsk) (c : Nat) (i n : Int) (w : World) (hE : EAt G E w) (hG : ∀ x ∈ errNos, x ∈ G) (hl : TsksAt w a l) (hm : l.length * 32 ≤ 140737488351232) (hc : a = none → c = 0) (hS : tskErr l = none) (hN : LenOk n) (q0 : 0 ≤ i) (q1 : i < l.length) (s : Tsk) (hs : l[0]? = some s) (hleg : s.leg = true) :
    Calls Tryd.prog 13 #[.slice a l.length c, .int .i64 i, .int .i64 n] w fun e w' => e = .returned (.bool true) ∧ Gr w w' := by
  obtain ⟨i72, hi, hz0, hz1, hz2⟩ := info_parts Tryd.infoTsk
  have i1 := hG 1 (by decide)
  have i2 := hG 2 (by decide)
  have hmm : l.length ≤ maxLen := by unfold maxLen; omega
  have n2 : l.length * 32 ≤ 140737488355328 := by omega
  have hrs := fun w h => ref_tasks a l c w h hmm
  have hgd := good_any n
  have he1 := fun w => eql_same E 1 w
  have he2 := fun w => eql_same E 2 w
  rw [hS] at hrs
  dsimp only [numO, pw] at hrs
  have hok := tskErr_ok hS
  rw [goodB_true hN] at hgd
  have hck := chkT_ok hok hN
  replace hck := Lib.hid hck
  replace hok := Lib.hid hok
  replace hS := Lib.hid hS
  replace hN := Lib.hid hN
  have hne : ((l.length : Int) == 0) = false := by
    have := get_lt hs
    simp; intro hh; rw [hh] at this; simp at this
  have hpos : 0 < l.length := get_lt hs
  have hlt := rlegalTask_any s
  rw [hleg] at hlt
  have hkk := chkT1_none hleg hN.out
  have hLeg := (Tsk.leg_iff s).1 hleg
  replace hkk := Lib.hid hkk
  replace hLeg := Lib.hid hLeg
  replace hlt := Lib.hid hlt
  replace hleg := Lib.hid hleg
  replace hs := Lib.hid hs
  replace hrs := Lib.hid hrs
  replace hgd := Lib.hid hgd
  go_enter Tryd.func13, Tryd.ntmps13
  go_wp2_with fail
  refine (alive11 _).mono ?_
  rintro e wa ⟨rfl, ga⟩
  obtain ⟨ca, fa, sa⟩ := ga.cells
  try simp only [size_drewN] at ca fa sa
  try simp only [World.size_alloc] at ca fa sa
  try simp only [World.size_drew] at ca fa sa
  try simp only [World.size_setCell] at ca fa sa
  have ea := hE.gr ga
  have la := hl.gr ga
  go_wp2_with (at_builtin; refine wpList_copyN (k := 4) (enc := Tsk.cells) rfl _ _ 29 rfl 72 i72 _ 32 Tryd.underlying29 hi hz0 hz1 hz2 rfl (by decide) Tsk.cells_len Tsk.cells_one wa.heap.size rfl rfl a c l rfl (tsks_recs la) hc hmm n2 ?_; intro v1 wc hown gc)
  obtain ⟨a1, c1, rfl, r1, _, _⟩ := recs_of_owns Tsk.cells_len hown
  clear hown
  have ec := ea.gr gc
  have lc := la.gr gc
  go_wp2_with fail
  refine (dtasks_yes a1 l c1 n _ (recs_tsks r1) hck.out).mono ?_
  rintro e wd ⟨rfl, gd⟩
  obtain ⟨cd, fd, sd⟩ := gd.cells
  try simp only [size_drewN] at cd fd sd
  try simp only [World.size_alloc] at cd fd sd
  try simp only [World.size_drew] at cd fd sd
  try simp only [World.size_setCell] at cd fd sd
  have ed := ec.gr gd
  have ld := lc.gr gd
  go_wp2_with (at_builtin; refine wpList_copyN (k := 4) (enc := Tsk.cells) rfl _ _ 29 rfl 72 i72 _ 32 Tryd.underlying29 hi hz0 hz1 hz2 rfl (by decide) Tsk.cells_len Tsk.cells_one wd.heap.size rfl rfl a c l rfl (tsks_recs ld) hc hmm n2 ?_; intro v2 wf hown gf)
  obtain ⟨a2, c2, rfl, r2, _, _⟩ := recs_of_owns Tsk.cells_len hown
  clear hown
  have ef := ed.gr gf
  have lf := ld.gr gf
  go_wp2_with fail
  refine (until_yes a2 l c2 i n _ (recs_tsks r2) hok.out hN.out q0 q1).mono ?_
  rintro e wg ⟨rfl, gg⟩
  obtain ⟨cg, fg, sg⟩ := gg.cells
  try simp only [size_drewN] at cg fg sg
  try simp only [World.size_alloc] at cg fg sg
  try simp only [World.size_drew] at cg fg sg
  try simp only [World.size_setCell] at cg fg sg
  have eg := ef.gr gg
  have lg := lf.gr gg
  go_wp2_with fail
  refine (hrs.out _ lg).mono ?_
  rintro e wh ⟨rfl, gh⟩
  obtain ⟨ch, fh, sh⟩ := gh.cells
  try simp only [size_drewN] at ch fh sh
  try simp only [World.size_alloc] at ch fh sh
  try simp only [World.size_drew] at ch fh sh
  try simp only [World.size_setCell] at ch fh sh
  have eh := (eg.gr gh).gr ((Gr.refl wh).alloc (.cells #[.int .u64 (hiW (shareT l).1), .int .u64 (loW (shareT l).1), .int .u64 (hiW (shareT l).2), .int .u64 (loW (shareT l).2)] 41))
  have lh := (lg.gr gh).gr ((Gr.refl wh).alloc (.cells #[.int .u64 (hiW (shareT l).1), .int .u64 (loW (shareT l).1), .int .u64 (hiW (shareT l).2), .int .u64 (loW (shareT l).2)] 41))
  go_wp2_with fail
  refine (hgd.out _).mono ?_
  rintro e wp ⟨rfl, rfl⟩
  go_wp2_with fail
  refine (num_nil _).mono ?_
  rintro e wj ⟨rfl, rfl⟩
  go_wp2_with fail
  refine (num_nil _).mono ?_
  rintro e wk ⟨rfl, rfl⟩
  go_wp2_with fail
  refine (rtasks11_any a l c n _ lh hok.out hN.out).mono ?_
  rintro e wm ⟨rfl, gm⟩
  obtain ⟨cm, fm, sm⟩ := gm.cells
  try simp only [size_drewN] at cm fm sm
  try simp only [World.size_alloc] at cm fm sm
  try simp only [World.size_drew] at cm fm sm
  try simp only [World.size_setCell] at cm fm sm
  have em := eh.gr gm
  have lm := lh.gr gm
  go_wp2_with fail
  refine (runtil11_any a l c i n _ lm hok.out hN.out q0 q1).mono ?_
  rintro e wq ⟨rfl, gq⟩
  obtain ⟨cq, fq, sq⟩ := gq.cells
  try simp only [size_drewN] at cq fq sq
  try simp only [World.size_alloc] at cq fq sq
  try simp only [World.size_drew] at cq fq sq
  try simp only [World.size_setCell] at cq fq sq
  have eq := em.gr gq
  have lq := lm.gr gq
  obtain ⟨bs, os, rfl, hbs, t0, t1, t2, t3⟩ := lq 0 s hs.out
  simp only [Nat.zero_mul, Nat.add_zero] at t0 t1 t2 t3
  go_wp2_with fail
  refine (dtask_yes s n _ hkk.out).mono ?_
  rintro e wr ⟨rfl, gr⟩
  obtain ⟨cr, fr, sr⟩ := gr.cells
  try simp only [size_drewN] at cr fr sr
  try simp only [World.size_alloc] at cr fr sr
  try simp only [World.size_drew] at cr fr sr
  try simp only [World.size_setCell] at cr fr sr
  have ur := fun o => cr bs o (by omega)
  have hbr : bs < wr.heap.size := by omega
  go_wp2_with fail
  refine (hlt.out _).mono ?_
  rintro e wt ⟨rfl, gt⟩
  obtain ⟨ct, ft, st⟩ := gt.cells
  try simp only [size_drewN] at ct ft st
  try simp only [World.size_alloc] at ct ft st
  try simp only [World.size_drew] at ct ft st
  try simp only [World.size_setCell] at ct ft st
  have ut := fun o => ct bs o (by omega)
  have hbt : bs < wt.heap.size := by omega
  go_wp2_with fail
  refine (hgd.out _).mono ?_
  rintro e wv ⟨rfl, rfl⟩
  go_wp2_with fail
  refine (rtask_any s n _ hLeg.out hN.out).mono ?_
  rintro e wx ⟨rfl, gx⟩
  obtain ⟨cx, fx, sx⟩ := gx.cells
  try simp only [size_drewN] at cx fx sx
  try simp only [World.size_alloc] at cx fx sx
  try simp only [World.size_drew] at cx fx sx
  try simp only [World.size_setCell] at cx fx sx
  go_wp2_with fail
  go_ret
  refine ⟨retb (by first | rfl | simp), ?_⟩
  repeat (first | exact Gr.refl _ | apply Gr.alloc | apply Gr.drew | apply Gr.drewN | (refine Gr.setCell ?_ (by simp) _) | (refine Gr.trans ?_ (by assumption)))

set_option maxRecDepth 100000 in
set_option maxHeartbeats 3200000 in
theorem demandTasks_Be {G : List Nat} {E : Nat → Addr} (a : Option Addr) (l : List Tsk) (c : Nat) (i n : Int) (w : World) (hE : EAt G E w) (hG : ∀ x ∈ errNos, x ∈ G) (hl : TsksAt w a l) (hm : l.length * 32 ≤ 140737488351232) (hc : a = none → c = 0) (hS : tskErr l = none) (hN : LenOk n) (q : i < 0) (hs : l = []) :
    Calls Tryd.prog 13 #[.slice a l.length c, .int .i64 i, .int .i64 n] w fun e w' => e = .returned (.bool true) ∧ Gr w w' := by
  obtain ⟨i72, hi, hz0, hz1, hz2⟩ := info_parts Tryd.infoTsk
  have i1 := hG 1 (by decide)
  have i2 := hG 2 (by decide)
  have hmm : l.length ≤ maxLen := by unfold maxLen; omega
  have n2 : l.length * 32 ≤ 140737488355328 := by omega
  have hrs := fun w h => ref_tasks a l c w h hmm
  have hgd := good_any n
  have he1 := fun w => eql_same E 1 w
  have he2 := fun w => eql_same E 2 w
  rw [hS] at hrs
  dsimp only [numO, pw] at hrs
  have hok := tskErr_ok hS
  rw [goodB_true hN] at hgd
  have hck := chkT_ok hok hN
  have hcu := chkU_num (i := i) (n := n) hok (by omega)
  replace hck := Lib.hid hck
  replace hcu := Lib.hid hcu
  have hnum := fun w hE => num_any (G := G) (E := E) 2 w hE hG (by decide)
  rw [numI_num] at hnum
  replace hnum := Lib.hid hnum
  replace hok := Lib.hid hok
  replace hS := Lib.hid hS
  replace hN := Lib.hid hN
  have hne : ((l.length : Int) == 0) = true := by rw [hs]; rfl
  replace hs := Lib.hid hs
  replace hrs := Lib.hid hrs
  replace hgd := Lib.hid hgd
  go_enter Tryd.func13, Tryd.ntmps13
  go_wp2_with fail
  refine (alive11 _).mono ?_
  rintro e wa ⟨rfl, ga⟩
  obtain ⟨ca, fa, sa⟩ := ga.cells
  try simp only [size_drewN] at ca fa sa
  try simp only [World.size_alloc] at ca fa sa
  try simp only [World.size_drew] at ca fa sa
  try simp only [World.size_setCell] at ca fa sa
  have ea := hE.gr ga
  have la := hl.gr ga
  go_wp2_with (at_builtin; refine wpList_copyN (k := 4) (enc := Tsk.cells) rfl _ _ 29 rfl 72 i72 _ 32 Tryd.underlying29 hi hz0 hz1 hz2 rfl (by decide) Tsk.cells_len Tsk.cells_one wa.heap.size rfl rfl a c l rfl (tsks_recs la) hc hmm n2 ?_; intro v1 wc hown gc)
  obtain ⟨a1, c1, rfl, r1, _, _⟩ := recs_of_owns Tsk.cells_len hown
  clear hown
  have ec := ea.gr gc
  have lc := la.gr gc
  go_wp2_with fail
  refine (dtasks_yes a1 l c1 n _ (recs_tsks r1) hck.out).mono ?_
  rintro e wd ⟨rfl, gd⟩
  obtain ⟨cd, fd, sd⟩ := gd.cells
  try simp only [size_drewN] at cd fd sd
  try simp only [World.size_alloc] at cd fd sd
  try simp only [World.size_drew] at cd fd sd
  try simp only [World.size_setCell] at cd fd sd
  have ed := ec.gr gd
  have ld := lc.gr gd
  go_wp2_with (at_builtin; refine wpList_copyN (k := 4) (enc := Tsk.cells) rfl _ _ 29 rfl 72 i72 _ 32 Tryd.underlying29 hi hz0 hz1 hz2 rfl (by decide) Tsk.cells_len Tsk.cells_one wd.heap.size rfl rfl a c l rfl (tsks_recs ld) hc hmm n2 ?_; intro v2 wf hown gf)
  obtain ⟨a2, c2, rfl, r2, _, _⟩ := recs_of_owns Tsk.cells_len hown
  clear hown
  have ef := ed.gr gf
  have lf := ld.gr gf
  go_wp2_with fail
  refine (until_no a2 l c2 i n _ ef i1 i2 (recs_tsks r2) hmm _ hcu.out).mono ?_
  rintro e wg ⟨rfl, gg⟩
  obtain ⟨cg, fg, sg⟩ := gg.cells
  try simp only [size_drewN] at cg fg sg
  try simp only [World.size_alloc] at cg fg sg
  try simp only [World.size_drew] at cg fg sg
  try simp only [World.size_setCell] at cg fg sg
  have eg := ef.gr gg
  have lg := lf.gr gg
  go_wp2_with fail
  refine (hrs.out _ lg).mono ?_
  rintro e wh ⟨rfl, gh⟩
  obtain ⟨ch, fh, sh⟩ := gh.cells
  try simp only [size_drewN] at ch fh sh
  try simp only [World.size_alloc] at ch fh sh
  try simp only [World.size_drew] at ch fh sh
  try simp only [World.size_setCell] at ch fh sh
  have eh := (eg.gr gh).gr ((Gr.refl wh).alloc (.cells #[.int .u64 (hiW (shareT l).1), .int .u64 (loW (shareT l).1), .int .u64 (hiW (shareT l).2), .int .u64 (loW (shareT l).2)] 41))
  have lh := (lg.gr gh).gr ((Gr.refl wh).alloc (.cells #[.int .u64 (hiW (shareT l).1), .int .u64 (loW (shareT l).1), .int .u64 (hiW (shareT l).2), .int .u64 (loW (shareT l).2)] 41))
  go_wp2_with fail
  refine (hgd.out _).mono ?_
  rintro e wp ⟨rfl, rfl⟩
  go_wp2_with fail
  refine (num_nil _).mono ?_
  rintro e wj ⟨rfl, rfl⟩
  go_wp2_with fail
  refine (hnum.out _ eh).mono ?_
  rintro e wk ⟨rfl, gk⟩
  obtain ⟨ck, fk, sk⟩ := gk.cells
  try simp only [size_drewN] at ck fk sk
  try simp only [World.size_alloc] at ck fk sk
  try simp only [World.size_drew] at ck fk sk
  try simp only [World.size_setCell] at ck fk sk
  have ek := eh.gr gk
  have lk := lh.gr gk
  go_wp2_with fail
  refine (rtasks11_any a l c n _ lk hok.out hN.out).mono ?_
  rintro e wm ⟨rfl, gm⟩
  obtain ⟨cm, fm, sm⟩ := gm.cells
  try simp only [size_drewN] at cm fm sm
  try simp only [World.size_alloc] at cm fm sm
  try simp only [World.size_drew] at cm fm sm
  try simp only [World.size_setCell] at cm fm sm
  have eq := ek.gr gm
  have lq := lk.gr gm

  go_wp2_with fail
  go_ret
  refine ⟨retb (by first | rfl | simp), ?_⟩
  repeat (first | exact Gr.refl _ | apply Gr.alloc | apply Gr.drew | apply Gr.drewN | (refine Gr.setCell ?_ (by simp) _) | (refine Gr.trans ?_ (by assumption)))

set_option maxRecDepth 100000 in
set_option maxHeartbeats 3200000 in
theorem demandTasks_Bi {G : List Nat} {E : Nat → Addr} (a : Option Addr) (l : List Tsk) (c : Nat) (i n : Int) (w : World) (hE : EAt G E w) (hG : ∀ x ∈ errNos, x ∈ G) (hl : TsksAt w a l) (hm : l.length * 32 ≤ 140737488351232) (hc : a = none → c = 0) (hS : tskErr l = none) (hN : LenOk n) (q : i < 0) (s : Tsk) (hs : l[0]? = some s) (hleg : s.leg = true) :
    Calls Tryd.prog 13 #[.slice a l.length c, .int .i64 i, .int .i64 n] w fun e w' => e = .returned (.bool true) ∧ Gr w w' := by
  obtain ⟨i72, hi, hz0, hz1, hz2⟩ := info_parts Tryd.infoTsk
  have i1 := hG 1 (by decide)
  have i2 := hG 2 (by decide)
  have hmm : l.length ≤ maxLen := by unfold maxLen; omega
  have n2 : l.length * 32 ≤ 140737488355328 := by omega
  have hrs := fun w h => ref_tasks a l c w h hmm
  have hgd := good_any n
  have he1 := fun w => eql_same E 1 w
  have he2 := fun w => eql_same E 2 w
  rw [hS] at hrs
  dsimp only [numO, pw] at hrs
  have hok := tskErr_ok hS
  rw [goodB_true hN] at hgd
  have hck := chkT_ok hok hN
  have hcu := chkU_num (i := i) (n := n) hok (by omega)
  replace hck := Lib.hid hck
  replace hcu := Lib.hid hcu
  have hnum := fun w hE => num_any (G := G) (E := E) 2 w hE hG (by decide)
  rw [numI_num] at hnum
  replace hnum := Lib.hid hnum
  replace hok := Lib.hid hok
  replace hS := Lib.hid hS
  replace hN := Lib.hid hN
  have hne : ((l.length : Int) == 0) = false := by
    have := get_lt hs
    simp; intro hh; rw [hh] at this; simp at this
  have hpos : 0 < l.length := get_lt hs
  have hlt := rlegalTask_any s
  rw [hleg] at hlt
  have hkk := chkT1_none hleg hN.out
  have hLeg := (Tsk.leg_iff s).1 hleg
  replace hkk := Lib.hid hkk
  replace hLeg := Lib.hid hLeg
  replace hlt := Lib.hid hlt
  replace hleg := Lib.hid hleg
  replace hs := Lib.hid hs
  replace hrs := Lib.hid hrs
  replace hgd := Lib.hid hgd
  go_enter Tryd.func13, Tryd.ntmps13
  go_wp2_with fail
  refine (alive11 _).mono ?_
  rintro e wa ⟨rfl, ga⟩
  obtain ⟨ca, fa, sa⟩ := ga.cells
  try simp only [size_drewN] at ca fa sa
  try simp only [World.size_alloc] at ca fa sa
  try simp only [World.size_drew] at ca fa sa
  try simp only [World.size_setCell] at ca fa sa
  have ea := hE.gr ga
  have la := hl.gr ga
  go_wp2_with (at_builtin; refine wpList_copyN (k := 4) (enc := Tsk.cells) rfl _ _ 29 rfl 72 i72 _ 32 Tryd.underlying29 hi hz0 hz1 hz2 rfl (by decide) Tsk.cells_len Tsk.cells_one wa.heap.size rfl rfl a c l rfl (tsks_recs la) hc hmm n2 ?_; intro v1 wc hown gc)
  obtain ⟨a1, c1, rfl, r1, _, _⟩ := recs_of_owns Tsk.cells_len hown
  clear hown
  have ec := ea.gr gc
  have lc := la.gr gc
  go_wp2_with fail
  refine (dtasks_yes a1 l c1 n _ (recs_tsks r1) hck.out).mono ?_
  rintro e wd ⟨rfl, gd⟩
  obtain ⟨cd, fd, sd⟩ := gd.cells
  try simp only [size_drewN] at cd fd sd
  try simp only [World.size_alloc] at cd fd sd
  try simp only [World.size_drew] at cd fd sd
  try simp only [World.size_setCell] at cd fd sd
  have ed := ec.gr gd
  have ld := lc.gr gd
  go_wp2_with (at_builtin; refine wpList_copyN (k := 4) (enc := Tsk.cells) rfl _ _ 29 rfl 72 i72 _ 32 Tryd.underlying29 hi hz0 hz1 hz2 rfl (by decide) Tsk.cells_len Tsk.cells_one wd.heap.size rfl rfl a c l rfl (tsks_recs ld) hc hmm n2 ?_; intro v2 wf hown gf)
  obtain ⟨a2, c2, rfl, r2, _, _⟩ := recs_of_owns Tsk.cells_len hown
  clear hown
  have ef := ed.gr gf
  have lf := ld.gr gf
  go_wp2_with fail
  refine (until_no a2 l c2 i n _ ef i1 i2 (recs_tsks r2) hmm _ hcu.out).mono ?_
  rintro e wg ⟨rfl, gg⟩
  obtain ⟨cg, fg, sg⟩ := gg.cells
  try simp only [size_drewN] at cg fg sg
  try simp only [World.size_alloc] at cg fg sg
  try simp only [World.size_drew] at cg fg sg
  try simp only [World.size_setCell] at cg fg sg
  have eg := ef.gr gg
  have lg := lf.gr gg
  go_wp2_with fail
  refine (hrs.out _ lg).mono ?_
  rintro e wh ⟨rfl, gh⟩
  obtain ⟨ch, fh, sh⟩ := gh.cells
  try simp only [size_drewN] at ch fh sh
  try simp only [World.size_alloc] at ch fh sh
  try simp only [World.size_drew] at ch fh sh
  try simp only [World.size_setCell] at ch fh sh
  have eh := (eg.gr gh).gr ((Gr.refl wh).alloc (.cells #[.int .u64 (hiW (shareT l).1), .int .u64 (loW (shareT l).1), .int .u64 (hiW (shareT l).2), .int .u64 (loW (shareT l).2)] 41))
  have lh := (lg.gr gh).gr ((Gr.refl wh).alloc (.cells #[.int .u64 (hiW (shareT l).1), .int .u64 (loW (shareT l).1), .int .u64 (hiW (shareT l).2), .int .u64 (loW (shareT l).2)] 41))
  go_wp2_with fail
  refine (hgd.out _).mono ?_
  rintro e wp ⟨rfl, rfl⟩
  go_wp2_with fail
  refine (num_nil _).mono ?_
  rintro e wj ⟨rfl, rfl⟩
  go_wp2_with fail
  refine (hnum.out _ eh).mono ?_
  rintro e wk ⟨rfl, gk⟩
  obtain ⟨ck, fk, sk⟩ := gk.cells
  try simp only [size_drewN] at ck fk sk
  try simp only [World.size_alloc] at ck fk sk
  try simp only [World.size_drew] at ck fk sk
  try simp only [World.size_setCell] at ck fk sk
  have ek := eh.gr gk
  have lk := lh.gr gk
  go_wp2_with fail
  refine (rtasks11_any a l c n _ lk hok.out hN.out).mono ?_
  rintro e wm ⟨rfl, gm⟩
  obtain ⟨cm, fm, sm⟩ := gm.cells
  try simp only [size_drewN] at cm fm sm
  try simp only [World.size_alloc] at cm fm sm
  try simp only [World.size_drew] at cm fm sm
  try simp only [World.size_setCell] at cm fm sm
  have eq := ek.gr gm
  have lq := lk.gr gm
  obtain ⟨bs, os, rfl, hbs, t0, t1, t2, t3⟩ := lq 0 s hs.out
  simp only [Nat.zero_mul, Nat.add_zero] at t0 t1 t2 t3
  go_wp2_with fail
  refine (dtask_yes s n _ hkk.out).mono ?_
  rintro e wr ⟨rfl, gr⟩
  obtain ⟨cr, fr, sr⟩ := gr.cells
  try simp only [size_drewN] at cr fr sr
  try simp only [World.size_alloc] at cr fr sr
  try simp only [World.size_drew] at cr fr sr
  try simp only [World.size_setCell] at cr fr sr
  have ur := fun o => cr bs o (by omega)
  have hbr : bs < wr.heap.size := by omega
  go_wp2_with fail
  refine (hlt.out _).mono ?_
  rintro e wt ⟨rfl, gt⟩
  obtain ⟨ct, ft, st⟩ := gt.cells
  try simp only [size_drewN] at ct ft st
  try simp only [World.size_alloc] at ct ft st
  try simp only [World.size_drew] at ct ft st
  try simp only [World.size_setCell] at ct ft st
  have ut := fun o => ct bs o (by omega)
  have hbt : bs < wt.heap.size := by omega
  go_wp2_with fail
  refine (hgd.out _).mono ?_
  rintro e wv ⟨rfl, rfl⟩
  go_wp2_with fail
  refine (rtask_any s n _ hLeg.out hN.out).mono ?_
  rintro e wx ⟨rfl, gx⟩
  obtain ⟨cx, fx, sx⟩ := gx.cells
  try simp only [size_drewN] at cx fx sx
  try simp only [World.size_alloc] at cx fx sx
  try simp only [World.size_drew] at cx fx sx
  try simp only [World.size_setCell] at cx fx sx
  go_wp2_with fail
  go_ret
  refine ⟨retb (by first | rfl | simp), ?_⟩
  repeat (first | exact Gr.refl _ | apply Gr.alloc | apply Gr.drew | apply Gr.drewN | (refine Gr.setCell ?_ (by simp) _) | (refine Gr.trans ?_ (by assumption)))

set_option maxRecDepth 100000 in
set_option maxHeartbeats 3200000 in
theorem demandTasks_Ze {G : List Nat} {E : Nat → Addr} (a : Option Addr) (l : List Tsk) (c : Nat) (i n : Int) (w : World) (hE : EAt G E w) (hG : ∀ x ∈ errNos, x ∈ G) (hl : TsksAt w a l) (hm : l.length * 32 ≤ 140737488351232) (hc : a = none → c = 0) (hS : tskErr l = none) (hN : LenOk n) (q0 : 0 ≤ i) (q : (l.length : Int) ≤ i) (hs : l = []) :
    Calls Tryd.prog 13 #[.slice a l.length c, .int .i64 i, .int .i64 n] w fun e w' => e = .returned (.bool true) ∧ Gr w w' := by
  obtain ⟨i72, hi, hz0, hz1, hz2⟩ := info_parts Tryd.infoTsk
  have i1 := hG 1 (by decide)
  have i2 := hG 2 (by decide)
  have hmm : l.length ≤ maxLen := by unfold maxLen; omega
  have n2 : l.length * 32 ≤ 140737488355328 := by omega
  have hrs := fun w h => ref_tasks a l c w h hmm
  have hgd := good_any n
  have he1 := fun w => eql_same E 1 w
  have he2 := fun w => eql_same E 2 w
  rw [hS] at hrs
  dsimp only [numO, pw] at hrs
  have hok := tskErr_ok hS
  rw [goodB_true hN] at hgd
  have hck := chkT_ok hok hN
  have hcu := chkU_num (i := i) (n := n) hok (by omega)
  replace hck := Lib.hid hck
  replace hcu := Lib.hid hcu
  have hnum := fun w hE => num_any (G := G) (E := E) 2 w hE hG (by decide)
  rw [numI_num] at hnum
  replace hnum := Lib.hid hnum
  replace hok := Lib.hid hok
  replace hS := Lib.hid hS
  replace hN := Lib.hid hN
  have hne : ((l.length : Int) == 0) = true := by rw [hs]; rfl
  replace hs := Lib.hid hs
  replace hrs := Lib.hid hrs
  replace hgd := Lib.hid hgd
  go_enter Tryd.func13, Tryd.ntmps13
  go_wp2_with fail
  refine (alive11 _).mono ?_
  rintro e wa ⟨rfl, ga⟩
  obtain ⟨ca, fa, sa⟩ := ga.cells
  try simp only [size_drewN] at ca fa sa
  try simp only [World.size_alloc] at ca fa sa
  try simp only [World.size_drew] at ca fa sa
  try simp only [World.size_setCell] at ca fa sa
  have ea := hE.gr ga
  have la := hl.gr ga
  go_wp2_with (at_builtin; refine wpList_copyN (k := 4) (enc := Tsk.cells) rfl _ _ 29 rfl 72 i72 _ 32 Tryd.underlying29 hi hz0 hz1 hz2 rfl (by decide) Tsk.cells_len Tsk.cells_one wa.heap.size rfl rfl a c l rfl (tsks_recs la) hc hmm n2 ?_; intro v1 wc hown gc)
  obtain ⟨a1, c1, rfl, r1, _, _⟩ := recs_of_owns Tsk.cells_len hown
  clear hown
  have ec := ea.gr gc
  have lc := la.gr gc
  go_wp2_with fail
  refine (dtasks_yes a1 l c1 n _ (recs_tsks r1) hck.out).mono ?_
  rintro e wd ⟨rfl, gd⟩
  obtain ⟨cd, fd, sd⟩ := gd.cells
  try simp only [size_drewN] at cd fd sd
  try simp only [World.size_alloc] at cd fd sd
  try simp only [World.size_drew] at cd fd sd
  try simp only [World.size_setCell] at cd fd sd
  have ed := ec.gr gd
  have ld := lc.gr gd
  go_wp2_with (at_builtin; refine wpList_copyN (k := 4) (enc := Tsk.cells) rfl _ _ 29 rfl 72 i72 _ 32 Tryd.underlying29 hi hz0 hz1 hz2 rfl (by decide) Tsk.cells_len Tsk.cells_one wd.heap.size rfl rfl a c l rfl (tsks_recs ld) hc hmm n2 ?_; intro v2 wf hown gf)
  obtain ⟨a2, c2, rfl, r2, _, _⟩ := recs_of_owns Tsk.cells_len hown
  clear hown
  have ef := ed.gr gf
  have lf := ld.gr gf
  go_wp2_with fail
  refine (until_no a2 l c2 i n _ ef i1 i2 (recs_tsks r2) hmm _ hcu.out).mono ?_
  rintro e wg ⟨rfl, gg⟩
  obtain ⟨cg, fg, sg⟩ := gg.cells
  try simp only [size_drewN] at cg fg sg
  try simp only [World.size_alloc] at cg fg sg
  try simp only [World.size_drew] at cg fg sg
  try simp only [World.size_setCell] at cg fg sg
  have eg := ef.gr gg
  have lg := lf.gr gg
  go_wp2_with fail
  refine (hrs.out _ lg).mono ?_
  rintro e wh ⟨rfl, gh⟩
  obtain ⟨ch, fh, sh⟩ := gh.cells
  try simp only [size_drewN] at ch fh sh
  try simp only [World.size_alloc] at ch fh sh
  try simp only [World.size_drew] at ch fh sh
  try simp only [World.size_setCell] at ch fh sh
  have eh := (eg.gr gh).gr ((Gr.refl wh).alloc (.cells #[.int .u64 (hiW (shareT l).1), .int .u64 (loW (shareT l).1), .int .u64 (hiW (shareT l).2), .int .u64 (loW (shareT l).2)] 41))
  have lh := (lg.gr gh).gr ((Gr.refl wh).alloc (.cells #[.int .u64 (hiW (shareT l).1), .int .u64 (loW (shareT l).1), .int .u64 (hiW (shareT l).2), .int .u64 (loW (shareT l).2)] 41))
  go_wp2_with fail
  refine (hgd.out _).mono ?_
  rintro e wp ⟨rfl, rfl⟩
  go_wp2_with fail
  refine (num_nil _).mono ?_
  rintro e wj ⟨rfl, rfl⟩
  go_wp2_with fail
  refine (hnum.out _ eh).mono ?_
  rintro e wk ⟨rfl, gk⟩
  obtain ⟨ck, fk, sk⟩ := gk.cells
  try simp only [size_drewN] at ck fk sk
  try simp only [World.size_alloc] at ck fk sk
  try simp only [World.size_drew] at ck fk sk
  try simp only [World.size_setCell] at ck fk sk
  have ek := eh.gr gk
  have lk := lh.gr gk
  go_wp2_with fail
  refine (rtasks11_any a l c n _ lk hok.out hN.out).mono ?_
  rintro e wm ⟨rfl, gm⟩
  obtain ⟨cm, fm, sm⟩ := gm.cells
  try simp only [size_drewN] at cm fm sm
  try simp only [World.size_alloc] at cm fm sm
  try simp only [World.size_drew] at cm fm sm
  try simp only [World.size_setCell] at cm fm sm
  have eq := ek.gr gm
  have lq := lk.gr gm

  go_wp2_with fail
  go_ret
  refine ⟨retb (by first | rfl | simp), ?_⟩
  repeat (first | exact Gr.refl _ | apply Gr.alloc | apply Gr.drew | apply Gr.drewN | (refine Gr.setCell ?_ (by simp) _) | (refine Gr.trans ?_ (by assumption)))

set_option maxRecDepth 100000 in
set_option maxHeartbeats 3200000 in
theorem demandTasks_Zi {G : List Nat} {E : Nat → Addr} (a : Option Addr) (l : List Tsk) (c : Nat) (i n : Int) (w : World) (hE : EAt G E w) (hG : ∀ x ∈ errNos, x ∈ G) (hl : TsksAt w a l) (hm : l.length * 32 ≤ 140737488351232) (hc : a = none → c = 0) (hS : tskErr l = none) (hN : LenOk n) (q0 : 0 ≤ i) (q : (l.length : Int) ≤ i) (s : Tsk) (hs : l[0]? = some s) (hleg : s.leg = true) :
    Calls Tryd.prog 13 #[.slice a l.length c, .int .i64 i, .int .i64 n] w fun e w' => e = .returned (.bool true) ∧ Gr w w' := by
  obtain ⟨i72, hi, hz0, hz1, hz2⟩ := info_parts Tryd.infoTsk
  have i1 := hG 1 (by decide)
  have i2 := hG 2 (by decide)
  have hmm : l.length ≤ maxLen := by unfold maxLen; omega
  have n2 : l.length * 32 ≤ 140737488355328 := by omega
  have hrs := fun w h => ref_tasks a l c w h hmm
  have hgd := good_any n
  have he1 := fun w => eql_same E 1 w
  have he2 := fun w => eql_same E 2 w
  rw [hS] at hrs
  dsimp only [numO, pw] at hrs
  have hok := tskErr_ok hS
  rw [goodB_true hN] at hgd
  have hck := chkT_ok hok hN
  have hcu := chkU_num (i := i) (n := n) hok (by omega)
  replace hck := Lib.hid hck
  replace hcu := Lib.hid hcu
  have hnum := fun w hE => num_any (G := G) (E := E) 2 w hE hG (by decide)
  rw [numI_num] at hnum
  replace hnum := Lib.hid hnum
  replace hok := Lib.hid hok
  replace hS := Lib.hid hS
  replace hN := Lib.hid hN
  have hne : ((l.length : Int) == 0) = false := by
    have := get_lt hs
    simp; intro hh; rw [hh] at this; simp at this
  have hpos : 0 < l.length := get_lt hs
  have hlt := rlegalTask_any s
  rw [hleg] at hlt
  have hkk := chkT1_none hleg hN.out
  have hLeg := (Tsk.leg_iff s).1 hleg
  replace hkk := Lib.hid hkk
  replace hLeg := Lib.hid hLeg
  replace hlt := Lib.hid hlt
  replace hleg := Lib.hid hleg
  replace hs := Lib.hid hs
  replace hrs := Lib.hid hrs
  replace hgd := Lib.hid hgd
  go_enter Tryd.func13, Tryd.ntmps13
  go_wp2_with fail
  refine (alive11 _).mono ?_
  rintro e wa ⟨rfl, ga⟩
  obtain ⟨ca, fa, sa⟩ := ga.cells
  try simp only [size_drewN] at ca fa sa
  try simp only [World.size_alloc] at ca fa sa
  try simp only [World.size_drew] at ca fa sa
  try simp only [World.size_setCell] at ca fa sa
  have ea := hE.gr ga
  have la := hl.gr ga
  go_wp2_with (at_builtin; refine wpList_copyN (k := 4) (enc := Tsk.cells) rfl _ _ 29 rfl 72 i72 _ 32 Tryd.underlying29 hi hz0 hz1 hz2 rfl (by decide) Tsk.cells_len Tsk.cells_one wa.heap.size rfl rfl a c l rfl (tsks_recs la) hc hmm n2 ?_; intro v1 wc hown gc)
  obtain ⟨a1, c1, rfl, r1, _, _⟩ := recs_of_owns Tsk.cells_len hown
  clear hown
  have ec := ea.gr gc
  have lc := la.gr gc
  go_wp2_with fail
  refine (dtasks_yes a1 l c1 n _ (recs_tsks r1) hck.out).mono ?_
  rintro e wd ⟨rfl, gd⟩
  obtain ⟨cd, fd, sd⟩ := gd.cells
  try simp only [size_drewN] at cd fd sd
  try simp only [World.size_alloc] at cd fd sd
  try simp only [World.size_drew] at cd fd sd
  try simp only [World.size_setCell] at cd fd sd
  have ed := ec.gr gd
  have ld := lc.gr gd
  go_wp2_with (at_builtin; refine wpList_copyN (k := 4) (enc := Tsk.cells) rfl _ _ 29 rfl 72 i72 _ 32 Tryd.underlying29 hi hz0 hz1 hz2 rfl (by decide) Tsk.cells_len Tsk.cells_one wd.heap.size rfl rfl a c l rfl (tsks_recs ld) hc hmm n2 ?_; intro v2 wf hown gf)
  obtain ⟨a2, c2, rfl, r2, _, _⟩ := recs_of_owns Tsk.cells_len hown
  clear hown
  have ef := ed.gr gf
  have lf := ld.gr gf
  go_wp2_with fail
  refine (until_no a2 l c2 i n _ ef i1 i2 (recs_tsks r2) hmm _ hcu.out).mono ?_
  rintro e wg ⟨rfl, gg⟩
  obtain ⟨cg, fg, sg⟩ := gg.cells
  try simp only [size_drewN] at cg fg sg
  try simp only [World.size_alloc] at cg fg sg
  try simp only [World.size_drew] at cg fg sg
  try simp only [World.size_setCell] at cg fg sg
  have eg := ef.gr gg
  have lg := lf.gr gg
  go_wp2_with fail
  refine (hrs.out _ lg).mono ?_
  rintro e wh ⟨rfl, gh⟩
  obtain ⟨ch, fh, sh⟩ := gh.cells
  try simp only [size_drewN] at ch fh sh
  try simp only [World.size_alloc] at ch fh sh
  try simp only [World.size_drew] at ch fh sh
  try simp only [World.size_setCell] at ch fh sh
  have eh := (eg.gr gh).gr ((Gr.refl wh).alloc (.cells #[.int .u64 (hiW (shareT l).1), .int .u64 (loW (shareT l).1), .int .u64 (hiW (shareT l).2), .int .u64 (loW (shareT l).2)] 41))
  have lh := (lg.gr gh).gr ((Gr.refl wh).alloc (.cells #[.int .u64 (hiW (shareT l).1), .int .u64 (loW (shareT l).1), .int .u64 (hiW (shareT l).2), .int .u64 (loW (shareT l).2)] 41))
  go_wp2_with fail
  refine (hgd.out _).mono ?_
  rintro e wp ⟨rfl, rfl⟩
  go_wp2_with fail
  refine (num_nil _).mono ?_
  rintro e wj ⟨rfl, rfl⟩
  go_wp2_with fail
  refine (hnum.out _ eh).mono ?_
  rintro e wk ⟨rfl, gk⟩
  obtain ⟨ck, fk, sk⟩ := gk.cells
  try simp only [size_drewN] at ck fk sk
  try simp only [World.size_alloc] at ck fk sk
  try simp only [World.size_drew] at ck fk sk
  try simp only [World.size_setCell] at ck fk sk
  have ek := eh.gr gk
  have lk := lh.gr gk
  go_wp2_with fail
  refine (rtasks11_any a l c n _ lk hok.out hN.out).mono ?_
  rintro e wm ⟨rfl, gm⟩
  obtain ⟨cm, fm, sm⟩ := gm.cells
  try simp only [size_drewN] at cm fm sm
  try simp only [World.size_alloc] at cm fm sm
  try simp only [World.size_drew] at cm fm sm
  try simp only [World.size_setCell] at cm fm sm
  have eq := ek.gr gm
  have lq := lk.gr gm
  obtain ⟨bs, os, rfl, hbs, t0, t1, t2, t3⟩ := lq 0 s hs.out
  simp only [Nat.zero_mul, Nat.add_zero] at t0 t1 t2 t3
  go_wp2_with fail
  refine (dtask_yes s n _ hkk.out).mono ?_
  rintro e wr ⟨rfl, gr⟩
  obtain ⟨cr, fr, sr⟩ := gr.cells
  try simp only [size_drewN] at cr fr sr
  try simp only [World.size_alloc] at cr fr sr
  try simp only [World.size_drew] at cr fr sr
  try simp only [World.size_setCell] at cr fr sr
  have ur := fun o => cr bs o (by omega)
  have hbr : bs < wr.heap.size := by omega
  go_wp2_with fail
  refine (hlt.out _).mono ?_
  rintro e wt ⟨rfl, gt⟩
  obtain ⟨ct, ft, st⟩ := gt.cells
  try simp only [size_drewN] at ct ft st
  try simp only [World.size_alloc] at ct ft st
  try simp only [World.size_drew] at ct ft st
  try simp only [World.size_setCell] at ct ft st
  have ut := fun o => ct bs o (by omega)
  have hbt : bs < wt.heap.size := by omega
  go_wp2_with fail
  refine (hgd.out _).mono ?_
  rintro e wv ⟨rfl, rfl⟩
  go_wp2_with fail
  refine (rtask_any s n _ hLeg.out hN.out).mono ?_
  rintro e wx ⟨rfl, gx⟩
  obtain ⟨cx, fx, sx⟩ := gx.cells
  try simp only [size_drewN] at cx fx sx
  try simp only [World.size_alloc] at cx fx sx
  try simp only [World.size_drew] at cx fx sx
  try simp only [World.size_setCell] at cx fx sx
  go_wp2_with fail
  go_ret
  refine ⟨retb (by first | rfl | simp), ?_⟩
  repeat (first | exact Gr.refl _ | apply Gr.alloc | apply Gr.drew | apply Gr.drewN | (refine Gr.setCell ?_ (by simp) _) | (refine Gr.trans ?_ (by assumption)))

set_option maxRecDepth 100000 in
set_option maxHeartbeats 3200000 in
theorem demandTasks_Ce {G : List Nat} {E : Nat → Addr} (a : Option Addr) (l : List Tsk) (c : Nat) (i n : Int) (w : World) (hE : EAt G E w) (hG : ∀ x ∈ errNos, x ∈ G) (hl : TsksAt w a l) (hm : l.length * 32 ≤ 140737488351232) (hc : a = none → c = 0) (hS : tskErr l = none) (hN : ¬ LenOk n) (hs : l = []) :
    Calls Tryd.prog 13 #[.slice a l.length c, .int .i64 i, .int .i64 n] w fun e w' => e = .returned (.bool true) ∧ Gr w w' := by
  obtain ⟨i72, hi, hz0, hz1, hz2⟩ := info_parts Tryd.infoTsk
  have i1 := hG 1 (by decide)
  have i2 := hG 2 (by decide)
  have hmm : l.length ≤ maxLen := by unfold maxLen; omega
  have n2 : l.length * 32 ≤ 140737488355328 := by omega
  have hrs := fun w h => ref_tasks a l c w h hmm
  have hgd := good_any n
  have he1 := fun w => eql_same E 1 w
  have he2 := fun w => eql_same E 2 w
  rw [hS] at hrs
  dsimp only [numO, pw] at hrs
  have hok := tskErr_ok hS
  rw [goodB_false hN] at hgd
  have hck := chkT_len hok hN
  have hcu := chkU_num (i := i) hok (.inl hN)
  replace hck := Lib.hid hck
  replace hcu := Lib.hid hcu
  have hnum := fun w hE => num_any (G := G) (E := E) 2 w hE hG (by decide)
  rw [numI_num] at hnum
  replace hnum := Lib.hid hnum
  replace hok := Lib.hid hok
  replace hS := Lib.hid hS
  replace hN := Lib.hid hN
  have hne : ((l.length : Int) == 0) = true := by rw [hs]; rfl
  replace hs := Lib.hid hs
  replace hrs := Lib.hid hrs
  replace hgd := Lib.hid hgd
  go_enter Tryd.func13, Tryd.ntmps13
  go_wp2_with fail
  refine (alive11 _).mono ?_
  rintro e wa ⟨rfl, ga⟩
  obtain ⟨ca, fa, sa⟩ := ga.cells
  try simp only [size_drewN] at ca fa sa
  try simp only [World.size_alloc] at ca fa sa
  try simp only [World.size_drew] at ca fa sa
  try simp only [World.size_setCell] at ca fa sa
  have ea := hE.gr ga
  have la := hl.gr ga
  go_wp2_with (at_builtin; refine wpList_copyN (k := 4) (enc := Tsk.cells) rfl _ _ 29 rfl 72 i72 _ 32 Tryd.underlying29 hi hz0 hz1 hz2 rfl (by decide) Tsk.cells_len Tsk.cells_one wa.heap.size rfl rfl a c l rfl (tsks_recs la) hc hmm n2 ?_; intro v1 wc hown gc)
  obtain ⟨a1, c1, rfl, r1, _, _⟩ := recs_of_owns Tsk.cells_len hown
  clear hown
  have ec := ea.gr gc
  have lc := la.gr gc
  go_wp2_with fail
  refine (dtasks_no a1 l c1 n _ ec i1 i2 (recs_tsks r1) hmm _ hck.out).mono ?_
  rintro e wd ⟨rfl, gd⟩
  obtain ⟨cd, fd, sd⟩ := gd.cells
  try simp only [size_drewN] at cd fd sd
  try simp only [World.size_alloc] at cd fd sd
  try simp only [World.size_drew] at cd fd sd
  try simp only [World.size_setCell] at cd fd sd
  have ed := ec.gr gd
  have ld := lc.gr gd
  go_wp2_with (at_builtin; refine wpList_copyN (k := 4) (enc := Tsk.cells) rfl _ _ 29 rfl 72 i72 _ 32 Tryd.underlying29 hi hz0 hz1 hz2 rfl (by decide) Tsk.cells_len Tsk.cells_one wd.heap.size rfl rfl a c l rfl (tsks_recs ld) hc hmm n2 ?_; intro v2 wf hown gf)
  obtain ⟨a2, c2, rfl, r2, _, _⟩ := recs_of_owns Tsk.cells_len hown
  clear hown
  have ef := ed.gr gf
  have lf := ld.gr gf
  go_wp2_with fail
  refine (until_no a2 l c2 i n _ ef i1 i2 (recs_tsks r2) hmm _ hcu.out).mono ?_
  rintro e wg ⟨rfl, gg⟩
  obtain ⟨cg, fg, sg⟩ := gg.cells
  try simp only [size_drewN] at cg fg sg
  try simp only [World.size_alloc] at cg fg sg
  try simp only [World.size_drew] at cg fg sg
  try simp only [World.size_setCell] at cg fg sg
  have eg := ef.gr gg
  have lg := lf.gr gg
  go_wp2_with fail
  refine (hrs.out _ lg).mono ?_
  rintro e wh ⟨rfl, gh⟩
  obtain ⟨ch, fh, sh⟩ := gh.cells
  try simp only [size_drewN] at ch fh sh
  try simp only [World.size_alloc] at ch fh sh
  try simp only [World.size_drew] at ch fh sh
  try simp only [World.size_setCell] at ch fh sh
  have eh := (eg.gr gh).gr ((Gr.refl wh).alloc (.cells #[.int .u64 (hiW (shareT l).1), .int .u64 (loW (shareT l).1), .int .u64 (hiW (shareT l).2), .int .u64 (loW (shareT l).2)] 41))
  have lh := (lg.gr gh).gr ((Gr.refl wh).alloc (.cells #[.int .u64 (hiW (shareT l).1), .int .u64 (loW (shareT l).1), .int .u64 (hiW (shareT l).2), .int .u64 (loW (shareT l).2)] 41))
  go_wp2_with fail
  refine (hgd.out _).mono ?_
  rintro e wp ⟨rfl, rfl⟩
  go_wp2_with fail
  refine (hnum.out _ eh).mono ?_
  rintro e wj ⟨rfl, gj⟩
  obtain ⟨cj, fj, sj⟩ := gj.cells
  try simp only [size_drewN] at cj fj sj
  try simp only [World.size_alloc] at cj fj sj
  try simp only [World.size_drew] at cj fj sj
  try simp only [World.size_setCell] at cj fj sj
  have ej := eh.gr gj
  have lj := lh.gr gj
  go_wp2_with fail
  refine (hnum.out _ ej).mono ?_
  rintro e wk ⟨rfl, gk⟩
  obtain ⟨ck, fk, sk⟩ := gk.cells
  try simp only [size_drewN] at ck fk sk
  try simp only [World.size_alloc] at ck fk sk
  try simp only [World.size_drew] at ck fk sk
  try simp only [World.size_setCell] at ck fk sk
  have eq := ej.gr gk
  have lq := lj.gr gk

  go_wp2_with fail
  go_ret
  refine ⟨retb (by first | rfl | simp), ?_⟩
  repeat (first | exact Gr.refl _ | apply Gr.alloc | apply Gr.drew | apply Gr.drewN | (refine Gr.setCell ?_ (by simp) _) | (refine Gr.trans ?_ (by assumption)))

set_option maxRecDepth 100000 in
set_option maxHeartbeats 3200000 in
theorem demandTasks_Ciii {G : List Nat} {E : Nat → Addr} (a : Option Addr) (l : List Tsk) (c : Nat) (i n : Int) (w : World) (hE : EAt G E w) (hG : ∀ x ∈ errNos, x ∈ G) (hl : TsksAt w a l) (hm : l.length * 32 ≤ 140737488351232) (hc : a = none → c = 0) (hS : tskErr l = none) (hN : ¬ LenOk n) (s : Tsk) (hs : l[0]? = some s) (hleg : s.leg = true) :
    Calls Tryd.prog 13 #[.slice a l.length c, .int .i64 i, .int .i64 n] w fun e w' => e = .returned (.bool true) ∧ Gr w w' := by
  obtain ⟨i72, hi, hz0, hz1, hz2⟩ := info_parts Tryd.infoTsk
  have i1 := hG 1 (by decide)
  have i2 := hG 2 (by decide)
  have hmm : l.length ≤ maxLen := by unfold maxLen; omega
  have n2 : l.length * 32 ≤ 140737488355328 := by omega
  have hrs := fun w h => ref_tasks a l c w h hmm
  have hgd := good_any n
  have he1 := fun w => eql_same E 1 w
  have he2 := fun w => eql_same E 2 w
  rw [hS] at hrs
  dsimp only [numO, pw] at hrs
  have hok := tskErr_ok hS
  rw [goodB_false hN] at hgd
  have hck := chkT_len hok hN
  have hcu := chkU_num (i := i) hok (.inl hN)
  replace hck := Lib.hid hck
  replace hcu := Lib.hid hcu
  have hnum := fun w hE => num_any (G := G) (E := E) 2 w hE hG (by decide)
  rw [numI_num] at hnum
  replace hnum := Lib.hid hnum
  replace hok := Lib.hid hok
  replace hS := Lib.hid hS
  replace hN := Lib.hid hN
  have hne : ((l.length : Int) == 0) = false := by
    have := get_lt hs
    simp; intro hh; rw [hh] at this; simp at this
  have hpos : 0 < l.length := get_lt hs
  have hlt := rlegalTask_any s
  rw [hleg] at hlt
  have hkk := chkT1_num hleg hN.out
  replace hkk := Lib.hid hkk
  replace hlt := Lib.hid hlt
  replace hleg := Lib.hid hleg
  replace hs := Lib.hid hs
  replace hrs := Lib.hid hrs
  replace hgd := Lib.hid hgd
  go_enter Tryd.func13, Tryd.ntmps13
  go_wp2_with fail
  refine (alive11 _).mono ?_
  rintro e wa ⟨rfl, ga⟩
  obtain ⟨ca, fa, sa⟩ := ga.cells
  try simp only [size_drewN] at ca fa sa
  try simp only [World.size_alloc] at ca fa sa
  try simp only [World.size_drew] at ca fa sa
  try simp only [World.size_setCell] at ca fa sa
  have ea := hE.gr ga
  have la := hl.gr ga
  go_wp2_with (at_builtin; refine wpList_copyN (k := 4) (enc := Tsk.cells) rfl _ _ 29 rfl 72 i72 _ 32 Tryd.underlying29 hi hz0 hz1 hz2 rfl (by decide) Tsk.cells_len Tsk.cells_one wa.heap.size rfl rfl a c l rfl (tsks_recs la) hc hmm n2 ?_; intro v1 wc hown gc)
  obtain ⟨a1, c1, rfl, r1, _, _⟩ := recs_of_owns Tsk.cells_len hown
  clear hown
  have ec := ea.gr gc
  have lc := la.gr gc
  go_wp2_with fail
  refine (dtasks_no a1 l c1 n _ ec i1 i2 (recs_tsks r1) hmm _ hck.out).mono ?_
  rintro e wd ⟨rfl, gd⟩
  obtain ⟨cd, fd, sd⟩ := gd.cells
  try simp only [size_drewN] at cd fd sd
  try simp only [World.size_alloc] at cd fd sd
  try simp only [World.size_drew] at cd fd sd
  try simp only [World.size_setCell] at cd fd sd
  have ed := ec.gr gd
  have ld := lc.gr gd
  go_wp2_with (at_builtin; refine wpList_copyN (k := 4) (enc := Tsk.cells) rfl _ _ 29 rfl 72 i72 _ 32 Tryd.underlying29 hi hz0 hz1 hz2 rfl (by decide) Tsk.cells_len Tsk.cells_one wd.heap.size rfl rfl a c l rfl (tsks_recs ld) hc hmm n2 ?_; intro v2 wf hown gf)
  obtain ⟨a2, c2, rfl, r2, _, _⟩ := recs_of_owns Tsk.cells_len hown
  clear hown
  have ef := ed.gr gf
  have lf := ld.gr gf
  go_wp2_with fail
  refine (until_no a2 l c2 i n _ ef i1 i2 (recs_tsks r2) hmm _ hcu.out).mono ?_
  rintro e wg ⟨rfl, gg⟩
  obtain ⟨cg, fg, sg⟩ := gg.cells
  try simp only [size_drewN] at cg fg sg
  try simp only [World.size_alloc] at cg fg sg
  try simp only [World.size_drew] at cg fg sg
  try simp only [World.size_setCell] at cg fg sg
  have eg := ef.gr gg
  have lg := lf.gr gg
  go_wp2_with fail
  refine (hrs.out _ lg).mono ?_
  rintro e wh ⟨rfl, gh⟩
  obtain ⟨ch, fh, sh⟩ := gh.cells
  try simp only [size_drewN] at ch fh sh
  try simp only [World.size_alloc] at ch fh sh
  try simp only [World.size_drew] at ch fh sh
  try simp only [World.size_setCell] at ch fh sh
  have eh := (eg.gr gh).gr ((Gr.refl wh).alloc (.cells #[.int .u64 (hiW (shareT l).1), .int .u64 (loW (shareT l).1), .int .u64 (hiW (shareT l).2), .int .u64 (loW (shareT l).2)] 41))
  have lh := (lg.gr gh).gr ((Gr.refl wh).alloc (.cells #[.int .u64 (hiW (shareT l).1), .int .u64 (loW (shareT l).1), .int .u64 (hiW (shareT l).2), .int .u64 (loW (shareT l).2)] 41))
  go_wp2_with fail
  refine (hgd.out _).mono ?_
  rintro e wp ⟨rfl, rfl⟩
  go_wp2_with fail
  refine (hnum.out _ eh).mono ?_
  rintro e wj ⟨rfl, gj⟩
  obtain ⟨cj, fj, sj⟩ := gj.cells
  try simp only [size_drewN] at cj fj sj
  try simp only [World.size_alloc] at cj fj sj
  try simp only [World.size_drew] at cj fj sj
  try simp only [World.size_setCell] at cj fj sj
  have ej := eh.gr gj
  have lj := lh.gr gj
  go_wp2_with fail
  refine (hnum.out _ ej).mono ?_
  rintro e wk ⟨rfl, gk⟩
  obtain ⟨ck, fk, sk⟩ := gk.cells
  try simp only [size_drewN] at ck fk sk
  try simp only [World.size_alloc] at ck fk sk
  try simp only [World.size_drew] at ck fk sk
  try simp only [World.size_setCell] at ck fk sk
  have eq := ej.gr gk
  have lq := lj.gr gk
  obtain ⟨bs, os, rfl, hbs, t0, t1, t2, t3⟩ := lq 0 s hs.out
  simp only [Nat.zero_mul, Nat.add_zero] at t0 t1 t2 t3
  go_wp2_with fail
  refine (dtask_no s n _ eq i1 i2 _ hkk.out).mono ?_
  rintro e wr ⟨rfl, gr⟩
  obtain ⟨cr, fr, sr⟩ := gr.cells
  try simp only [size_drewN] at cr fr sr
  try simp only [World.size_alloc] at cr fr sr
  try simp only [World.size_drew] at cr fr sr
  try simp only [World.size_setCell] at cr fr sr
  have ur := fun o => cr bs o (by omega)
  have hbr : bs < wr.heap.size := by omega
  have er := eq.gr gr
  go_wp2_with fail
  refine (hlt.out _).mono ?_
  rintro e wt ⟨rfl, gt⟩
  obtain ⟨ct, ft, st⟩ := gt.cells
  try simp only [size_drewN] at ct ft st
  try simp only [World.size_alloc] at ct ft st
  try simp only [World.size_drew] at ct ft st
  try simp only [World.size_setCell] at ct ft st
  have et := (er.gr gt).c0 i2
  go_wp2_with fail
  refine (hgd.out _).mono ?_
  rintro e wv ⟨rfl, rfl⟩
  go_wp2_with fail
  go_ret
  refine ⟨retb (by first | rfl | simp), ?_⟩
  repeat (first | exact Gr.refl _ | apply Gr.alloc | apply Gr.drew | apply Gr.drewN | (refine Gr.setCell ?_ (by simp) _) | (refine Gr.trans ?_ (by assumption)))

set_option maxRecDepth 100000 in
set_option maxHeartbeats 3200000 in
theorem demandTasks_Di {G : List Nat} {E : Nat → Addr} (a : Option Addr) (l : List Tsk) (c : Nat) (i n : Int) (w : World) (hE : EAt G E w) (hG : ∀ x ∈ errNos, x ∈ G) (hl : TsksAt w a l) (hm : l.length * 32 ≤ 140737488351232) (hc : a = none → c = 0) (hS : tskErr l = some 1) (s : Tsk) (hs : l[0]? = some s) (hleg : s.leg = true) (hN : LenOk n) :
    Calls Tryd.prog 13 #[.slice a l.length c, .int .i64 i, .int .i64 n] w fun e w' => e = .returned (.bool true) ∧ Gr w w' := by
  obtain ⟨i72, hi, hz0, hz1, hz2⟩ := info_parts Tryd.infoTsk
  have i1 := hG 1 (by decide)
  have i2 := hG 2 (by decide)
  have hmm : l.length ≤ maxLen := by unfold maxLen; omega
  have n2 : l.length * 32 ≤ 140737488355328 := by omega
  have hrs := fun w h => ref_tasks a l c w h hmm
  have hgd := good_any n
  have he1 := fun w => eql_same E 1 w
  have he2 := fun w => eql_same E 2 w
  rw [hS] at hrs
  dsimp only [numO, pw] at hrs
  rw [numI_tsk] at hrs
  have hok := (tskErr_no hS).1
  have hck := chkT_bad (n := n) hok
  have hcu := chkU_bad (i := i) (n := n) hok
  replace hck := Lib.hid hck
  replace hcu := Lib.hid hcu
  replace hok := Lib.hid hok
  replace hS := Lib.hid hS
  have hnum := fun w hE => num_any (G := G) (E := E) 1 w hE hG (by decide)
  rw [numI_tsk] at hnum
  replace hnum := Lib.hid hnum
  rw [goodB_true hN] at hgd
  replace hN := Lib.hid hN
  have hne : ((l.length : Int) == 0) = false := by
    have := get_lt hs
    simp; intro hh; rw [hh] at this; simp at this
  have hpos : 0 < l.length := get_lt hs
  have hlt := rlegalTask_any s
  rw [hleg] at hlt
  have hkk := chkT1_none hleg hN.out
  have hLeg := (Tsk.leg_iff s).1 hleg
  replace hkk := Lib.hid hkk
  replace hLeg := Lib.hid hLeg
  replace hlt := Lib.hid hlt
  replace hleg := Lib.hid hleg
  replace hs := Lib.hid hs
  replace hrs := Lib.hid hrs
  replace hgd := Lib.hid hgd
  go_enter Tryd.func13, Tryd.ntmps13
  go_wp2_with fail
  refine (alive11 _).mono ?_
  rintro e wa ⟨rfl, ga⟩
  obtain ⟨ca, fa, sa⟩ := ga.cells
  try simp only [size_drewN] at ca fa sa
  try simp only [World.size_alloc] at ca fa sa
  try simp only [World.size_drew] at ca fa sa
  try simp only [World.size_setCell] at ca fa sa
  have ea := hE.gr ga
  have la := hl.gr ga
  go_wp2_with (at_builtin; refine wpList_copyN (k := 4) (enc := Tsk.cells) rfl _ _ 29 rfl 72 i72 _ 32 Tryd.underlying29 hi hz0 hz1 hz2 rfl (by decide) Tsk.cells_len Tsk.cells_one wa.heap.size rfl rfl a c l rfl (tsks_recs la) hc hmm n2 ?_; intro v1 wc hown gc)
  obtain ⟨a1, c1, rfl, r1, _, _⟩ := recs_of_owns Tsk.cells_len hown
  clear hown
  have ec := ea.gr gc
  have lc := la.gr gc
  go_wp2_with fail
  refine (dtasks_no a1 l c1 n _ ec i1 i2 (recs_tsks r1) hmm _ hck.out).mono ?_
  rintro e wd ⟨rfl, gd⟩
  obtain ⟨cd, fd, sd⟩ := gd.cells
  try simp only [size_drewN] at cd fd sd
  try simp only [World.size_alloc] at cd fd sd
  try simp only [World.size_drew] at cd fd sd
  try simp only [World.size_setCell] at cd fd sd
  have ed := ec.gr gd
  have ld := lc.gr gd
  go_wp2_with (at_builtin; refine wpList_copyN (k := 4) (enc := Tsk.cells) rfl _ _ 29 rfl 72 i72 _ 32 Tryd.underlying29 hi hz0 hz1 hz2 rfl (by decide) Tsk.cells_len Tsk.cells_one wd.heap.size rfl rfl a c l rfl (tsks_recs ld) hc hmm n2 ?_; intro v2 wf hown gf)
  obtain ⟨a2, c2, rfl, r2, _, _⟩ := recs_of_owns Tsk.cells_len hown
  clear hown
  have ef := ed.gr gf
  have lf := ld.gr gf
  go_wp2_with fail
  refine (until_no a2 l c2 i n _ ef i1 i2 (recs_tsks r2) hmm _ hcu.out).mono ?_
  rintro e wg ⟨rfl, gg⟩
  obtain ⟨cg, fg, sg⟩ := gg.cells
  try simp only [size_drewN] at cg fg sg
  try simp only [World.size_alloc] at cg fg sg
  try simp only [World.size_drew] at cg fg sg
  try simp only [World.size_setCell] at cg fg sg
  have eg := ef.gr gg
  have lg := lf.gr gg
  go_wp2_with fail
  refine (hrs.out _ lg).mono ?_
  rintro e wh ⟨rfl, gh⟩
  obtain ⟨ch, fh, sh⟩ := gh.cells
  try simp only [size_drewN] at ch fh sh
  try simp only [World.size_alloc] at ch fh sh
  try simp only [World.size_drew] at ch fh sh
  try simp only [World.size_setCell] at ch fh sh
  have eh := (eg.gr gh).gr ((Gr.refl wh).alloc (.cells #[.int .u64 0, .int .u64 0, .int .u64 0, .int .u64 0] 41))
  have lh := (lg.gr gh).gr ((Gr.refl wh).alloc (.cells #[.int .u64 0, .int .u64 0, .int .u64 0, .int .u64 0] 41))
  go_wp2_with fail
  refine (hnum.out _ eh).mono ?_
  rintro e wj ⟨rfl, gj⟩
  obtain ⟨cj, fj, sj⟩ := gj.cells
  try simp only [size_drewN] at cj fj sj
  try simp only [World.size_alloc] at cj fj sj
  try simp only [World.size_drew] at cj fj sj
  try simp only [World.size_setCell] at cj fj sj
  have ej := eh.gr gj
  have lj := lh.gr gj
  go_wp2_with fail
  refine (hnum.out _ ej).mono ?_
  rintro e wk ⟨rfl, gk⟩
  obtain ⟨ck, fk, sk⟩ := gk.cells
  try simp only [size_drewN] at ck fk sk
  try simp only [World.size_alloc] at ck fk sk
  try simp only [World.size_drew] at ck fk sk
  try simp only [World.size_setCell] at ck fk sk
  have eq := ej.gr gk
  have lq := lj.gr gk
  obtain ⟨bs, os, rfl, hbs, t0, t1, t2, t3⟩ := lq 0 s hs.out
  simp only [Nat.zero_mul, Nat.add_zero] at t0 t1 t2 t3
  go_wp2_with fail
  refine (dtask_yes s n _ hkk.out).mono ?_
  rintro e wr ⟨rfl, gr⟩
  obtain ⟨cr, fr, sr⟩ := gr.cells
  try simp only [size_drewN] at cr fr sr
  try simp only [World.size_alloc] at cr fr sr
  try simp only [World.size_drew] at cr fr sr
  try simp only [World.size_setCell] at cr fr sr
  have ur := fun o => cr bs o (by omega)
  have hbr : bs < wr.heap.size := by omega
  go_wp2_with fail
  refine (hlt.out _).mono ?_
  rintro e wt ⟨rfl, gt⟩
  obtain ⟨ct, ft, st⟩ := gt.cells
  try simp only [size_drewN] at ct ft st
  try simp only [World.size_alloc] at ct ft st
  try simp only [World.size_drew] at ct ft st
  try simp only [World.size_setCell] at ct ft st
  have ut := fun o => ct bs o (by omega)
  have hbt : bs < wt.heap.size := by omega
  go_wp2_with fail
  refine (hgd.out _).mono ?_
  rintro e wv ⟨rfl, rfl⟩
  go_wp2_with fail
  refine (rtask_any s n _ hLeg.out hN.out).mono ?_
  rintro e wx ⟨rfl, gx⟩
  obtain ⟨cx, fx, sx⟩ := gx.cells
  try simp only [size_drewN] at cx fx sx
  try simp only [World.size_alloc] at cx fx sx
  try simp only [World.size_drew] at cx fx sx
  try simp only [World.size_setCell] at cx fx sx
  go_wp2_with fail
  go_ret
  refine ⟨retb (by first | rfl | simp), ?_⟩
  repeat (first | exact Gr.refl _ | apply Gr.alloc | apply Gr.drew | apply Gr.drewN | (refine Gr.setCell ?_ (by simp) _) | (refine Gr.trans ?_ (by assumption)))

set_option maxRecDepth 100000 in
set_option maxHeartbeats 3200000 in
theorem demandTasks_Dii {G : List Nat} {E : Nat → Addr} (a : Option Addr) (l : List Tsk) (c : Nat) (i n : Int) (w : World) (hE : EAt G E w) (hG : ∀ x ∈ errNos, x ∈ G) (hl : TsksAt w a l) (hm : l.length * 32 ≤ 140737488351232) (hc : a = none → c = 0) (hS : tskErr l = some 1) (s : Tsk) (hs : l[0]? = some s) (hleg : s.leg = false) :
    Calls Tryd.prog 13 #[.slice a l.length c, .int .i64 i, .int .i64 n] w fun e w' => e = .returned (.bool true) ∧ Gr w w' := by
  obtain ⟨i72, hi, hz0, hz1, hz2⟩ := info_parts Tryd.infoTsk
  have i1 := hG 1 (by decide)
  have i2 := hG 2 (by decide)
  have hmm : l.length ≤ maxLen := by unfold maxLen; omega
  have n2 : l.length * 32 ≤ 140737488355328 := by omega
  have hrs := fun w h => ref_tasks a l c w h hmm
  have hgd := good_any n
  have he1 := fun w => eql_same E 1 w
  have he2 := fun w => eql_same E 2 w
  rw [hS] at hrs
  dsimp only [numO, pw] at hrs
  rw [numI_tsk] at hrs
  have hok := (tskErr_no hS).1
  have hck := chkT_bad (n := n) hok
  have hcu := chkU_bad (i := i) (n := n) hok
  replace hck := Lib.hid hck
  replace hcu := Lib.hid hcu
  replace hok := Lib.hid hok
  replace hS := Lib.hid hS
  have hnum := fun w hE => num_any (G := G) (E := E) 1 w hE hG (by decide)
  rw [numI_tsk] at hnum
  replace hnum := Lib.hid hnum
  have hne : ((l.length : Int) == 0) = false := by
    have := get_lt hs
    simp; intro hh; rw [hh] at this; simp at this
  have hpos : 0 < l.length := get_lt hs
  have hlt := rlegalTask_any s
  rw [hleg] at hlt
  have hkk := chkT1_tsk (n := n) hleg
  replace hkk := Lib.hid hkk
  replace hlt := Lib.hid hlt
  replace hleg := Lib.hid hleg
  replace hs := Lib.hid hs
  replace hrs := Lib.hid hrs
  replace hgd := Lib.hid hgd
  go_enter Tryd.func13, Tryd.ntmps13
  go_wp2_with fail
  refine (alive11 _).mono ?_
  rintro e wa ⟨rfl, ga⟩
  obtain ⟨ca, fa, sa⟩ := ga.cells
  try simp only [size_drewN] at ca fa sa
  try simp only [World.size_alloc] at ca fa sa
  try simp only [World.size_drew] at ca fa sa
  try simp only [World.size_setCell] at ca fa sa
  have ea := hE.gr ga
  have la := hl.gr ga
  go_wp2_with (at_builtin; refine wpList_copyN (k := 4) (enc := Tsk.cells) rfl _ _ 29 rfl 72 i72 _ 32 Tryd.underlying29 hi hz0 hz1 hz2 rfl (by decide) Tsk.cells_len Tsk.cells_one wa.heap.size rfl rfl a c l rfl (tsks_recs la) hc hmm n2 ?_; intro v1 wc hown gc)
  obtain ⟨a1, c1, rfl, r1, _, _⟩ := recs_of_owns Tsk.cells_len hown
  clear hown
  have ec := ea.gr gc
  have lc := la.gr gc
  go_wp2_with fail
  refine (dtasks_no a1 l c1 n _ ec i1 i2 (recs_tsks r1) hmm _ hck.out).mono ?_
  rintro e wd ⟨rfl, gd⟩
  obtain ⟨cd, fd, sd⟩ := gd.cells
  try simp only [size_drewN] at cd fd sd
  try simp only [World.size_alloc] at cd fd sd
  try simp only [World.size_drew] at cd fd sd
  try simp only [World.size_setCell] at cd fd sd
  have ed := ec.gr gd
  have ld := lc.gr gd
  go_wp2_with (at_builtin; refine wpList_copyN (k := 4) (enc := Tsk.cells) rfl _ _ 29 rfl 72 i72 _ 32 Tryd.underlying29 hi hz0 hz1 hz2 rfl (by decide) Tsk.cells_len Tsk.cells_one wd.heap.size rfl rfl a c l rfl (tsks_recs ld) hc hmm n2 ?_; intro v2 wf hown gf)
  obtain ⟨a2, c2, rfl, r2, _, _⟩ := recs_of_owns Tsk.cells_len hown
  clear hown
  have ef := ed.gr gf
  have lf := ld.gr gf
  go_wp2_with fail
  refine (until_no a2 l c2 i n _ ef i1 i2 (recs_tsks r2) hmm _ hcu.out).mono ?_
  rintro e wg ⟨rfl, gg⟩
  obtain ⟨cg, fg, sg⟩ := gg.cells
  try simp only [size_drewN] at cg fg sg
  try simp only [World.size_alloc] at cg fg sg
  try simp only [World.size_drew] at cg fg sg
  try simp only [World.size_setCell] at cg fg sg
  have eg := ef.gr gg
  have lg := lf.gr gg
  go_wp2_with fail
  refine (hrs.out _ lg).mono ?_
  rintro e wh ⟨rfl, gh⟩
  obtain ⟨ch, fh, sh⟩ := gh.cells
  try simp only [size_drewN] at ch fh sh
  try simp only [World.size_alloc] at ch fh sh
  try simp only [World.size_drew] at ch fh sh
  try simp only [World.size_setCell] at ch fh sh
  have eh := (eg.gr gh).gr ((Gr.refl wh).alloc (.cells #[.int .u64 0, .int .u64 0, .int .u64 0, .int .u64 0] 41))
  have lh := (lg.gr gh).gr ((Gr.refl wh).alloc (.cells #[.int .u64 0, .int .u64 0, .int .u64 0, .int .u64 0] 41))
  go_wp2_with fail
  refine (hnum.out _ eh).mono ?_
  rintro e wj ⟨rfl, gj⟩
  obtain ⟨cj, fj, sj⟩ := gj.cells
  try simp only [size_drewN] at cj fj sj
  try simp only [World.size_alloc] at cj fj sj
  try simp only [World.size_drew] at cj fj sj
  try simp only [World.size_setCell] at cj fj sj
  have ej := eh.gr gj
  have lj := lh.gr gj
  go_wp2_with fail
  refine (hnum.out _ ej).mono ?_
  rintro e wk ⟨rfl, gk⟩
  obtain ⟨ck, fk, sk⟩ := gk.cells
  try simp only [size_drewN] at ck fk sk
  try simp only [World.size_alloc] at ck fk sk
  try simp only [World.size_drew] at ck fk sk
  try simp only [World.size_setCell] at ck fk sk
  have eq := ej.gr gk
  have lq := lj.gr gk
  obtain ⟨bs, os, rfl, hbs, t0, t1, t2, t3⟩ := lq 0 s hs.out
  simp only [Nat.zero_mul, Nat.add_zero] at t0 t1 t2 t3
  go_wp2_with fail
  refine (dtask_no s n _ eq i1 i2 _ hkk.out).mono ?_
  rintro e wr ⟨rfl, gr⟩
  obtain ⟨cr, fr, sr⟩ := gr.cells
  try simp only [size_drewN] at cr fr sr
  try simp only [World.size_alloc] at cr fr sr
  try simp only [World.size_drew] at cr fr sr
  try simp only [World.size_setCell] at cr fr sr
  have ur := fun o => cr bs o (by omega)
  have hbr : bs < wr.heap.size := by omega
  have er := eq.gr gr
  go_wp2_with fail
  refine (hlt.out _).mono ?_
  rintro e wt ⟨rfl, gt⟩
  obtain ⟨ct, ft, st⟩ := gt.cells
  try simp only [size_drewN] at ct ft st
  try simp only [World.size_alloc] at ct ft st
  try simp only [World.size_drew] at ct ft st
  try simp only [World.size_setCell] at ct ft st
  have et := (er.gr gt).c0 i1
  go_wp2_with fail
  go_ret
  refine ⟨retb (by first | rfl | simp), ?_⟩
  repeat (first | exact Gr.refl _ | apply Gr.alloc | apply Gr.drew | apply Gr.drewN | (refine Gr.setCell ?_ (by simp) _) | (refine Gr.trans ?_ (by assumption)))

set_option maxRecDepth 100000 in
set_option maxHeartbeats 3200000 in
theorem demandTasks_Diii {G : List Nat} {E : Nat → Addr} (a : Option Addr) (l : List Tsk) (c : Nat) (i n : Int) (w : World) (hE : EAt G E w) (hG : ∀ x ∈ errNos, x ∈ G) (hl : TsksAt w a l) (hm : l.length * 32 ≤ 140737488351232) (hc : a = none → c = 0) (hS : tskErr l = some 1) (s : Tsk) (hs : l[0]? = some s) (hleg : s.leg = true) (hN : ¬ LenOk n) :
    Calls Tryd.prog 13 #[.slice a l.length c, .int .i64 i, .int .i64 n] w fun e w' => e = .returned (.bool true) ∧ Gr w w' := by
  obtain ⟨i72, hi, hz0, hz1, hz2⟩ := info_parts Tryd.infoTsk
  have i1 := hG 1 (by decide)
  have i2 := hG 2 (by decide)
  have hmm : l.length ≤ maxLen := by unfold maxLen; omega
  have n2 : l.length * 32 ≤ 140737488355328 := by omega
  have hrs := fun w h => ref_tasks a l c w h hmm
  have hgd := good_any n
  have he1 := fun w => eql_same E 1 w
  have he2 := fun w => eql_same E 2 w
  rw [hS] at hrs
  dsimp only [numO, pw] at hrs
  rw [numI_tsk] at hrs
  have hok := (tskErr_no hS).1
  have hck := chkT_bad (n := n) hok
  have hcu := chkU_bad (i := i) (n := n) hok
  replace hck := Lib.hid hck
  replace hcu := Lib.hid hcu
  replace hok := Lib.hid hok
  replace hS := Lib.hid hS
  have hnum := fun w hE => num_any (G := G) (E := E) 1 w hE hG (by decide)
  rw [numI_tsk] at hnum
  replace hnum := Lib.hid hnum
  rw [goodB_false hN] at hgd
  replace hN := Lib.hid hN
  have hne : ((l.length : Int) == 0) = false := by
    have := get_lt hs
    simp; intro hh; rw [hh] at this; simp at this
  have hpos : 0 < l.length := get_lt hs
  have hlt := rlegalTask_any s
  rw [hleg] at hlt
  have hkk := chkT1_num hleg hN.out
  replace hkk := Lib.hid hkk
  replace hlt := Lib.hid hlt
  replace hleg := Lib.hid hleg
  replace hs := Lib.hid hs
  replace hrs := Lib.hid hrs
  replace hgd := Lib.hid hgd
  go_enter Tryd.func13, Tryd.ntmps13
  go_wp2_with fail
  refine (alive11 _).mono ?_
  rintro e wa ⟨rfl, ga⟩
  obtain ⟨ca, fa, sa⟩ := ga.cells
  try simp only [size_drewN] at ca fa sa
  try simp only [World.size_alloc] at ca fa sa
  try simp only [World.size_drew] at ca fa sa
  try simp only [World.size_setCell] at ca fa sa
  have ea := hE.gr ga
  have la := hl.gr ga
  go_wp2_with (at_builtin; refine wpList_copyN (k := 4) (enc := Tsk.cells) rfl _ _ 29 rfl 72 i72 _ 32 Tryd.underlying29 hi hz0 hz1 hz2 rfl (by decide) Tsk.cells_len Tsk.cells_one wa.heap.size rfl rfl a c l rfl (tsks_recs la) hc hmm n2 ?_; intro v1 wc hown gc)
  obtain ⟨a1, c1, rfl, r1, _, _⟩ := recs_of_owns Tsk.cells_len hown
  clear hown
  have ec := ea.gr gc
  have lc := la.gr gc
  go_wp2_with fail
  refine (dtasks_no a1 l c1 n _ ec i1 i2 (recs_tsks r1) hmm _ hck.out).mono ?_
  rintro e wd ⟨rfl, gd⟩
  obtain ⟨cd, fd, sd⟩ := gd.cells
  try simp only [size_drewN] at cd fd sd
  try simp only [World.size_alloc] at cd fd sd
  try simp only [World.size_drew] at cd fd sd
  try simp only [World.size_setCell] at cd fd sd
  have ed := ec.gr gd
  have ld := lc.gr gd
  go_wp2_with (at_builtin; refine wpList_copyN (k := 4) (enc := Tsk.cells) rfl _ _ 29 rfl 72 i72 _ 32 Tryd.underlying29 hi hz0 hz1 hz2 rfl (by decide) Tsk.cells_len Tsk.cells_one wd.heap.size rfl rfl a c l rfl (tsks_recs ld) hc hmm n2 ?_; intro v2 wf hown gf)
  obtain ⟨a2, c2, rfl, r2, _, _⟩ := recs_of_owns Tsk.cells_len hown
  clear hown
  have ef := ed.gr gf
  have lf := ld.gr gf
  go_wp2_with fail
  refine (until_no a2 l c2 i n _ ef i1 i2 (recs_tsks r2) hmm _ hcu.out).mono ?_
  rintro e wg ⟨rfl, gg⟩
  obtain ⟨cg, fg, sg⟩ := gg.cells
  try simp only [size_drewN] at cg fg sg
  try simp only [World.size_alloc] at cg fg sg
  try simp only [World.size_drew] at cg fg sg
  try simp only [World.size_setCell] at cg fg sg
  have eg := ef.gr gg
  have lg := lf.gr gg
  go_wp2_with fail
  refine (hrs.out _ lg).mono ?_
  rintro e wh ⟨rfl, gh⟩
  obtain ⟨ch, fh, sh⟩ := gh.cells
  try simp only [size_drewN] at ch fh sh
  try simp only [World.size_alloc] at ch fh sh
  try simp only [World.size_drew] at ch fh sh
  try simp only [World.size_setCell] at ch fh sh
  have eh := (eg.gr gh).gr ((Gr.refl wh).alloc (.cells #[.int .u64 0, .int .u64 0, .int .u64 0, .int .u64 0] 41))
  have lh := (lg.gr gh).gr ((Gr.refl wh).alloc (.cells #[.int .u64 0, .int .u64 0, .int .u64 0, .int .u64 0] 41))
  go_wp2_with fail
  refine (hnum.out _ eh).mono ?_
  rintro e wj ⟨rfl, gj⟩
  obtain ⟨cj, fj, sj⟩ := gj.cells
  try simp only [size_drewN] at cj fj sj
  try simp only [World.size_alloc] at cj fj sj
  try simp only [World.size_drew] at cj fj sj
  try simp only [World.size_setCell] at cj fj sj
  have ej := eh.gr gj
  have lj := lh.gr gj
  go_wp2_with fail
  refine (hnum.out _ ej).mono ?_
  rintro e wk ⟨rfl, gk⟩
  obtain ⟨ck, fk, sk⟩ := gk.cells
  try simp only [size_drewN] at ck fk sk
  try simp only [World.size_alloc] at ck fk sk
  try simp only [World.size_drew] at ck fk sk
  try simp only [World.size_setCell] at ck fk sk
  have eq := ej.gr gk
  have lq := lj.gr gk
  obtain ⟨bs, os, rfl, hbs, t0, t1, t2, t3⟩ := lq 0 s hs.out
  simp only [Nat.zero_mul, Nat.add_zero] at t0 t1 t2 t3
  go_wp2_with fail
  refine (dtask_no s n _ eq i1 i2 _ hkk.out).mono ?_
  rintro e wr ⟨rfl, gr⟩
  obtain ⟨cr, fr, sr⟩ := gr.cells
  try simp only [size_drewN] at cr fr sr
  try simp only [World.size_alloc] at cr fr sr
  try simp only [World.size_drew] at cr fr sr
  try simp only [World.size_setCell] at cr fr sr
  have ur := fun o => cr bs o (by omega)
  have hbr : bs < wr.heap.size := by omega
  have er := eq.gr gr
  go_wp2_with fail
  refine (hlt.out _).mono ?_
  rintro e wt ⟨rfl, gt⟩
  obtain ⟨ct, ft, st⟩ := gt.cells
  try simp only [size_drewN] at ct ft st
  try simp only [World.size_alloc] at ct ft st
  try simp only [World.size_drew] at ct ft st
  try simp only [World.size_setCell] at ct ft st
  have et := (er.gr gt).c0 i2
  go_wp2_with fail
  refine (hgd.out _).mono ?_
  rintro e wv ⟨rfl, rfl⟩
  go_wp2_with fail
  go_ret
  refine ⟨retb (by first | rfl | simp), ?_⟩
  repeat (first | exact Gr.refl _ | apply Gr.alloc | apply Gr.drew | apply Gr.drewN | (refine Gr.setCell ?_ (by simp) _) | (refine Gr.trans ?_ (by assumption)))

theorem demandTasks_walk {G : List Nat} {E : Nat → Addr} (a : Option Addr) (l : List Tsk) (c : Nat) (i n : Int) (w : World) (hE : EAt G E w) (hG : ∀ x ∈ errNos, x ∈ G) (hl : TsksAt w a l) (hm : l.length * 32 ≤ 140737488351232) (hc : a = none → c = 0) :
    Calls Tryd.prog 13 #[.slice a l.length c, .int .i64 i, .int .i64 n] w fun e w' => e = .returned (.bool true) ∧ Gr w w' := by
  have hdec : LenOk n ∨ ¬ LenOk n := by unfold LenOk; omega
  cases hS : tskErr l with
  | none =>
    cases hl0 : l[0]? with
    | none =>
      have hnil : l = [] := by
        cases l with
        | nil => rfl
        | cons x r => cases hl0
      rcases hdec with hN | hN
      · by_cases hi : 0 ≤ i
        · exact demandTasks_Ze a l c i n w hE hG hl hm hc hS hN hi (by rw [hnil]; simpa using hi) hnil
        · exact demandTasks_Be a l c i n w hE hG hl hm hc hS hN (by omega) hnil
      · exact demandTasks_Ce a l c i n w hE hG hl hm hc hS hN hnil
    | some s =>
      have hleg : s.leg = true := (Tsk.leg_iff s).2 (legT_mem (tskErr_ok hS) hl0)
      rcases hdec with hN | hN
      · by_cases hi : 0 ≤ i ∧ i < l.length
        · exact demandTasks_Ai a l c i n w hE hG hl hm hc hS hN hi.1 hi.2 s hl0 hleg
        · by_cases hi0 : 0 ≤ i
          · exact demandTasks_Zi a l c i n w hE hG hl hm hc hS hN hi0 (by omega) s hl0 hleg
          · exact demandTasks_Bi a l c i n w hE hG hl hm hc hS hN (by omega) s hl0 hleg
      · exact demandTasks_Ciii a l c i n w hE hG hl hm hc hS hN s hl0 hleg
  | some g =>
    obtain ⟨hbad, rfl⟩ := tskErr_no hS
    cases hl0 : l[0]? with
    | none =>
      cases l with
      | nil => cases hbad
      | cons x r => cases hl0
    | some s =>
      cases hleg : s.leg
      · exact demandTasks_Dii a l c i n w hE hG hl hm hc hS s hl0 hleg
      · rcases hdec with hN | hN
        · exact demandTasks_Di a l c i n w hE hG hl hm hc hS s hl0 hleg hN
        · exact demandTasks_Diii a l c i n w hE hG hl hm hc hS s hl0 hleg hN
end Go.Proofs.YtkfkfcfbcfcbkaaDoor
