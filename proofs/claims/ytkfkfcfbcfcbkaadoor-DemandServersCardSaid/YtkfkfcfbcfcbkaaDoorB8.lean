/- The law DemandServers. (Printed by gen_b8.py.) -/
import Derived.Test.YtkfkfcfbcfcbkaaDoorE1
import Derived.Test.YtkfkfcfbcfcbkaaDoorN9
import Derived.Test.YtkfkfcfbcfcbkaaDoorB3
import Derived.Test.YtkfkfcfbcfcbkaaDoorR2
namespace Go.Proofs.YtkfkfcfbcfcbkaaDoor
open Go.RowKit

theorem srvErr_chk {l : List Srv} {n : Int} (h : srvErr l = none) (hn : LenOk n) : chkS l n = none := by
  unfold srvErr at h
  unfold chkS
  unfold LenOk at hn
  split at h
  · cases h
  · split at h
    · cases h
    · rename_i h1 h2; rw [if_neg h1, if_neg h2, if_neg (by omega)]
theorem srvErr_chk1 {l : List Srv} {n : Int} (h : srvErr l = none) (hn : ¬ LenOk n) : chkS l n = some 2 := by
  unfold srvErr at h
  unfold chkS
  unfold LenOk at hn
  split at h
  · cases h
  · split at h
    · cases h
    · rename_i h1 h2; rw [if_neg h1, if_neg h2, if_pos (by omega)]
theorem srvErr_chk2 {l : List Srv} {n : Int} {g : Nat} (h : srvErr l = some g) : chkS l n = some g := by
  unfold srvErr at h
  unfold chkS
  split at h
  · rename_i h1; rw [if_pos h1]; exact h
  · rename_i h1
    split at h
    · rename_i h2; rw [if_neg h1, if_pos h2]; exact h
    · cases h
theorem srvErr_none {l : List Srv} (h : srvErr l = none) : allLeg l = true ∧ l.length ≤ 8 := by
  unfold srvErr at h
  split at h
  · cases h
  · split at h
    · cases h
    · rename_i h1 h2; exact ⟨by simpa using h1, by omega⟩
theorem chk1_srv {s : Srv} {n : Int} (h : s.leg = false) : chk1 s n = some 0 := by unfold chk1; rw [if_pos h]
theorem chk1_num {s : Srv} {n : Int} (h : s.leg = true) (hn : ¬ LenOk n) : chk1 s n = some 2 := by
  unfold LenOk at hn
  unfold chk1; rw [if_neg (by rw [h]; decide), if_pos (by omega)]
theorem numI_ne (g : Nat) : (numI g == 0) = false ∧ (numI g != 0) = true := by
  unfold numI
  have : ((errNos.idxOf g : Int) + 1 == 0) = false := by simp; omega
  exact ⟨this, by simp [bne, this]⟩
theorem numI_num : numI 2 = 1 := by decide

set_option maxRecDepth 100000 in
set_option maxHeartbeats 3200000 in
theorem demandServers_Ai {G : List Nat} {E : Nat → Addr} (a : Option Addr) (l : List Srv) (c : Nat) (s : Srv) (n : Int) (w : World) (hE : EAt G E w) (hG : ∀ x ∈ errNos, x ∈ G) (hl : SrvsAt w a l) (hm : l.length * 24 ≤ 140737488351232) (hc : a = none → c = 0) (hS : srvErr l = none) (hN : LenOk n) (hleg : s.leg = true) :
    Calls Tryd.prog 7 #[.slice a l.length c, .agg #[.int .i64 s.k, .int .i64 s.q, .int .i64 s.t], .int .i64 n] w fun e w' => e = .returned (.bool true) ∧ Gr w w' := by
  obtain ⟨i27, hi, hz0, hz1, hz2⟩ := info_parts Tryd.infoSrv
  have i0 := hG 0 (by decide)
  have i3 := hG 3 (by decide)
  have i2 := hG 2 (by decide)
  have hmm : l.length ≤ maxLen := by unfold maxLen; omega
  have n2 : l.length * 24 ≤ 140737488355328 := by omega
  have hE0 := hE.gr ((Gr.refl w).alloc (.cells #[.int .i64 s.k, .int .i64 s.q, .int .i64 s.t] 27))
  have hl0 := hl.gr ((Gr.refl w).alloc (.cells #[.int .i64 s.k, .int .i64 s.q, .int .i64 s.t] 27))
  have hrs := fun w h => ref_servers a l c w h hmm
  have hgd := good_any n
  have hrl := rlegal_any s
  have he0 := fun w => eql_same E 0 w
  have he2 := fun w => eql_same E 2 w
  rw [hS] at hrs
  dsimp only [numO, pw] at hrs
  rw [goodB_true hN] at hgd
  have hck := srvErr_chk hS hN
  obtain ⟨hal, h8⟩ := srvErr_none hS
  replace hck := Lib.hid hck
  replace hal := Lib.hid hal
  replace hS := Lib.hid hS
  replace hN := Lib.hid hN
  rw [hleg] at hrl
  have hok := chk1_none hleg hN.out
  have hLeg := (Srv.leg_iff s).1 hleg
  replace hok := Lib.hid hok
  replace hLeg := Lib.hid hLeg
  replace hleg := Lib.hid hleg
  replace hrs := Lib.hid hrs
  replace hgd := Lib.hid hgd
  replace hrl := Lib.hid hrl
  go_enter Tryd.func7, Tryd.ntmps7
  go_wp2_with fail
  refine (alive11 _).mono ?_
  rintro e wa ⟨rfl, ga⟩
  obtain ⟨ca, fa, sa⟩ := ga.cells
  try simp only [size_drewN] at ca fa sa
  try simp only [World.size_alloc] at ca fa sa
  try simp only [World.size_drew] at ca fa sa
  try simp only [World.size_setCell] at ca fa sa
  have za0 : w.heap.size < wa.heap.size := by omega
  have ya0 : w.heap.size ≤ wa.heap.size := by omega
  have ka0 := fun o => ca (w.heap.size) o (by omega)
  have ja0 := fun o => fa (w.heap.size) o (by omega)
  have ea := hE0.gr ga
  have la := hl0.gr ga
  go_wp2_with (at_builtin; refine wpList_copyN (k := 3) (enc := Srv.cells) rfl _ _ 22 rfl 27 i27 _ 24 Tryd.underlying22 hi hz0 hz1 hz2 rfl (by decide) Srv.cells_len Srv.cells_one wa.heap.size rfl rfl a c l rfl (srvs_recs la) hc hmm n2 ?_; intro v1 wc hown gc)
  obtain ⟨a1, c1, rfl, r1, _, _⟩ := recs_of_owns Srv.cells_len hown
  clear hown
  have ec := ea.gr gc
  have lc := la.gr gc
  obtain ⟨cc, fc, sc⟩ := gc.cells
  have zc : w.heap.size < wc.heap.size := by omega
  have kc := fun o => cc w.heap.size o (by omega)
  go_wp2_with fail
  refine (dservers_yes a1 l c1 n _ (recs_srvs r1) hck.out).mono ?_
  rintro e wd ⟨rfl, gd⟩
  obtain ⟨cd, fd, sd⟩ := gd.cells
  try simp only [size_drewN] at cd fd sd
  try simp only [World.size_alloc] at cd fd sd
  try simp only [World.size_drew] at cd fd sd
  try simp only [World.size_setCell] at cd fd sd
  have zd0 : w.heap.size < wd.heap.size := by omega
  have yd0 : w.heap.size ≤ wd.heap.size := by omega
  have kd0 := fun o => cd (w.heap.size) o (by omega)
  have jd0 := fun o => fd (w.heap.size) o (by omega)
  have ed := ec.gr gd
  have ld := lc.gr gd
  go_wp2_with (at_builtin; refine wpList_copyN (k := 3) (enc := Srv.cells) rfl _ _ 22 rfl 27 i27 _ 24 Tryd.underlying22 hi hz0 hz1 hz2 rfl (by decide) Srv.cells_len Srv.cells_one wd.heap.size rfl rfl a c l rfl (srvs_recs ld) hc hmm n2 ?_; intro v2 wf hown gf)
  obtain ⟨a2, c2, rfl, r2, _, _⟩ := recs_of_owns Srv.cells_len hown
  clear hown
  have ef := ed.gr gf
  have lf := ld.gr gf
  obtain ⟨cf, ff, sf⟩ := gf.cells
  have zf : w.heap.size < wf.heap.size := by omega
  have kf := fun o => cf w.heap.size o (by omega)
  go_wp2_with fail
  refine (drequests_yes a2 l c2 n _ (recs_srvs r2) hck.out).mono ?_
  rintro e wg ⟨rfl, gg⟩
  obtain ⟨cg, fg, sg⟩ := gg.cells
  try simp only [size_drewN] at cg fg sg
  try simp only [World.size_alloc] at cg fg sg
  try simp only [World.size_drew] at cg fg sg
  try simp only [World.size_setCell] at cg fg sg
  have zg0 : w.heap.size < wg.heap.size := by omega
  have yg0 : w.heap.size ≤ wg.heap.size := by omega
  have kg0 := fun o => cg (w.heap.size) o (by omega)
  have jg0 := fun o => fg (w.heap.size) o (by omega)
  have eg := ef.gr gg
  have lg := lf.gr gg
  go_wp2_with fail
  refine (hrs.out _ lg).mono ?_
  rintro e wh ⟨rfl, gh⟩
  obtain ⟨ch, fh, sh⟩ := gh.cells
  try simp only [size_drewN] at ch fh sh
  try simp only [World.size_alloc] at ch fh sh
  try simp only [World.size_drew] at ch fh sh
  try simp only [World.size_setCell] at ch fh sh
  have zh0 : w.heap.size < wh.heap.size := by omega
  have yh0 : w.heap.size ≤ wh.heap.size := by omega
  have kh0 := fun o => ch (w.heap.size) o (by omega)
  have jh0 := fun o => fh (w.heap.size) o (by omega)
  have eh := (eg.gr gh).gr ((Gr.refl wh).alloc (.cells #[.int .u64 (hiW (shareS l).1), .int .u64 (loW (shareS l).1), .int .u64 (hiW (shareS l).2), .int .u64 (loW (shareS l).2)] 41))
  have lh := (lg.gr gh).gr ((Gr.refl wh).alloc (.cells #[.int .u64 (hiW (shareS l).1), .int .u64 (loW (shareS l).1), .int .u64 (hiW (shareS l).2), .int .u64 (loW (shareS l).2)] 41))
  go_wp2_with fail
  refine (hgd.out _).mono ?_
  rintro e wi ⟨rfl, rfl⟩
  go_wp2_with fail
  refine (num_nil _).mono ?_
  rintro e wj ⟨rfl, rfl⟩
  go_wp2_with fail
  refine (num_nil _).mono ?_
  rintro e wk ⟨rfl, rfl⟩
  go_wp2_with fail
  refine (rservers11_any a l c n _ lh hal.out h8 hN.out).mono ?_
  rintro e wm ⟨rfl, gm⟩
  obtain ⟨cm, fm, sm⟩ := gm.cells
  try simp only [size_drewN] at cm fm sm
  try simp only [World.size_alloc] at cm fm sm
  try simp only [World.size_drew] at cm fm sm
  try simp only [World.size_setCell] at cm fm sm
  have zm0 : w.heap.size < wm.heap.size := by omega
  have ym0 : w.heap.size ≤ wm.heap.size := by omega
  have km0 := fun o => cm (w.heap.size) o (by omega)
  have jm0 := fun o => fm (w.heap.size) o (by omega)
  have em := eh.gr gm
  have lm := lh.gr gm
  go_wp2_with fail
  refine (rrequests11_any a l c n _ lm hal.out h8 hN.out).mono ?_
  rintro e wq ⟨rfl, gq⟩
  obtain ⟨cq, fq, sq⟩ := gq.cells
  try simp only [size_drewN] at cq fq sq
  try simp only [World.size_alloc] at cq fq sq
  try simp only [World.size_drew] at cq fq sq
  try simp only [World.size_setCell] at cq fq sq
  have zq0 : w.heap.size < wq.heap.size := by omega
  have yq0 : w.heap.size ≤ wq.heap.size := by omega
  have kq0 := fun o => cq (w.heap.size) o (by omega)
  have jq0 := fun o => fq (w.heap.size) o (by omega)
  have eq := em.gr gq
  go_wp2_with fail
  refine (server_yes s n _ hok.out).mono ?_
  rintro e wr ⟨rfl, gr⟩
  obtain ⟨cr, fr, sr⟩ := gr.cells
  try simp only [size_drewN] at cr fr sr
  try simp only [World.size_alloc] at cr fr sr
  try simp only [World.size_drew] at cr fr sr
  try simp only [World.size_setCell] at cr fr sr
  have zr0 : w.heap.size < wr.heap.size := by omega
  have yr0 : w.heap.size ≤ wr.heap.size := by omega
  have kr0 := fun o => cr (w.heap.size) o (by omega)
  have jr0 := fun o => fr (w.heap.size) o (by omega)
  go_wp2_with fail
  refine (request_yes s n _ hok.out).mono ?_
  rintro e wt ⟨rfl, gt⟩
  obtain ⟨ct, ft, st⟩ := gt.cells
  try simp only [size_drewN] at ct ft st
  try simp only [World.size_alloc] at ct ft st
  try simp only [World.size_drew] at ct ft st
  try simp only [World.size_setCell] at ct ft st
  have zt0 : w.heap.size < wt.heap.size := by omega
  have yt0 : w.heap.size ≤ wt.heap.size := by omega
  have kt0 := fun o => ct (w.heap.size) o (by omega)
  have jt0 := fun o => ft (w.heap.size) o (by omega)
  go_wp2_with fail
  refine (hrl.out _).mono ?_
  rintro e wu ⟨rfl, gu⟩
  obtain ⟨cu, fu, su⟩ := gu.cells
  try simp only [size_drewN] at cu fu su
  try simp only [World.size_alloc] at cu fu su
  try simp only [World.size_drew] at cu fu su
  try simp only [World.size_setCell] at cu fu su
  have zu0 : w.heap.size < wu.heap.size := by omega
  have yu0 : w.heap.size ≤ wu.heap.size := by omega
  have ku0 := fun o => cu (w.heap.size) o (by omega)
  have ju0 := fun o => fu (w.heap.size) o (by omega)
  go_wp2_with fail
  refine (hgd.out _).mono ?_
  rintro e wv ⟨rfl, rfl⟩
  go_wp2_with fail
  refine (rserver_any s n _ hLeg.out hN.out).mono ?_
  rintro e wx ⟨rfl, gx⟩
  obtain ⟨cx, fx, sx⟩ := gx.cells
  try simp only [size_drewN] at cx fx sx
  try simp only [World.size_alloc] at cx fx sx
  try simp only [World.size_drew] at cx fx sx
  try simp only [World.size_setCell] at cx fx sx
  have zx0 : w.heap.size < wx.heap.size := by omega
  have yx0 : w.heap.size ≤ wx.heap.size := by omega
  have kx0 := fun o => cx (w.heap.size) o (by omega)
  have jx0 := fun o => fx (w.heap.size) o (by omega)
  go_wp2_with fail
  refine (rrequest_any s n _ hLeg.out hN.out).mono ?_
  rintro e wy ⟨rfl, gy⟩
  obtain ⟨cy, fy, sy⟩ := gy.cells
  try simp only [size_drewN] at cy fy sy
  try simp only [World.size_alloc] at cy fy sy
  try simp only [World.size_drew] at cy fy sy
  try simp only [World.size_setCell] at cy fy sy
  have zy0 : w.heap.size < wy.heap.size := by omega
  have yy0 : w.heap.size ≤ wy.heap.size := by omega
  have ky0 := fun o => cy (w.heap.size) o (by omega)
  have jy0 := fun o => fy (w.heap.size) o (by omega)
  go_wp2_with fail
  go_ret
  refine ⟨retb (by first | rfl | simp), ?_⟩
  repeat (first | exact Gr.refl _ | apply Gr.alloc | apply Gr.drew | apply Gr.drewN | (refine Gr.setCell ?_ (by simp) _) | (refine Gr.trans ?_ (by assumption)))

set_option maxRecDepth 100000 in
set_option maxHeartbeats 3200000 in
theorem demandServers_Aii {G : List Nat} {E : Nat → Addr} (a : Option Addr) (l : List Srv) (c : Nat) (s : Srv) (n : Int) (w : World) (hE : EAt G E w) (hG : ∀ x ∈ errNos, x ∈ G) (hl : SrvsAt w a l) (hm : l.length * 24 ≤ 140737488351232) (hc : a = none → c = 0) (hS : srvErr l = none) (hN : LenOk n) (hleg : s.leg = false) :
    Calls Tryd.prog 7 #[.slice a l.length c, .agg #[.int .i64 s.k, .int .i64 s.q, .int .i64 s.t], .int .i64 n] w fun e w' => e = .returned (.bool true) ∧ Gr w w' := by
  obtain ⟨i27, hi, hz0, hz1, hz2⟩ := info_parts Tryd.infoSrv
  have i0 := hG 0 (by decide)
  have i3 := hG 3 (by decide)
  have i2 := hG 2 (by decide)
  have hmm : l.length ≤ maxLen := by unfold maxLen; omega
  have n2 : l.length * 24 ≤ 140737488355328 := by omega
  have hE0 := hE.gr ((Gr.refl w).alloc (.cells #[.int .i64 s.k, .int .i64 s.q, .int .i64 s.t] 27))
  have hl0 := hl.gr ((Gr.refl w).alloc (.cells #[.int .i64 s.k, .int .i64 s.q, .int .i64 s.t] 27))
  have hrs := fun w h => ref_servers a l c w h hmm
  have hgd := good_any n
  have hrl := rlegal_any s
  have he0 := fun w => eql_same E 0 w
  have he2 := fun w => eql_same E 2 w
  rw [hS] at hrs
  dsimp only [numO, pw] at hrs
  rw [goodB_true hN] at hgd
  have hck := srvErr_chk hS hN
  obtain ⟨hal, h8⟩ := srvErr_none hS
  replace hck := Lib.hid hck
  replace hal := Lib.hid hal
  replace hS := Lib.hid hS
  replace hN := Lib.hid hN
  rw [hleg] at hrl
  have hok := chk1_srv (n := n) hleg
  replace hok := Lib.hid hok
  replace hleg := Lib.hid hleg
  replace hrs := Lib.hid hrs
  replace hgd := Lib.hid hgd
  replace hrl := Lib.hid hrl
  go_enter Tryd.func7, Tryd.ntmps7
  go_wp2_with fail
  refine (alive11 _).mono ?_
  rintro e wa ⟨rfl, ga⟩
  obtain ⟨ca, fa, sa⟩ := ga.cells
  try simp only [size_drewN] at ca fa sa
  try simp only [World.size_alloc] at ca fa sa
  try simp only [World.size_drew] at ca fa sa
  try simp only [World.size_setCell] at ca fa sa
  have za0 : w.heap.size < wa.heap.size := by omega
  have ya0 : w.heap.size ≤ wa.heap.size := by omega
  have ka0 := fun o => ca (w.heap.size) o (by omega)
  have ja0 := fun o => fa (w.heap.size) o (by omega)
  have ea := hE0.gr ga
  have la := hl0.gr ga
  go_wp2_with (at_builtin; refine wpList_copyN (k := 3) (enc := Srv.cells) rfl _ _ 22 rfl 27 i27 _ 24 Tryd.underlying22 hi hz0 hz1 hz2 rfl (by decide) Srv.cells_len Srv.cells_one wa.heap.size rfl rfl a c l rfl (srvs_recs la) hc hmm n2 ?_; intro v1 wc hown gc)
  obtain ⟨a1, c1, rfl, r1, _, _⟩ := recs_of_owns Srv.cells_len hown
  clear hown
  have ec := ea.gr gc
  have lc := la.gr gc
  obtain ⟨cc, fc, sc⟩ := gc.cells
  have zc : w.heap.size < wc.heap.size := by omega
  have kc := fun o => cc w.heap.size o (by omega)
  go_wp2_with fail
  refine (dservers_yes a1 l c1 n _ (recs_srvs r1) hck.out).mono ?_
  rintro e wd ⟨rfl, gd⟩
  obtain ⟨cd, fd, sd⟩ := gd.cells
  try simp only [size_drewN] at cd fd sd
  try simp only [World.size_alloc] at cd fd sd
  try simp only [World.size_drew] at cd fd sd
  try simp only [World.size_setCell] at cd fd sd
  have zd0 : w.heap.size < wd.heap.size := by omega
  have yd0 : w.heap.size ≤ wd.heap.size := by omega
  have kd0 := fun o => cd (w.heap.size) o (by omega)
  have jd0 := fun o => fd (w.heap.size) o (by omega)
  have ed := ec.gr gd
  have ld := lc.gr gd
  go_wp2_with (at_builtin; refine wpList_copyN (k := 3) (enc := Srv.cells) rfl _ _ 22 rfl 27 i27 _ 24 Tryd.underlying22 hi hz0 hz1 hz2 rfl (by decide) Srv.cells_len Srv.cells_one wd.heap.size rfl rfl a c l rfl (srvs_recs ld) hc hmm n2 ?_; intro v2 wf hown gf)
  obtain ⟨a2, c2, rfl, r2, _, _⟩ := recs_of_owns Srv.cells_len hown
  clear hown
  have ef := ed.gr gf
  have lf := ld.gr gf
  obtain ⟨cf, ff, sf⟩ := gf.cells
  have zf : w.heap.size < wf.heap.size := by omega
  have kf := fun o => cf w.heap.size o (by omega)
  go_wp2_with fail
  refine (drequests_yes a2 l c2 n _ (recs_srvs r2) hck.out).mono ?_
  rintro e wg ⟨rfl, gg⟩
  obtain ⟨cg, fg, sg⟩ := gg.cells
  try simp only [size_drewN] at cg fg sg
  try simp only [World.size_alloc] at cg fg sg
  try simp only [World.size_drew] at cg fg sg
  try simp only [World.size_setCell] at cg fg sg
  have zg0 : w.heap.size < wg.heap.size := by omega
  have yg0 : w.heap.size ≤ wg.heap.size := by omega
  have kg0 := fun o => cg (w.heap.size) o (by omega)
  have jg0 := fun o => fg (w.heap.size) o (by omega)
  have eg := ef.gr gg
  have lg := lf.gr gg
  go_wp2_with fail
  refine (hrs.out _ lg).mono ?_
  rintro e wh ⟨rfl, gh⟩
  obtain ⟨ch, fh, sh⟩ := gh.cells
  try simp only [size_drewN] at ch fh sh
  try simp only [World.size_alloc] at ch fh sh
  try simp only [World.size_drew] at ch fh sh
  try simp only [World.size_setCell] at ch fh sh
  have zh0 : w.heap.size < wh.heap.size := by omega
  have yh0 : w.heap.size ≤ wh.heap.size := by omega
  have kh0 := fun o => ch (w.heap.size) o (by omega)
  have jh0 := fun o => fh (w.heap.size) o (by omega)
  have eh := (eg.gr gh).gr ((Gr.refl wh).alloc (.cells #[.int .u64 (hiW (shareS l).1), .int .u64 (loW (shareS l).1), .int .u64 (hiW (shareS l).2), .int .u64 (loW (shareS l).2)] 41))
  have lh := (lg.gr gh).gr ((Gr.refl wh).alloc (.cells #[.int .u64 (hiW (shareS l).1), .int .u64 (loW (shareS l).1), .int .u64 (hiW (shareS l).2), .int .u64 (loW (shareS l).2)] 41))
  go_wp2_with fail
  refine (hgd.out _).mono ?_
  rintro e wi ⟨rfl, rfl⟩
  go_wp2_with fail
  refine (num_nil _).mono ?_
  rintro e wj ⟨rfl, rfl⟩
  go_wp2_with fail
  refine (num_nil _).mono ?_
  rintro e wk ⟨rfl, rfl⟩
  go_wp2_with fail
  refine (rservers11_any a l c n _ lh hal.out h8 hN.out).mono ?_
  rintro e wm ⟨rfl, gm⟩
  obtain ⟨cm, fm, sm⟩ := gm.cells
  try simp only [size_drewN] at cm fm sm
  try simp only [World.size_alloc] at cm fm sm
  try simp only [World.size_drew] at cm fm sm
  try simp only [World.size_setCell] at cm fm sm
  have zm0 : w.heap.size < wm.heap.size := by omega
  have ym0 : w.heap.size ≤ wm.heap.size := by omega
  have km0 := fun o => cm (w.heap.size) o (by omega)
  have jm0 := fun o => fm (w.heap.size) o (by omega)
  have em := eh.gr gm
  have lm := lh.gr gm
  go_wp2_with fail
  refine (rrequests11_any a l c n _ lm hal.out h8 hN.out).mono ?_
  rintro e wq ⟨rfl, gq⟩
  obtain ⟨cq, fq, sq⟩ := gq.cells
  try simp only [size_drewN] at cq fq sq
  try simp only [World.size_alloc] at cq fq sq
  try simp only [World.size_drew] at cq fq sq
  try simp only [World.size_setCell] at cq fq sq
  have zq0 : w.heap.size < wq.heap.size := by omega
  have yq0 : w.heap.size ≤ wq.heap.size := by omega
  have kq0 := fun o => cq (w.heap.size) o (by omega)
  have jq0 := fun o => fq (w.heap.size) o (by omega)
  have eq := em.gr gq
  go_wp2_with fail
  refine (server_no s n _ eq i0 i3 i2 _ hok.out).mono ?_
  rintro e wr ⟨rfl, gr⟩
  obtain ⟨cr, fr, sr⟩ := gr.cells
  try simp only [size_drewN] at cr fr sr
  try simp only [World.size_alloc] at cr fr sr
  try simp only [World.size_drew] at cr fr sr
  try simp only [World.size_setCell] at cr fr sr
  have zr0 : w.heap.size < wr.heap.size := by omega
  have yr0 : w.heap.size ≤ wr.heap.size := by omega
  have kr0 := fun o => cr (w.heap.size) o (by omega)
  have jr0 := fun o => fr (w.heap.size) o (by omega)
  have er := eq.gr gr
  go_wp2_with fail
  refine (request_no s n _ er i0 i3 i2 _ hok.out).mono ?_
  rintro e wt ⟨rfl, gt⟩
  obtain ⟨ct, ft, st⟩ := gt.cells
  try simp only [size_drewN] at ct ft st
  try simp only [World.size_alloc] at ct ft st
  try simp only [World.size_drew] at ct ft st
  try simp only [World.size_setCell] at ct ft st
  have zt0 : w.heap.size < wt.heap.size := by omega
  have yt0 : w.heap.size ≤ wt.heap.size := by omega
  have kt0 := fun o => ct (w.heap.size) o (by omega)
  have jt0 := fun o => ft (w.heap.size) o (by omega)
  have et := er.gr gt
  go_wp2_with fail
  refine (hrl.out _).mono ?_
  rintro e wu ⟨rfl, gu⟩
  obtain ⟨cu, fu, su⟩ := gu.cells
  try simp only [size_drewN] at cu fu su
  try simp only [World.size_alloc] at cu fu su
  try simp only [World.size_drew] at cu fu su
  try simp only [World.size_setCell] at cu fu su
  have zu0 : w.heap.size < wu.heap.size := by omega
  have yu0 : w.heap.size ≤ wu.heap.size := by omega
  have ku0 := fun o => cu (w.heap.size) o (by omega)
  have ju0 := fun o => fu (w.heap.size) o (by omega)
  have eu := (et.gr gu).c0 i0
  go_wp2_with fail
  go_ret
  refine ⟨retb (by first | rfl | simp), ?_⟩
  repeat (first | exact Gr.refl _ | apply Gr.alloc | apply Gr.drew | apply Gr.drewN | (refine Gr.setCell ?_ (by simp) _) | (refine Gr.trans ?_ (by assumption)))

set_option maxRecDepth 100000 in
set_option maxHeartbeats 3200000 in
theorem demandServers_Bii {G : List Nat} {E : Nat → Addr} (a : Option Addr) (l : List Srv) (c : Nat) (s : Srv) (n : Int) (w : World) (hE : EAt G E w) (hG : ∀ x ∈ errNos, x ∈ G) (hl : SrvsAt w a l) (hm : l.length * 24 ≤ 140737488351232) (hc : a = none → c = 0) (hS : srvErr l = none) (hN : ¬ LenOk n) (hleg : s.leg = false) :
    Calls Tryd.prog 7 #[.slice a l.length c, .agg #[.int .i64 s.k, .int .i64 s.q, .int .i64 s.t], .int .i64 n] w fun e w' => e = .returned (.bool true) ∧ Gr w w' := by
  obtain ⟨i27, hi, hz0, hz1, hz2⟩ := info_parts Tryd.infoSrv
  have i0 := hG 0 (by decide)
  have i3 := hG 3 (by decide)
  have i2 := hG 2 (by decide)
  have hmm : l.length ≤ maxLen := by unfold maxLen; omega
  have n2 : l.length * 24 ≤ 140737488355328 := by omega
  have hE0 := hE.gr ((Gr.refl w).alloc (.cells #[.int .i64 s.k, .int .i64 s.q, .int .i64 s.t] 27))
  have hl0 := hl.gr ((Gr.refl w).alloc (.cells #[.int .i64 s.k, .int .i64 s.q, .int .i64 s.t] 27))
  have hrs := fun w h => ref_servers a l c w h hmm
  have hgd := good_any n
  have hrl := rlegal_any s
  have he0 := fun w => eql_same E 0 w
  have he2 := fun w => eql_same E 2 w
  rw [hS] at hrs
  dsimp only [numO, pw] at hrs
  rw [goodB_false hN] at hgd
  have hck := srvErr_chk1 hS hN
  have hnum := fun w hE => num_any (G := G) (E := E) 2 w hE hG (by decide)
  rw [numI_num] at hnum
  replace hnum := Lib.hid hnum
  replace hck := Lib.hid hck
  replace hS := Lib.hid hS
  replace hN := Lib.hid hN
  rw [hleg] at hrl
  have hok := chk1_srv (n := n) hleg
  replace hok := Lib.hid hok
  replace hleg := Lib.hid hleg
  replace hrs := Lib.hid hrs
  replace hgd := Lib.hid hgd
  replace hrl := Lib.hid hrl
  go_enter Tryd.func7, Tryd.ntmps7
  go_wp2_with fail
  refine (alive11 _).mono ?_
  rintro e wa ⟨rfl, ga⟩
  obtain ⟨ca, fa, sa⟩ := ga.cells
  try simp only [size_drewN] at ca fa sa
  try simp only [World.size_alloc] at ca fa sa
  try simp only [World.size_drew] at ca fa sa
  try simp only [World.size_setCell] at ca fa sa
  have za0 : w.heap.size < wa.heap.size := by omega
  have ya0 : w.heap.size ≤ wa.heap.size := by omega
  have ka0 := fun o => ca (w.heap.size) o (by omega)
  have ja0 := fun o => fa (w.heap.size) o (by omega)
  have ea := hE0.gr ga
  have la := hl0.gr ga
  go_wp2_with (at_builtin; refine wpList_copyN (k := 3) (enc := Srv.cells) rfl _ _ 22 rfl 27 i27 _ 24 Tryd.underlying22 hi hz0 hz1 hz2 rfl (by decide) Srv.cells_len Srv.cells_one wa.heap.size rfl rfl a c l rfl (srvs_recs la) hc hmm n2 ?_; intro v1 wc hown gc)
  obtain ⟨a1, c1, rfl, r1, _, _⟩ := recs_of_owns Srv.cells_len hown
  clear hown
  have ec := ea.gr gc
  have lc := la.gr gc
  obtain ⟨cc, fc, sc⟩ := gc.cells
  have zc : w.heap.size < wc.heap.size := by omega
  have kc := fun o => cc w.heap.size o (by omega)
  go_wp2_with fail
  refine (dservers_no a1 l c1 n _ ec i0 i3 i2 (recs_srvs r1) hmm _ hck.out).mono ?_
  rintro e wd ⟨rfl, gd⟩
  obtain ⟨cd, fd, sd⟩ := gd.cells
  try simp only [size_drewN] at cd fd sd
  try simp only [World.size_alloc] at cd fd sd
  try simp only [World.size_drew] at cd fd sd
  try simp only [World.size_setCell] at cd fd sd
  have zd0 : w.heap.size < wd.heap.size := by omega
  have yd0 : w.heap.size ≤ wd.heap.size := by omega
  have kd0 := fun o => cd (w.heap.size) o (by omega)
  have jd0 := fun o => fd (w.heap.size) o (by omega)
  have ed := ec.gr gd
  have ld := lc.gr gd
  go_wp2_with (at_builtin; refine wpList_copyN (k := 3) (enc := Srv.cells) rfl _ _ 22 rfl 27 i27 _ 24 Tryd.underlying22 hi hz0 hz1 hz2 rfl (by decide) Srv.cells_len Srv.cells_one wd.heap.size rfl rfl a c l rfl (srvs_recs ld) hc hmm n2 ?_; intro v2 wf hown gf)
  obtain ⟨a2, c2, rfl, r2, _, _⟩ := recs_of_owns Srv.cells_len hown
  clear hown
  have ef := ed.gr gf
  have lf := ld.gr gf
  obtain ⟨cf, ff, sf⟩ := gf.cells
  have zf : w.heap.size < wf.heap.size := by omega
  have kf := fun o => cf w.heap.size o (by omega)
  go_wp2_with fail
  refine (drequests_no a2 l c2 n _ ef i0 i3 i2 (recs_srvs r2) hmm _ hck.out).mono ?_
  rintro e wg ⟨rfl, gg⟩
  obtain ⟨cg, fg, sg⟩ := gg.cells
  try simp only [size_drewN] at cg fg sg
  try simp only [World.size_alloc] at cg fg sg
  try simp only [World.size_drew] at cg fg sg
  try simp only [World.size_setCell] at cg fg sg
  have zg0 : w.heap.size < wg.heap.size := by omega
  have yg0 : w.heap.size ≤ wg.heap.size := by omega
  have kg0 := fun o => cg (w.heap.size) o (by omega)
  have jg0 := fun o => fg (w.heap.size) o (by omega)
  have eg := ef.gr gg
  have lg := lf.gr gg
  go_wp2_with fail
  refine (hrs.out _ lg).mono ?_
  rintro e wh ⟨rfl, gh⟩
  obtain ⟨ch, fh, sh⟩ := gh.cells
  try simp only [size_drewN] at ch fh sh
  try simp only [World.size_alloc] at ch fh sh
  try simp only [World.size_drew] at ch fh sh
  try simp only [World.size_setCell] at ch fh sh
  have zh0 : w.heap.size < wh.heap.size := by omega
  have yh0 : w.heap.size ≤ wh.heap.size := by omega
  have kh0 := fun o => ch (w.heap.size) o (by omega)
  have jh0 := fun o => fh (w.heap.size) o (by omega)
  have eh := (eg.gr gh).gr ((Gr.refl wh).alloc (.cells #[.int .u64 (hiW (shareS l).1), .int .u64 (loW (shareS l).1), .int .u64 (hiW (shareS l).2), .int .u64 (loW (shareS l).2)] 41))
  have lh := (lg.gr gh).gr ((Gr.refl wh).alloc (.cells #[.int .u64 (hiW (shareS l).1), .int .u64 (loW (shareS l).1), .int .u64 (hiW (shareS l).2), .int .u64 (loW (shareS l).2)] 41))
  go_wp2_with fail
  refine (hgd.out _).mono ?_
  rintro e wi ⟨rfl, rfl⟩
  go_wp2_with fail
  refine (hnum.out _ eh).mono ?_
  rintro e wj ⟨rfl, gj⟩
  obtain ⟨cj, fj, sj⟩ := gj.cells
  try simp only [size_drewN] at cj fj sj
  try simp only [World.size_alloc] at cj fj sj
  try simp only [World.size_drew] at cj fj sj
  try simp only [World.size_setCell] at cj fj sj
  have zj0 : w.heap.size < wj.heap.size := by omega
  have yj0 : w.heap.size ≤ wj.heap.size := by omega
  have kj0 := fun o => cj (w.heap.size) o (by omega)
  have jj0 := fun o => fj (w.heap.size) o (by omega)
  have ej := eh.gr gj
  go_wp2_with fail
  refine (hnum.out _ ej).mono ?_
  rintro e wk ⟨rfl, gk⟩
  obtain ⟨ck, fk, sk⟩ := gk.cells
  try simp only [size_drewN] at ck fk sk
  try simp only [World.size_alloc] at ck fk sk
  try simp only [World.size_drew] at ck fk sk
  try simp only [World.size_setCell] at ck fk sk
  have zk0 : w.heap.size < wk.heap.size := by omega
  have yk0 : w.heap.size ≤ wk.heap.size := by omega
  have kk0 := fun o => ck (w.heap.size) o (by omega)
  have jk0 := fun o => fk (w.heap.size) o (by omega)
  have eq := ej.gr gk
  go_wp2_with fail
  refine (server_no s n _ eq i0 i3 i2 _ hok.out).mono ?_
  rintro e wr ⟨rfl, gr⟩
  obtain ⟨cr, fr, sr⟩ := gr.cells
  try simp only [size_drewN] at cr fr sr
  try simp only [World.size_alloc] at cr fr sr
  try simp only [World.size_drew] at cr fr sr
  try simp only [World.size_setCell] at cr fr sr
  have zr0 : w.heap.size < wr.heap.size := by omega
  have yr0 : w.heap.size ≤ wr.heap.size := by omega
  have kr0 := fun o => cr (w.heap.size) o (by omega)
  have jr0 := fun o => fr (w.heap.size) o (by omega)
  have er := eq.gr gr
  go_wp2_with fail
  refine (request_no s n _ er i0 i3 i2 _ hok.out).mono ?_
  rintro e wt ⟨rfl, gt⟩
  obtain ⟨ct, ft, st⟩ := gt.cells
  try simp only [size_drewN] at ct ft st
  try simp only [World.size_alloc] at ct ft st
  try simp only [World.size_drew] at ct ft st
  try simp only [World.size_setCell] at ct ft st
  have zt0 : w.heap.size < wt.heap.size := by omega
  have yt0 : w.heap.size ≤ wt.heap.size := by omega
  have kt0 := fun o => ct (w.heap.size) o (by omega)
  have jt0 := fun o => ft (w.heap.size) o (by omega)
  have et := er.gr gt
  go_wp2_with fail
  refine (hrl.out _).mono ?_
  rintro e wu ⟨rfl, gu⟩
  obtain ⟨cu, fu, su⟩ := gu.cells
  try simp only [size_drewN] at cu fu su
  try simp only [World.size_alloc] at cu fu su
  try simp only [World.size_drew] at cu fu su
  try simp only [World.size_setCell] at cu fu su
  have zu0 : w.heap.size < wu.heap.size := by omega
  have yu0 : w.heap.size ≤ wu.heap.size := by omega
  have ku0 := fun o => cu (w.heap.size) o (by omega)
  have ju0 := fun o => fu (w.heap.size) o (by omega)
  have eu := (et.gr gu).c0 i0
  go_wp2_with fail
  go_ret
  refine ⟨retb (by first | rfl | simp), ?_⟩
  repeat (first | exact Gr.refl _ | apply Gr.alloc | apply Gr.drew | apply Gr.drewN | (refine Gr.setCell ?_ (by simp) _) | (refine Gr.trans ?_ (by assumption)))

set_option maxRecDepth 100000 in
set_option maxHeartbeats 3200000 in
theorem demandServers_Biii {G : List Nat} {E : Nat → Addr} (a : Option Addr) (l : List Srv) (c : Nat) (s : Srv) (n : Int) (w : World) (hE : EAt G E w) (hG : ∀ x ∈ errNos, x ∈ G) (hl : SrvsAt w a l) (hm : l.length * 24 ≤ 140737488351232) (hc : a = none → c = 0) (hS : srvErr l = none) (hN : ¬ LenOk n) (hleg : s.leg = true) :
    Calls Tryd.prog 7 #[.slice a l.length c, .agg #[.int .i64 s.k, .int .i64 s.q, .int .i64 s.t], .int .i64 n] w fun e w' => e = .returned (.bool true) ∧ Gr w w' := by
  obtain ⟨i27, hi, hz0, hz1, hz2⟩ := info_parts Tryd.infoSrv
  have i0 := hG 0 (by decide)
  have i3 := hG 3 (by decide)
  have i2 := hG 2 (by decide)
  have hmm : l.length ≤ maxLen := by unfold maxLen; omega
  have n2 : l.length * 24 ≤ 140737488355328 := by omega
  have hE0 := hE.gr ((Gr.refl w).alloc (.cells #[.int .i64 s.k, .int .i64 s.q, .int .i64 s.t] 27))
  have hl0 := hl.gr ((Gr.refl w).alloc (.cells #[.int .i64 s.k, .int .i64 s.q, .int .i64 s.t] 27))
  have hrs := fun w h => ref_servers a l c w h hmm
  have hgd := good_any n
  have hrl := rlegal_any s
  have he0 := fun w => eql_same E 0 w
  have he2 := fun w => eql_same E 2 w
  rw [hS] at hrs
  dsimp only [numO, pw] at hrs
  rw [goodB_false hN] at hgd
  have hck := srvErr_chk1 hS hN
  have hnum := fun w hE => num_any (G := G) (E := E) 2 w hE hG (by decide)
  rw [numI_num] at hnum
  replace hnum := Lib.hid hnum
  replace hck := Lib.hid hck
  replace hS := Lib.hid hS
  replace hN := Lib.hid hN
  rw [hleg] at hrl
  have hok := chk1_num hleg hN.out
  replace hok := Lib.hid hok
  replace hleg := Lib.hid hleg
  replace hrs := Lib.hid hrs
  replace hgd := Lib.hid hgd
  replace hrl := Lib.hid hrl
  go_enter Tryd.func7, Tryd.ntmps7
  go_wp2_with fail
  refine (alive11 _).mono ?_
  rintro e wa ⟨rfl, ga⟩
  obtain ⟨ca, fa, sa⟩ := ga.cells
  try simp only [size_drewN] at ca fa sa
  try simp only [World.size_alloc] at ca fa sa
  try simp only [World.size_drew] at ca fa sa
  try simp only [World.size_setCell] at ca fa sa
  have za0 : w.heap.size < wa.heap.size := by omega
  have ya0 : w.heap.size ≤ wa.heap.size := by omega
  have ka0 := fun o => ca (w.heap.size) o (by omega)
  have ja0 := fun o => fa (w.heap.size) o (by omega)
  have ea := hE0.gr ga
  have la := hl0.gr ga
  go_wp2_with (at_builtin; refine wpList_copyN (k := 3) (enc := Srv.cells) rfl _ _ 22 rfl 27 i27 _ 24 Tryd.underlying22 hi hz0 hz1 hz2 rfl (by decide) Srv.cells_len Srv.cells_one wa.heap.size rfl rfl a c l rfl (srvs_recs la) hc hmm n2 ?_; intro v1 wc hown gc)
  obtain ⟨a1, c1, rfl, r1, _, _⟩ := recs_of_owns Srv.cells_len hown
  clear hown
  have ec := ea.gr gc
  have lc := la.gr gc
  obtain ⟨cc, fc, sc⟩ := gc.cells
  have zc : w.heap.size < wc.heap.size := by omega
  have kc := fun o => cc w.heap.size o (by omega)
  go_wp2_with fail
  refine (dservers_no a1 l c1 n _ ec i0 i3 i2 (recs_srvs r1) hmm _ hck.out).mono ?_
  rintro e wd ⟨rfl, gd⟩
  obtain ⟨cd, fd, sd⟩ := gd.cells
  try simp only [size_drewN] at cd fd sd
  try simp only [World.size_alloc] at cd fd sd
  try simp only [World.size_drew] at cd fd sd
  try simp only [World.size_setCell] at cd fd sd
  have zd0 : w.heap.size < wd.heap.size := by omega
  have yd0 : w.heap.size ≤ wd.heap.size := by omega
  have kd0 := fun o => cd (w.heap.size) o (by omega)
  have jd0 := fun o => fd (w.heap.size) o (by omega)
  have ed := ec.gr gd
  have ld := lc.gr gd
  go_wp2_with (at_builtin; refine wpList_copyN (k := 3) (enc := Srv.cells) rfl _ _ 22 rfl 27 i27 _ 24 Tryd.underlying22 hi hz0 hz1 hz2 rfl (by decide) Srv.cells_len Srv.cells_one wd.heap.size rfl rfl a c l rfl (srvs_recs ld) hc hmm n2 ?_; intro v2 wf hown gf)
  obtain ⟨a2, c2, rfl, r2, _, _⟩ := recs_of_owns Srv.cells_len hown
  clear hown
  have ef := ed.gr gf
  have lf := ld.gr gf
  obtain ⟨cf, ff, sf⟩ := gf.cells
  have zf : w.heap.size < wf.heap.size := by omega
  have kf := fun o => cf w.heap.size o (by omega)
  go_wp2_with fail
  refine (drequests_no a2 l c2 n _ ef i0 i3 i2 (recs_srvs r2) hmm _ hck.out).mono ?_
  rintro e wg ⟨rfl, gg⟩
  obtain ⟨cg, fg, sg⟩ := gg.cells
  try simp only [size_drewN] at cg fg sg
  try simp only [World.size_alloc] at cg fg sg
  try simp only [World.size_drew] at cg fg sg
  try simp only [World.size_setCell] at cg fg sg
  have zg0 : w.heap.size < wg.heap.size := by omega
  have yg0 : w.heap.size ≤ wg.heap.size := by omega
  have kg0 := fun o => cg (w.heap.size) o (by omega)
  have jg0 := fun o => fg (w.heap.size) o (by omega)
  have eg := ef.gr gg
  have lg := lf.gr gg
  go_wp2_with fail
  refine (hrs.out _ lg).mono ?_
  rintro e wh ⟨rfl, gh⟩
  obtain ⟨ch, fh, sh⟩ := gh.cells
  try simp only [size_drewN] at ch fh sh
  try simp only [World.size_alloc] at ch fh sh
  try simp only [World.size_drew] at ch fh sh
  try simp only [World.size_setCell] at ch fh sh
  have zh0 : w.heap.size < wh.heap.size := by omega
  have yh0 : w.heap.size ≤ wh.heap.size := by omega
  have kh0 := fun o => ch (w.heap.size) o (by omega)
  have jh0 := fun o => fh (w.heap.size) o (by omega)
  have eh := (eg.gr gh).gr ((Gr.refl wh).alloc (.cells #[.int .u64 (hiW (shareS l).1), .int .u64 (loW (shareS l).1), .int .u64 (hiW (shareS l).2), .int .u64 (loW (shareS l).2)] 41))
  have lh := (lg.gr gh).gr ((Gr.refl wh).alloc (.cells #[.int .u64 (hiW (shareS l).1), .int .u64 (loW (shareS l).1), .int .u64 (hiW (shareS l).2), .int .u64 (loW (shareS l).2)] 41))
  go_wp2_with fail
  refine (hgd.out _).mono ?_
  rintro e wi ⟨rfl, rfl⟩
  go_wp2_with fail
  refine (hnum.out _ eh).mono ?_
  rintro e wj ⟨rfl, gj⟩
  obtain ⟨cj, fj, sj⟩ := gj.cells
  try simp only [size_drewN] at cj fj sj
  try simp only [World.size_alloc] at cj fj sj
  try simp only [World.size_drew] at cj fj sj
  try simp only [World.size_setCell] at cj fj sj
  have zj0 : w.heap.size < wj.heap.size := by omega
  have yj0 : w.heap.size ≤ wj.heap.size := by omega
  have kj0 := fun o => cj (w.heap.size) o (by omega)
  have jj0 := fun o => fj (w.heap.size) o (by omega)
  have ej := eh.gr gj
  go_wp2_with fail
  refine (hnum.out _ ej).mono ?_
  rintro e wk ⟨rfl, gk⟩
  obtain ⟨ck, fk, sk⟩ := gk.cells
  try simp only [size_drewN] at ck fk sk
  try simp only [World.size_alloc] at ck fk sk
  try simp only [World.size_drew] at ck fk sk
  try simp only [World.size_setCell] at ck fk sk
  have zk0 : w.heap.size < wk.heap.size := by omega
  have yk0 : w.heap.size ≤ wk.heap.size := by omega
  have kk0 := fun o => ck (w.heap.size) o (by omega)
  have jk0 := fun o => fk (w.heap.size) o (by omega)
  have eq := ej.gr gk
  go_wp2_with fail
  refine (server_no s n _ eq i0 i3 i2 _ hok.out).mono ?_
  rintro e wr ⟨rfl, gr⟩
  obtain ⟨cr, fr, sr⟩ := gr.cells
  try simp only [size_drewN] at cr fr sr
  try simp only [World.size_alloc] at cr fr sr
  try simp only [World.size_drew] at cr fr sr
  try simp only [World.size_setCell] at cr fr sr
  have zr0 : w.heap.size < wr.heap.size := by omega
  have yr0 : w.heap.size ≤ wr.heap.size := by omega
  have kr0 := fun o => cr (w.heap.size) o (by omega)
  have jr0 := fun o => fr (w.heap.size) o (by omega)
  have er := eq.gr gr
  go_wp2_with fail
  refine (request_no s n _ er i0 i3 i2 _ hok.out).mono ?_
  rintro e wt ⟨rfl, gt⟩
  obtain ⟨ct, ft, st⟩ := gt.cells
  try simp only [size_drewN] at ct ft st
  try simp only [World.size_alloc] at ct ft st
  try simp only [World.size_drew] at ct ft st
  try simp only [World.size_setCell] at ct ft st
  have zt0 : w.heap.size < wt.heap.size := by omega
  have yt0 : w.heap.size ≤ wt.heap.size := by omega
  have kt0 := fun o => ct (w.heap.size) o (by omega)
  have jt0 := fun o => ft (w.heap.size) o (by omega)
  have et := er.gr gt
  go_wp2_with fail
  refine (hrl.out _).mono ?_
  rintro e wu ⟨rfl, gu⟩
  obtain ⟨cu, fu, su⟩ := gu.cells
  try simp only [size_drewN] at cu fu su
  try simp only [World.size_alloc] at cu fu su
  try simp only [World.size_drew] at cu fu su
  try simp only [World.size_setCell] at cu fu su
  have zu0 : w.heap.size < wu.heap.size := by omega
  have yu0 : w.heap.size ≤ wu.heap.size := by omega
  have ku0 := fun o => cu (w.heap.size) o (by omega)
  have ju0 := fun o => fu (w.heap.size) o (by omega)
  have eu := (et.gr gu).c0 i2
  go_wp2_with fail
  refine (hgd.out _).mono ?_
  rintro e wv ⟨rfl, rfl⟩
  go_wp2_with fail
  go_ret
  refine ⟨retb (by first | rfl | simp), ?_⟩
  repeat (first | exact Gr.refl _ | apply Gr.alloc | apply Gr.drew | apply Gr.drewN | (refine Gr.setCell ?_ (by simp) _) | (refine Gr.trans ?_ (by assumption)))

set_option maxRecDepth 100000 in
set_option maxHeartbeats 3200000 in
theorem demandServers_Ci {G : List Nat} {E : Nat → Addr} (a : Option Addr) (l : List Srv) (c : Nat) (s : Srv) (n : Int) (w : World) (hE : EAt G E w) (hG : ∀ x ∈ errNos, x ∈ G) (hl : SrvsAt w a l) (hm : l.length * 24 ≤ 140737488351232) (hc : a = none → c = 0) (g : Nat) (hS : srvErr l = some g) (hleg : s.leg = true) (hN : LenOk n) :
    Calls Tryd.prog 7 #[.slice a l.length c, .agg #[.int .i64 s.k, .int .i64 s.q, .int .i64 s.t], .int .i64 n] w fun e w' => e = .returned (.bool true) ∧ Gr w w' := by
  obtain ⟨i27, hi, hz0, hz1, hz2⟩ := info_parts Tryd.infoSrv
  have i0 := hG 0 (by decide)
  have i3 := hG 3 (by decide)
  have i2 := hG 2 (by decide)
  have hmm : l.length ≤ maxLen := by unfold maxLen; omega
  have n2 : l.length * 24 ≤ 140737488355328 := by omega
  have hE0 := hE.gr ((Gr.refl w).alloc (.cells #[.int .i64 s.k, .int .i64 s.q, .int .i64 s.t] 27))
  have hl0 := hl.gr ((Gr.refl w).alloc (.cells #[.int .i64 s.k, .int .i64 s.q, .int .i64 s.t] 27))
  have hrs := fun w h => ref_servers a l c w h hmm
  have hgd := good_any n
  have hrl := rlegal_any s
  have he0 := fun w => eql_same E 0 w
  have he2 := fun w => eql_same E 2 w
  rw [hS] at hrs
  dsimp only [numO, pw] at hrs
  have hck := srvErr_chk2 (n := n) hS
  have hnum := fun w hE => num_any (G := G) (E := E) g w hE hG (srvErr_mem g hS)
  obtain ⟨hg0, hg1⟩ := numI_ne g
  replace hnum := Lib.hid hnum
  replace hck := Lib.hid hck
  replace hS := Lib.hid hS
  rw [goodB_true hN] at hgd
  replace hN := Lib.hid hN
  rw [hleg] at hrl
  have hok := chk1_none hleg hN.out
  have hLeg := (Srv.leg_iff s).1 hleg
  replace hok := Lib.hid hok
  replace hLeg := Lib.hid hLeg
  replace hleg := Lib.hid hleg
  replace hrs := Lib.hid hrs
  replace hgd := Lib.hid hgd
  replace hrl := Lib.hid hrl
  go_enter Tryd.func7, Tryd.ntmps7
  go_wp2_with fail
  refine (alive11 _).mono ?_
  rintro e wa ⟨rfl, ga⟩
  obtain ⟨ca, fa, sa⟩ := ga.cells
  try simp only [size_drewN] at ca fa sa
  try simp only [World.size_alloc] at ca fa sa
  try simp only [World.size_drew] at ca fa sa
  try simp only [World.size_setCell] at ca fa sa
  have za0 : w.heap.size < wa.heap.size := by omega
  have ya0 : w.heap.size ≤ wa.heap.size := by omega
  have ka0 := fun o => ca (w.heap.size) o (by omega)
  have ja0 := fun o => fa (w.heap.size) o (by omega)
  have ea := hE0.gr ga
  have la := hl0.gr ga
  go_wp2_with (at_builtin; refine wpList_copyN (k := 3) (enc := Srv.cells) rfl _ _ 22 rfl 27 i27 _ 24 Tryd.underlying22 hi hz0 hz1 hz2 rfl (by decide) Srv.cells_len Srv.cells_one wa.heap.size rfl rfl a c l rfl (srvs_recs la) hc hmm n2 ?_; intro v1 wc hown gc)
  obtain ⟨a1, c1, rfl, r1, _, _⟩ := recs_of_owns Srv.cells_len hown
  clear hown
  have ec := ea.gr gc
  have lc := la.gr gc
  obtain ⟨cc, fc, sc⟩ := gc.cells
  have zc : w.heap.size < wc.heap.size := by omega
  have kc := fun o => cc w.heap.size o (by omega)
  go_wp2_with fail
  refine (dservers_no a1 l c1 n _ ec i0 i3 i2 (recs_srvs r1) hmm _ hck.out).mono ?_
  rintro e wd ⟨rfl, gd⟩
  obtain ⟨cd, fd, sd⟩ := gd.cells
  try simp only [size_drewN] at cd fd sd
  try simp only [World.size_alloc] at cd fd sd
  try simp only [World.size_drew] at cd fd sd
  try simp only [World.size_setCell] at cd fd sd
  have zd0 : w.heap.size < wd.heap.size := by omega
  have yd0 : w.heap.size ≤ wd.heap.size := by omega
  have kd0 := fun o => cd (w.heap.size) o (by omega)
  have jd0 := fun o => fd (w.heap.size) o (by omega)
  have ed := ec.gr gd
  have ld := lc.gr gd
  go_wp2_with (at_builtin; refine wpList_copyN (k := 3) (enc := Srv.cells) rfl _ _ 22 rfl 27 i27 _ 24 Tryd.underlying22 hi hz0 hz1 hz2 rfl (by decide) Srv.cells_len Srv.cells_one wd.heap.size rfl rfl a c l rfl (srvs_recs ld) hc hmm n2 ?_; intro v2 wf hown gf)
  obtain ⟨a2, c2, rfl, r2, _, _⟩ := recs_of_owns Srv.cells_len hown
  clear hown
  have ef := ed.gr gf
  have lf := ld.gr gf
  obtain ⟨cf, ff, sf⟩ := gf.cells
  have zf : w.heap.size < wf.heap.size := by omega
  have kf := fun o => cf w.heap.size o (by omega)
  go_wp2_with fail
  refine (drequests_no a2 l c2 n _ ef i0 i3 i2 (recs_srvs r2) hmm _ hck.out).mono ?_
  rintro e wg ⟨rfl, gg⟩
  obtain ⟨cg, fg, sg⟩ := gg.cells
  try simp only [size_drewN] at cg fg sg
  try simp only [World.size_alloc] at cg fg sg
  try simp only [World.size_drew] at cg fg sg
  try simp only [World.size_setCell] at cg fg sg
  have zg0 : w.heap.size < wg.heap.size := by omega
  have yg0 : w.heap.size ≤ wg.heap.size := by omega
  have kg0 := fun o => cg (w.heap.size) o (by omega)
  have jg0 := fun o => fg (w.heap.size) o (by omega)
  have eg := ef.gr gg
  have lg := lf.gr gg
  go_wp2_with fail
  refine (hrs.out _ lg).mono ?_
  rintro e wh ⟨rfl, gh⟩
  obtain ⟨ch, fh, sh⟩ := gh.cells
  try simp only [size_drewN] at ch fh sh
  try simp only [World.size_alloc] at ch fh sh
  try simp only [World.size_drew] at ch fh sh
  try simp only [World.size_setCell] at ch fh sh
  have zh0 : w.heap.size < wh.heap.size := by omega
  have yh0 : w.heap.size ≤ wh.heap.size := by omega
  have kh0 := fun o => ch (w.heap.size) o (by omega)
  have jh0 := fun o => fh (w.heap.size) o (by omega)
  have eh := (eg.gr gh).gr ((Gr.refl wh).alloc (.cells #[.int .u64 0, .int .u64 0, .int .u64 0, .int .u64 0] 41))
  have lh := (lg.gr gh).gr ((Gr.refl wh).alloc (.cells #[.int .u64 0, .int .u64 0, .int .u64 0, .int .u64 0] 41))
  go_wp2_with fail
  refine (hnum.out _ eh).mono ?_
  rintro e wj ⟨rfl, gj⟩
  obtain ⟨cj, fj, sj⟩ := gj.cells
  try simp only [size_drewN] at cj fj sj
  try simp only [World.size_alloc] at cj fj sj
  try simp only [World.size_drew] at cj fj sj
  try simp only [World.size_setCell] at cj fj sj
  have zj0 : w.heap.size < wj.heap.size := by omega
  have yj0 : w.heap.size ≤ wj.heap.size := by omega
  have kj0 := fun o => cj (w.heap.size) o (by omega)
  have jj0 := fun o => fj (w.heap.size) o (by omega)
  have ej := eh.gr gj
  go_wp2_with fail
  refine (hnum.out _ ej).mono ?_
  rintro e wk ⟨rfl, gk⟩
  obtain ⟨ck, fk, sk⟩ := gk.cells
  try simp only [size_drewN] at ck fk sk
  try simp only [World.size_alloc] at ck fk sk
  try simp only [World.size_drew] at ck fk sk
  try simp only [World.size_setCell] at ck fk sk
  have zk0 : w.heap.size < wk.heap.size := by omega
  have yk0 : w.heap.size ≤ wk.heap.size := by omega
  have kk0 := fun o => ck (w.heap.size) o (by omega)
  have jk0 := fun o => fk (w.heap.size) o (by omega)
  have eq := ej.gr gk
  go_wp2_with fail
  refine (server_yes s n _ hok.out).mono ?_
  rintro e wr ⟨rfl, gr⟩
  obtain ⟨cr, fr, sr⟩ := gr.cells
  try simp only [size_drewN] at cr fr sr
  try simp only [World.size_alloc] at cr fr sr
  try simp only [World.size_drew] at cr fr sr
  try simp only [World.size_setCell] at cr fr sr
  have zr0 : w.heap.size < wr.heap.size := by omega
  have yr0 : w.heap.size ≤ wr.heap.size := by omega
  have kr0 := fun o => cr (w.heap.size) o (by omega)
  have jr0 := fun o => fr (w.heap.size) o (by omega)
  go_wp2_with fail
  refine (request_yes s n _ hok.out).mono ?_
  rintro e wt ⟨rfl, gt⟩
  obtain ⟨ct, ft, st⟩ := gt.cells
  try simp only [size_drewN] at ct ft st
  try simp only [World.size_alloc] at ct ft st
  try simp only [World.size_drew] at ct ft st
  try simp only [World.size_setCell] at ct ft st
  have zt0 : w.heap.size < wt.heap.size := by omega
  have yt0 : w.heap.size ≤ wt.heap.size := by omega
  have kt0 := fun o => ct (w.heap.size) o (by omega)
  have jt0 := fun o => ft (w.heap.size) o (by omega)
  go_wp2_with fail
  refine (hrl.out _).mono ?_
  rintro e wu ⟨rfl, gu⟩
  obtain ⟨cu, fu, su⟩ := gu.cells
  try simp only [size_drewN] at cu fu su
  try simp only [World.size_alloc] at cu fu su
  try simp only [World.size_drew] at cu fu su
  try simp only [World.size_setCell] at cu fu su
  have zu0 : w.heap.size < wu.heap.size := by omega
  have yu0 : w.heap.size ≤ wu.heap.size := by omega
  have ku0 := fun o => cu (w.heap.size) o (by omega)
  have ju0 := fun o => fu (w.heap.size) o (by omega)
  go_wp2_with fail
  refine (hgd.out _).mono ?_
  rintro e wv ⟨rfl, rfl⟩
  go_wp2_with fail
  refine (rserver_any s n _ hLeg.out hN.out).mono ?_
  rintro e wx ⟨rfl, gx⟩
  obtain ⟨cx, fx, sx⟩ := gx.cells
  try simp only [size_drewN] at cx fx sx
  try simp only [World.size_alloc] at cx fx sx
  try simp only [World.size_drew] at cx fx sx
  try simp only [World.size_setCell] at cx fx sx
  have zx0 : w.heap.size < wx.heap.size := by omega
  have yx0 : w.heap.size ≤ wx.heap.size := by omega
  have kx0 := fun o => cx (w.heap.size) o (by omega)
  have jx0 := fun o => fx (w.heap.size) o (by omega)
  go_wp2_with fail
  refine (rrequest_any s n _ hLeg.out hN.out).mono ?_
  rintro e wy ⟨rfl, gy⟩
  obtain ⟨cy, fy, sy⟩ := gy.cells
  try simp only [size_drewN] at cy fy sy
  try simp only [World.size_alloc] at cy fy sy
  try simp only [World.size_drew] at cy fy sy
  try simp only [World.size_setCell] at cy fy sy
  have zy0 : w.heap.size < wy.heap.size := by omega
  have yy0 : w.heap.size ≤ wy.heap.size := by omega
  have ky0 := fun o => cy (w.heap.size) o (by omega)
  have jy0 := fun o => fy (w.heap.size) o (by omega)
  go_wp2_with fail
  go_ret
  refine ⟨retb (by first | rfl | simp), ?_⟩
  repeat (first | exact Gr.refl _ | apply Gr.alloc | apply Gr.drew | apply Gr.drewN | (refine Gr.setCell ?_ (by simp) _) | (refine Gr.trans ?_ (by assumption)))

set_option maxRecDepth 100000 in
set_option maxHeartbeats 3200000 in
theorem demandServers_Cii {G : List Nat} {E : Nat → Addr} (a : Option Addr) (l : List Srv) (c : Nat) (s : Srv) (n : Int) (w : World) (hE : EAt G E w) (hG : ∀ x ∈ errNos, x ∈ G) (hl : SrvsAt w a l) (hm : l.length * 24 ≤ 140737488351232) (hc : a = none → c = 0) (g : Nat) (hS : srvErr l = some g) (hleg : s.leg = false) :
    Calls Tryd.prog 7 #[.slice a l.length c, .agg #[.int .i64 s.k, .int .i64 s.q, .int .i64 s.t], .int .i64 n] w fun e w' => e = .returned (.bool true) ∧ Gr w w' := by
  obtain ⟨i27, hi, hz0, hz1, hz2⟩ := info_parts Tryd.infoSrv
  have i0 := hG 0 (by decide)
  have i3 := hG 3 (by decide)
  have i2 := hG 2 (by decide)
  have hmm : l.length ≤ maxLen := by unfold maxLen; omega
  have n2 : l.length * 24 ≤ 140737488355328 := by omega
  have hE0 := hE.gr ((Gr.refl w).alloc (.cells #[.int .i64 s.k, .int .i64 s.q, .int .i64 s.t] 27))
  have hl0 := hl.gr ((Gr.refl w).alloc (.cells #[.int .i64 s.k, .int .i64 s.q, .int .i64 s.t] 27))
  have hrs := fun w h => ref_servers a l c w h hmm
  have hgd := good_any n
  have hrl := rlegal_any s
  have he0 := fun w => eql_same E 0 w
  have he2 := fun w => eql_same E 2 w
  rw [hS] at hrs
  dsimp only [numO, pw] at hrs
  have hck := srvErr_chk2 (n := n) hS
  have hnum := fun w hE => num_any (G := G) (E := E) g w hE hG (srvErr_mem g hS)
  obtain ⟨hg0, hg1⟩ := numI_ne g
  replace hnum := Lib.hid hnum
  replace hck := Lib.hid hck
  replace hS := Lib.hid hS
  rw [hleg] at hrl
  have hok := chk1_srv (n := n) hleg
  replace hok := Lib.hid hok
  replace hleg := Lib.hid hleg
  replace hrs := Lib.hid hrs
  replace hgd := Lib.hid hgd
  replace hrl := Lib.hid hrl
  go_enter Tryd.func7, Tryd.ntmps7
  go_wp2_with fail
  refine (alive11 _).mono ?_
  rintro e wa ⟨rfl, ga⟩
  obtain ⟨ca, fa, sa⟩ := ga.cells
  try simp only [size_drewN] at ca fa sa
  try simp only [World.size_alloc] at ca fa sa
  try simp only [World.size_drew] at ca fa sa
  try simp only [World.size_setCell] at ca fa sa
  have za0 : w.heap.size < wa.heap.size := by omega
  have ya0 : w.heap.size ≤ wa.heap.size := by omega
  have ka0 := fun o => ca (w.heap.size) o (by omega)
  have ja0 := fun o => fa (w.heap.size) o (by omega)
  have ea := hE0.gr ga
  have la := hl0.gr ga
  go_wp2_with (at_builtin; refine wpList_copyN (k := 3) (enc := Srv.cells) rfl _ _ 22 rfl 27 i27 _ 24 Tryd.underlying22 hi hz0 hz1 hz2 rfl (by decide) Srv.cells_len Srv.cells_one wa.heap.size rfl rfl a c l rfl (srvs_recs la) hc hmm n2 ?_; intro v1 wc hown gc)
  obtain ⟨a1, c1, rfl, r1, _, _⟩ := recs_of_owns Srv.cells_len hown
  clear hown
  have ec := ea.gr gc
  have lc := la.gr gc
  obtain ⟨cc, fc, sc⟩ := gc.cells
  have zc : w.heap.size < wc.heap.size := by omega
  have kc := fun o => cc w.heap.size o (by omega)
  go_wp2_with fail
  refine (dservers_no a1 l c1 n _ ec i0 i3 i2 (recs_srvs r1) hmm _ hck.out).mono ?_
  rintro e wd ⟨rfl, gd⟩
  obtain ⟨cd, fd, sd⟩ := gd.cells
  try simp only [size_drewN] at cd fd sd
  try simp only [World.size_alloc] at cd fd sd
  try simp only [World.size_drew] at cd fd sd
  try simp only [World.size_setCell] at cd fd sd
  have zd0 : w.heap.size < wd.heap.size := by omega
  have yd0 : w.heap.size ≤ wd.heap.size := by omega
  have kd0 := fun o => cd (w.heap.size) o (by omega)
  have jd0 := fun o => fd (w.heap.size) o (by omega)
  have ed := ec.gr gd
  have ld := lc.gr gd
  go_wp2_with (at_builtin; refine wpList_copyN (k := 3) (enc := Srv.cells) rfl _ _ 22 rfl 27 i27 _ 24 Tryd.underlying22 hi hz0 hz1 hz2 rfl (by decide) Srv.cells_len Srv.cells_one wd.heap.size rfl rfl a c l rfl (srvs_recs ld) hc hmm n2 ?_; intro v2 wf hown gf)
  obtain ⟨a2, c2, rfl, r2, _, _⟩ := recs_of_owns Srv.cells_len hown
  clear hown
  have ef := ed.gr gf
  have lf := ld.gr gf
  obtain ⟨cf, ff, sf⟩ := gf.cells
  have zf : w.heap.size < wf.heap.size := by omega
  have kf := fun o => cf w.heap.size o (by omega)
  go_wp2_with fail
  refine (drequests_no a2 l c2 n _ ef i0 i3 i2 (recs_srvs r2) hmm _ hck.out).mono ?_
  rintro e wg ⟨rfl, gg⟩
  obtain ⟨cg, fg, sg⟩ := gg.cells
  try simp only [size_drewN] at cg fg sg
  try simp only [World.size_alloc] at cg fg sg
  try simp only [World.size_drew] at cg fg sg
  try simp only [World.size_setCell] at cg fg sg
  have zg0 : w.heap.size < wg.heap.size := by omega
  have yg0 : w.heap.size ≤ wg.heap.size := by omega
  have kg0 := fun o => cg (w.heap.size) o (by omega)
  have jg0 := fun o => fg (w.heap.size) o (by omega)
  have eg := ef.gr gg
  have lg := lf.gr gg
  go_wp2_with fail
  refine (hrs.out _ lg).mono ?_
  rintro e wh ⟨rfl, gh⟩
  obtain ⟨ch, fh, sh⟩ := gh.cells
  try simp only [size_drewN] at ch fh sh
  try simp only [World.size_alloc] at ch fh sh
  try simp only [World.size_drew] at ch fh sh
  try simp only [World.size_setCell] at ch fh sh
  have zh0 : w.heap.size < wh.heap.size := by omega
  have yh0 : w.heap.size ≤ wh.heap.size := by omega
  have kh0 := fun o => ch (w.heap.size) o (by omega)
  have jh0 := fun o => fh (w.heap.size) o (by omega)
  have eh := (eg.gr gh).gr ((Gr.refl wh).alloc (.cells #[.int .u64 0, .int .u64 0, .int .u64 0, .int .u64 0] 41))
  have lh := (lg.gr gh).gr ((Gr.refl wh).alloc (.cells #[.int .u64 0, .int .u64 0, .int .u64 0, .int .u64 0] 41))
  go_wp2_with fail
  refine (hnum.out _ eh).mono ?_
  rintro e wj ⟨rfl, gj⟩
  obtain ⟨cj, fj, sj⟩ := gj.cells
  try simp only [size_drewN] at cj fj sj
  try simp only [World.size_alloc] at cj fj sj
  try simp only [World.size_drew] at cj fj sj
  try simp only [World.size_setCell] at cj fj sj
  have zj0 : w.heap.size < wj.heap.size := by omega
  have yj0 : w.heap.size ≤ wj.heap.size := by omega
  have kj0 := fun o => cj (w.heap.size) o (by omega)
  have jj0 := fun o => fj (w.heap.size) o (by omega)
  have ej := eh.gr gj
  go_wp2_with fail
  refine (hnum.out _ ej).mono ?_
  rintro e wk ⟨rfl, gk⟩
  obtain ⟨ck, fk, sk⟩ := gk.cells
  try simp only [size_drewN] at ck fk sk
  try simp only [World.size_alloc] at ck fk sk
  try simp only [World.size_drew] at ck fk sk
  try simp only [World.size_setCell] at ck fk sk
  have zk0 : w.heap.size < wk.heap.size := by omega
  have yk0 : w.heap.size ≤ wk.heap.size := by omega
  have kk0 := fun o => ck (w.heap.size) o (by omega)
  have jk0 := fun o => fk (w.heap.size) o (by omega)
  have eq := ej.gr gk
  go_wp2_with fail
  refine (server_no s n _ eq i0 i3 i2 _ hok.out).mono ?_
  rintro e wr ⟨rfl, gr⟩
  obtain ⟨cr, fr, sr⟩ := gr.cells
  try simp only [size_drewN] at cr fr sr
  try simp only [World.size_alloc] at cr fr sr
  try simp only [World.size_drew] at cr fr sr
  try simp only [World.size_setCell] at cr fr sr
  have zr0 : w.heap.size < wr.heap.size := by omega
  have yr0 : w.heap.size ≤ wr.heap.size := by omega
  have kr0 := fun o => cr (w.heap.size) o (by omega)
  have jr0 := fun o => fr (w.heap.size) o (by omega)
  have er := eq.gr gr
  go_wp2_with fail
  refine (request_no s n _ er i0 i3 i2 _ hok.out).mono ?_
  rintro e wt ⟨rfl, gt⟩
  obtain ⟨ct, ft, st⟩ := gt.cells
  try simp only [size_drewN] at ct ft st
  try simp only [World.size_alloc] at ct ft st
  try simp only [World.size_drew] at ct ft st
  try simp only [World.size_setCell] at ct ft st
  have zt0 : w.heap.size < wt.heap.size := by omega
  have yt0 : w.heap.size ≤ wt.heap.size := by omega
  have kt0 := fun o => ct (w.heap.size) o (by omega)
  have jt0 := fun o => ft (w.heap.size) o (by omega)
  have et := er.gr gt
  go_wp2_with fail
  refine (hrl.out _).mono ?_
  rintro e wu ⟨rfl, gu⟩
  obtain ⟨cu, fu, su⟩ := gu.cells
  try simp only [size_drewN] at cu fu su
  try simp only [World.size_alloc] at cu fu su
  try simp only [World.size_drew] at cu fu su
  try simp only [World.size_setCell] at cu fu su
  have zu0 : w.heap.size < wu.heap.size := by omega
  have yu0 : w.heap.size ≤ wu.heap.size := by omega
  have ku0 := fun o => cu (w.heap.size) o (by omega)
  have ju0 := fun o => fu (w.heap.size) o (by omega)
  have eu := (et.gr gu).c0 i0
  go_wp2_with fail
  go_ret
  refine ⟨retb (by first | rfl | simp), ?_⟩
  repeat (first | exact Gr.refl _ | apply Gr.alloc | apply Gr.drew | apply Gr.drewN | (refine Gr.setCell ?_ (by simp) _) | (refine Gr.trans ?_ (by assumption)))

set_option maxRecDepth 100000 in
set_option maxHeartbeats 3200000 in
theorem demandServers_Ciii {G : List Nat} {E : Nat → Addr} (a : Option Addr) (l : List Srv) (c : Nat) (s : Srv) (n : Int) (w : World) (hE : EAt G E w) (hG : ∀ x ∈ errNos, x ∈ G) (hl : SrvsAt w a l) (hm : l.length * 24 ≤ 140737488351232) (hc : a = none → c = 0) (g : Nat) (hS : srvErr l = some g) (hleg : s.leg = true) (hN : ¬ LenOk n) :
    Calls Tryd.prog 7 #[.slice a l.length c, .agg #[.int .i64 s.k, .int .i64 s.q, .int .i64 s.t], .int .i64 n] w fun e w' => e = .returned (.bool true) ∧ Gr w w' := by
  obtain ⟨i27, hi, hz0, hz1, hz2⟩ := info_parts Tryd.infoSrv
  have i0 := hG 0 (by decide)
  have i3 := hG 3 (by decide)
  have i2 := hG 2 (by decide)
  have hmm : l.length ≤ maxLen := by unfold maxLen; omega
  have n2 : l.length * 24 ≤ 140737488355328 := by omega
  have hE0 := hE.gr ((Gr.refl w).alloc (.cells #[.int .i64 s.k, .int .i64 s.q, .int .i64 s.t] 27))
  have hl0 := hl.gr ((Gr.refl w).alloc (.cells #[.int .i64 s.k, .int .i64 s.q, .int .i64 s.t] 27))
  have hrs := fun w h => ref_servers a l c w h hmm
  have hgd := good_any n
  have hrl := rlegal_any s
  have he0 := fun w => eql_same E 0 w
  have he2 := fun w => eql_same E 2 w
  rw [hS] at hrs
  dsimp only [numO, pw] at hrs
  have hck := srvErr_chk2 (n := n) hS
  have hnum := fun w hE => num_any (G := G) (E := E) g w hE hG (srvErr_mem g hS)
  obtain ⟨hg0, hg1⟩ := numI_ne g
  replace hnum := Lib.hid hnum
  replace hck := Lib.hid hck
  replace hS := Lib.hid hS
  rw [goodB_false hN] at hgd
  replace hN := Lib.hid hN
  rw [hleg] at hrl
  have hok := chk1_num hleg hN.out
  replace hok := Lib.hid hok
  replace hleg := Lib.hid hleg
  replace hrs := Lib.hid hrs
  replace hgd := Lib.hid hgd
  replace hrl := Lib.hid hrl
  go_enter Tryd.func7, Tryd.ntmps7
  go_wp2_with fail
  refine (alive11 _).mono ?_
  rintro e wa ⟨rfl, ga⟩
  obtain ⟨ca, fa, sa⟩ := ga.cells
  try simp only [size_drewN] at ca fa sa
  try simp only [World.size_alloc] at ca fa sa
  try simp only [World.size_drew] at ca fa sa
  try simp only [World.size_setCell] at ca fa sa
  have za0 : w.heap.size < wa.heap.size := by omega
  have ya0 : w.heap.size ≤ wa.heap.size := by omega
  have ka0 := fun o => ca (w.heap.size) o (by omega)
  have ja0 := fun o => fa (w.heap.size) o (by omega)
  have ea := hE0.gr ga
  have la := hl0.gr ga
  go_wp2_with (at_builtin; refine wpList_copyN (k := 3) (enc := Srv.cells) rfl _ _ 22 rfl 27 i27 _ 24 Tryd.underlying22 hi hz0 hz1 hz2 rfl (by decide) Srv.cells_len Srv.cells_one wa.heap.size rfl rfl a c l rfl (srvs_recs la) hc hmm n2 ?_; intro v1 wc hown gc)
  obtain ⟨a1, c1, rfl, r1, _, _⟩ := recs_of_owns Srv.cells_len hown
  clear hown
  have ec := ea.gr gc
  have lc := la.gr gc
  obtain ⟨cc, fc, sc⟩ := gc.cells
  have zc : w.heap.size < wc.heap.size := by omega
  have kc := fun o => cc w.heap.size o (by omega)
  go_wp2_with fail
  refine (dservers_no a1 l c1 n _ ec i0 i3 i2 (recs_srvs r1) hmm _ hck.out).mono ?_
  rintro e wd ⟨rfl, gd⟩
  obtain ⟨cd, fd, sd⟩ := gd.cells
  try simp only [size_drewN] at cd fd sd
  try simp only [World.size_alloc] at cd fd sd
  try simp only [World.size_drew] at cd fd sd
  try simp only [World.size_setCell] at cd fd sd
  have zd0 : w.heap.size < wd.heap.size := by omega
  have yd0 : w.heap.size ≤ wd.heap.size := by omega
  have kd0 := fun o => cd (w.heap.size) o (by omega)
  have jd0 := fun o => fd (w.heap.size) o (by omega)
  have ed := ec.gr gd
  have ld := lc.gr gd
  go_wp2_with (at_builtin; refine wpList_copyN (k := 3) (enc := Srv.cells) rfl _ _ 22 rfl 27 i27 _ 24 Tryd.underlying22 hi hz0 hz1 hz2 rfl (by decide) Srv.cells_len Srv.cells_one wd.heap.size rfl rfl a c l rfl (srvs_recs ld) hc hmm n2 ?_; intro v2 wf hown gf)
  obtain ⟨a2, c2, rfl, r2, _, _⟩ := recs_of_owns Srv.cells_len hown
  clear hown
  have ef := ed.gr gf
  have lf := ld.gr gf
  obtain ⟨cf, ff, sf⟩ := gf.cells
  have zf : w.heap.size < wf.heap.size := by omega
  have kf := fun o => cf w.heap.size o (by omega)
  go_wp2_with fail
  refine (drequests_no a2 l c2 n _ ef i0 i3 i2 (recs_srvs r2) hmm _ hck.out).mono ?_
  rintro e wg ⟨rfl, gg⟩
  obtain ⟨cg, fg, sg⟩ := gg.cells
  try simp only [size_drewN] at cg fg sg
  try simp only [World.size_alloc] at cg fg sg
  try simp only [World.size_drew] at cg fg sg
  try simp only [World.size_setCell] at cg fg sg
  have zg0 : w.heap.size < wg.heap.size := by omega
  have yg0 : w.heap.size ≤ wg.heap.size := by omega
  have kg0 := fun o => cg (w.heap.size) o (by omega)
  have jg0 := fun o => fg (w.heap.size) o (by omega)
  have eg := ef.gr gg
  have lg := lf.gr gg
  go_wp2_with fail
  refine (hrs.out _ lg).mono ?_
  rintro e wh ⟨rfl, gh⟩
  obtain ⟨ch, fh, sh⟩ := gh.cells
  try simp only [size_drewN] at ch fh sh
  try simp only [World.size_alloc] at ch fh sh
  try simp only [World.size_drew] at ch fh sh
  try simp only [World.size_setCell] at ch fh sh
  have zh0 : w.heap.size < wh.heap.size := by omega
  have yh0 : w.heap.size ≤ wh.heap.size := by omega
  have kh0 := fun o => ch (w.heap.size) o (by omega)
  have jh0 := fun o => fh (w.heap.size) o (by omega)
  have eh := (eg.gr gh).gr ((Gr.refl wh).alloc (.cells #[.int .u64 0, .int .u64 0, .int .u64 0, .int .u64 0] 41))
  have lh := (lg.gr gh).gr ((Gr.refl wh).alloc (.cells #[.int .u64 0, .int .u64 0, .int .u64 0, .int .u64 0] 41))
  go_wp2_with fail
  refine (hnum.out _ eh).mono ?_
  rintro e wj ⟨rfl, gj⟩
  obtain ⟨cj, fj, sj⟩ := gj.cells
  try simp only [size_drewN] at cj fj sj
  try simp only [World.size_alloc] at cj fj sj
  try simp only [World.size_drew] at cj fj sj
  try simp only [World.size_setCell] at cj fj sj
  have zj0 : w.heap.size < wj.heap.size := by omega
  have yj0 : w.heap.size ≤ wj.heap.size := by omega
  have kj0 := fun o => cj (w.heap.size) o (by omega)
  have jj0 := fun o => fj (w.heap.size) o (by omega)
  have ej := eh.gr gj
  go_wp2_with fail
  refine (hnum.out _ ej).mono ?_
  rintro e wk ⟨rfl, gk⟩
  obtain ⟨ck, fk, sk⟩ := gk.cells
  try simp only [size_drewN] at ck fk sk
  try simp only [World.size_alloc] at ck fk sk
  try simp only [World.size_drew] at ck fk sk
  try simp only [World.size_setCell] at ck fk sk
  have zk0 : w.heap.size < wk.heap.size := by omega
  have yk0 : w.heap.size ≤ wk.heap.size := by omega
  have kk0 := fun o => ck (w.heap.size) o (by omega)
  have jk0 := fun o => fk (w.heap.size) o (by omega)
  have eq := ej.gr gk
  go_wp2_with fail
  refine (server_no s n _ eq i0 i3 i2 _ hok.out).mono ?_
  rintro e wr ⟨rfl, gr⟩
  obtain ⟨cr, fr, sr⟩ := gr.cells
  try simp only [size_drewN] at cr fr sr
  try simp only [World.size_alloc] at cr fr sr
  try simp only [World.size_drew] at cr fr sr
  try simp only [World.size_setCell] at cr fr sr
  have zr0 : w.heap.size < wr.heap.size := by omega
  have yr0 : w.heap.size ≤ wr.heap.size := by omega
  have kr0 := fun o => cr (w.heap.size) o (by omega)
  have jr0 := fun o => fr (w.heap.size) o (by omega)
  have er := eq.gr gr
  go_wp2_with fail
  refine (request_no s n _ er i0 i3 i2 _ hok.out).mono ?_
  rintro e wt ⟨rfl, gt⟩
  obtain ⟨ct, ft, st⟩ := gt.cells
  try simp only [size_drewN] at ct ft st
  try simp only [World.size_alloc] at ct ft st
  try simp only [World.size_drew] at ct ft st
  try simp only [World.size_setCell] at ct ft st
  have zt0 : w.heap.size < wt.heap.size := by omega
  have yt0 : w.heap.size ≤ wt.heap.size := by omega
  have kt0 := fun o => ct (w.heap.size) o (by omega)
  have jt0 := fun o => ft (w.heap.size) o (by omega)
  have et := er.gr gt
  go_wp2_with fail
  refine (hrl.out _).mono ?_
  rintro e wu ⟨rfl, gu⟩
  obtain ⟨cu, fu, su⟩ := gu.cells
  try simp only [size_drewN] at cu fu su
  try simp only [World.size_alloc] at cu fu su
  try simp only [World.size_drew] at cu fu su
  try simp only [World.size_setCell] at cu fu su
  have zu0 : w.heap.size < wu.heap.size := by omega
  have yu0 : w.heap.size ≤ wu.heap.size := by omega
  have ku0 := fun o => cu (w.heap.size) o (by omega)
  have ju0 := fun o => fu (w.heap.size) o (by omega)
  have eu := (et.gr gu).c0 i2
  go_wp2_with fail
  refine (hgd.out _).mono ?_
  rintro e wv ⟨rfl, rfl⟩
  go_wp2_with fail
  go_ret
  refine ⟨retb (by first | rfl | simp), ?_⟩
  repeat (first | exact Gr.refl _ | apply Gr.alloc | apply Gr.drew | apply Gr.drewN | (refine Gr.setCell ?_ (by simp) _) | (refine Gr.trans ?_ (by assumption)))

theorem demandServers_walk {G : List Nat} {E : Nat → Addr} (a : Option Addr) (l : List Srv) (c : Nat) (s : Srv) (n : Int) (w : World) (hE : EAt G E w) (hG : ∀ x ∈ errNos, x ∈ G) (hl : SrvsAt w a l) (hm : l.length * 24 ≤ 140737488351232) (hc : a = none → c = 0) :
    Calls Tryd.prog 7 #[.slice a l.length c, .agg #[.int .i64 s.k, .int .i64 s.q, .int .i64 s.t], .int .i64 n] w fun e w' => e = .returned (.bool true) ∧ Gr w w' := by
  have hdec : LenOk n ∨ ¬ LenOk n := by unfold LenOk; omega
  cases hS : srvErr l with
  | none =>
    cases hleg : s.leg
    · rcases hdec with hN | hN
      · exact demandServers_Aii a l c s n w hE hG hl hm hc hS hN hleg
      · exact demandServers_Bii a l c s n w hE hG hl hm hc hS hN hleg
    · rcases hdec with hN | hN
      · exact demandServers_Ai a l c s n w hE hG hl hm hc hS hN hleg
      · exact demandServers_Biii a l c s n w hE hG hl hm hc hS hN hleg
  | some g =>
    cases hleg : s.leg
    · exact demandServers_Cii a l c s n w hE hG hl hm hc g hS hleg
    · rcases hdec with hN | hN
      · exact demandServers_Ci a l c s n w hE hG hl hm hc g hS hleg hN
      · exact demandServers_Ciii a l c s n w hE hG hl hm hc g hS hleg hN
end Go.Proofs.YtkfkfcfbcfcbkaaDoor
