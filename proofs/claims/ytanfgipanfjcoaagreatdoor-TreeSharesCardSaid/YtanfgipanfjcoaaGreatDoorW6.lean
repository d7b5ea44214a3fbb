/- TreeShares: the walk. Printed by gen_w6.py. -/
import Derived.Test.YtanfgipanfjcoaaGreatDoorJ40
import Derived.Test.YtanfgipanfjcoaaGreatDoorJ39
import Derived.Test.YtanfgipanfjcoaaGreatDoorU5
import Derived.Test.YtanfgipanfjcoaaGreatDoorJ23
namespace Go.Proofs.YtanfgipanfjcoaaGreatDoor
open Go.RowKit

set_option maxRecDepth 100000 in
set_option maxHeartbeats 12800000 in
theorem treeShares_any {G : List Nat} {E : Nat → Addr} (W : World) (hE : EAt G E W) (i0 : 3 ∈ G) (i1 : 0 ∈ G) (i3 : 1 ∈ G) (i4 : 2 ∈ G) (a : Option Addr) (c : Nat) (L : List OrM) (hL : OrsAt W a L) :
    Calls Tryz.prog 4 #[.slice a L.length c] W fun e w' => e = .returned (.bool true) ∧ Gr W w' := by
  have hal := alive13_any W hE i0 i1 i3 i4
  replace hal := Lib.hid hal
  replace hL := Lib.hid hL
  go_enter Tryz.func4, Tryz.ntmps4
  go_upto_region 1 with fail
  go_wp2_with fail
  refine hal.out.mono ?_
  rintro e w2 ⟨rfl, g2⟩
  clear hal
  obtain ⟨tb, htb⟩ : ∃ tb, tb = w2.heap.size := ⟨_, rfl⟩
  obtain ⟨w3, hw3⟩ : ∃ w3, w3 = w2.alloc (.cells #[.slice none 0 0, .slice none 0 0, .int .i64 0, .int .i64 0] 27) := ⟨_, rfl⟩
  have g3 : Gr w2 w3 := by rw [hw3]; exact (Gr.refl _).alloc _
  have hB3 : Blk w3 tb #[.slice none 0 0, .slice none 0 0, .int .i64 0, .int .i64 0] 27 := by rw [hw3, htb]; exact Blk.new _ _ _
  have hT3 : Held w3 tb ⟨[], none, 0, [], none, 0, 0, 0⟩ := ⟨hB3, TreeAt.none _ _ _ _⟩
  have h2z : w2.heap.size ≤ tb := by omega
  replace htb := Lib.hid htb
  replace hw3 := Lib.hid hw3
  replace hB3 := Lib.hid hB3
  replace hT3 := Lib.hid hT3
  replace h2z := Lib.hid h2z
  go_upto_region 4 with fail
  rw [← htb.out, ← hw3.out]
  go_wp2_with fail
  go_loopw [14] (fun iv wr => ∃ (k : Nat) (T : TM), k ≤ L.length ∧ k ≤ 60 ∧ iv = .int .i64 k ∧ Hid (Held wr tb T ∧ T.v = madeV ((L.take k).map (·.e))) ∧ Gr w2 wr) (fun iv _ => L.length - (intOf iv).toNat)
  case atStart => exact ⟨0, ⟨[], none, 0, [], none, 0, 0, 0⟩, Nat.zero_le _, Nat.zero_le _, rfl, Lib.hid ⟨hT3.out, rfl⟩, g3⟩
  case round =>
    obtain ⟨k, T, hk, hk6, rfl, hI, hg⟩ := hrel
    obtain ⟨hT, hv⟩ := hI.out
    clear hI
    have gWr : Gr W wr := g2.trans hg
    obtain ⟨wo, rfl⟩ : ∃ wo : World, wo = wr := ⟨wr, rfl⟩
    by_cases hlt : k < L.length
    · obtain ⟨x, hx⟩ := get_some L k hlt
      obtain ⟨b, off, rfl, hb, d0, d1, d2, d3, d4, d5, d6, d7⟩ := or_get (RecsIn.grx hL.out.r (gWr.x []) (fun _ h => by cases h)) hx
      have hxi := hL.out.i x (get_mem hx)
      have hxk := hL.out.k x (get_mem hx)
      replace hx := Lib.hid hx
      by_cases hl6 : k < 60
      · have t60 : ¬ (60 : Int) ≤ (k : Int) := by omega
        have t60b : decide ((60 : Int) ≤ (k : Int)) = false := decide_eq_false t60
        obtain ⟨hS, hF, hLv⟩ := made_at hv
        obtain ⟨xb, hxb⟩ : ∃ xb, xb = wo.heap.size := ⟨_, rfl⟩
        obtain ⟨wa, hwa⟩ : ∃ wa, wa = wo.alloc (.cells #[.int .i64 x.e.kd, .int .i64 x.e.id, .int .i64 x.e.srv.k, .int .i64 x.e.srv.q, .int .i64 x.e.srv.t, .int .i64 x.e.pol, .slice x.a x.e.tasks.length x.c, .int .i64 x.e.at_] 32) := ⟨_, rfl⟩
        have ga : Gr wo wa := by rw [hwa]; exact (Gr.refl _).alloc _
        have hXa : Blk wa xb #[.int .i64 x.e.kd, .int .i64 x.e.id, .int .i64 x.e.srv.k, .int .i64 x.e.srv.q, .int .i64 x.e.srv.t, .int .i64 x.e.pol, .slice x.a x.e.tasks.length x.c, .int .i64 x.e.at_] 32 := by rw [hwa, hxb]; exact Blk.new _ _ _
        have hTa := hT.gr ga
        have gWa := gWr.trans ga
        have hc := apply_at T W wa tb (hE.gr gWa) i0 i1 i3 i4 hTa hS (by omega) x hxi hxk gWa
        have hsx := hS.step x.e
        have hfx := hF.step hS x.e
        have hvn : madeV ((L.take (k + 1)).map (·.e)) = (T.v.apply x.e).1 := by rw [take_next hx.out, madeV_snoc, ← hv]
        have hshr : Shares (T.v.apply x.e).1 := by rw [← hvn]; exact shares_made _
        obtain ⟨V, hV⟩ : ∃ V, V = T.v.apply x.e := ⟨_, rfl⟩
        rw [← hV] at hc hsx hfx hvn hshr
        have t0 := hTa.b.cell (i := 0) (v := .slice T.an T.N.length T.cn) rfl
        have t1 := hTa.b.cell (i := 1) (v := .slice T.ag T.G.length T.cg) rfl
        have t2 := hTa.b.cell (i := 2) (v := .int .i64 T.last) rfl
        have t3 := hTa.b.cell (i := 3) (v := .int .i64 T.now) rfl
        have x0 := hXa.cell (i := 0) (v := .int .i64 x.e.kd) rfl
        have x1 := hXa.cell (i := 1) (v := .int .i64 x.e.id) rfl
        have x2 := hXa.cell (i := 2) (v := .int .i64 x.e.srv.k) rfl
        have x3 := hXa.cell (i := 3) (v := .int .i64 x.e.srv.q) rfl
        have x4 := hXa.cell (i := 4) (v := .int .i64 x.e.srv.t) rfl
        have x5 := hXa.cell (i := 5) (v := .int .i64 x.e.pol) rfl
        have x6 := hXa.cell (i := 6) (v := .slice x.a x.e.tasks.length x.c) rfl
        have x7 := hXa.cell (i := 7) (v := .int .i64 x.e.at_) rfl
        replace hS := Lib.hid hS
        replace hF := Lib.hid hF
        replace hLv := Lib.hid hLv
        replace hwa := Lib.hid hwa
        replace hxb := Lib.hid hxb
        replace hXa := Lib.hid hXa
        replace hTa := Lib.hid hTa
        replace hT := Lib.hid hT
        replace hv := Lib.hid hv
        replace hc := Lib.hid hc
        replace hsx := Lib.hid hsx
        replace hfx := Lib.hid hfx
        replace hvn := Lib.hid hvn
        replace hshr := Lib.hid hshr
        replace hxk := Lib.hid hxk
        replace hxi := Lib.hid hxi
        go_upto_region 8 with fail
        rw [← hxb.out, ← hwa.out]
        go_wp2_with fail
        refine hc.out.mono ?_
        rintro e wb ⟨U, rfl, hU, hUt, gb⟩
        clear t0 t1 t2 t3 x0 x1 x2 x3 x4 x5 x6 x7 d0 d1 d2 d3 d4 d5 d6 d7
        obtain ⟨V1, vc, vi⟩ := V
        dsimp only at hU ⊢
        have hTb := hTa.out.gr gb
        have tf := fun i => hTb.b.free i
        have ztb := hT.out.b.lt
        have zua : wo.heap.size ≤ wa.heap.size := ga.size
        have t0 := hTb.b.cell (i := 0) (v := .slice T.an T.N.length T.cn) rfl
        have t1 := hTb.b.cell (i := 1) (v := .slice T.ag T.G.length T.cg) rfl
        have t2 := hTb.b.cell (i := 2) (v := .int .i64 T.last) rfl
        have t3 := hTb.b.cell (i := 3) (v := .int .i64 T.now) rfl
        replace hTb := Lib.hid hTb
        replace hUt := Lib.hid hUt
        replace hU := Lib.hid hU
        replace ztb := Lib.hid ztb
        replace zua := Lib.hid zua
        go_upto_region 9 with fail
        obtain ⟨wt, hwt⟩ : ∃ wt, wt = (((wb.setCell ⟨tb, 0, none⟩ (.slice U.an U.N.length U.cn)).setCell ⟨tb, 1, none⟩ (.slice U.ag U.G.length U.cg)).setCell ⟨tb, 2, none⟩ (.int .i64 U.last)).setCell ⟨tb, 3, none⟩ (.int .i64 U.now) := ⟨_, rfl⟩
        rw [← hwt]
        obtain ⟨hUh, g2t⟩ := held_set (by have := ztb.out; have := zua.out; omega) hTb.out.b rfl hUt.out hwt ((hg.trans ga).trans gb) h2z.out
        have gWt : Gr W wt := g2.trans g2t
        clear t0 t1 t2 t3 tf
        have hsU0 : Sane (k + 1) U.v := by rw [hU.out]; exact hsx.out
        have hfU : Fit U.v := by rw [hU.out]; exact hfx.out
        have hsh : Shares U.v := by rw [hU.out]; exact hshr.out
        obtain ⟨hsU, hlow, hidl, hll0, hll1, _, _, _⟩ := sane_in hsU0 (by omega)
        obtain ⟨R0, hR0⟩ : ∃ R0, R0 = U.v.counted 0 := ⟨_, rfl⟩
        have hk0 : kidsErr rootS R0 = none := by rw [hR0]; exact hfU.ok 0 rootS rfl
        have hclen : ∀ id, (U.v.counted id).length ≤ 2000000 := fun id => by
          have h1 := cntN_len U.N id U.N.length
          have h2 := cntG_len U.G id U.G.length
          have h3 := hUh.t.l1
          have h4 := hUh.t.l2
          rw [cnt_all, List.length_append]
          omega
        have hct := fun (id : Int) (w' : World) (g : Gr wt w') => counted_any U id w' (hUh.gr g).t.any
        have u0 := hUh.b.cell (i := 0) (v := .slice U.an U.N.length U.cn) rfl
        have u1 := hUh.b.cell (i := 1) (v := .slice U.ag U.G.length U.cg) rfl
        have u2 := hUh.b.cell (i := 2) (v := .int .i64 U.last) rfl
        have u3 := hUh.b.cell (i := 3) (v := .int .i64 U.now) rfl
        replace hwt := Lib.hid hwt
        replace hUh := Lib.hid hUh
        replace g2t := Lib.hid g2t
        replace hsU0 := Lib.hid hsU0
        replace hfU := Lib.hid hfU
        replace hsh := Lib.hid hsh
        replace hsU := Lib.hid hsU
        replace hlow := Lib.hid hlow
        replace hidl := Lib.hid hidl
        replace hR0 := Lib.hid hR0
        replace hk0 := Lib.hid hk0
        replace hclen := Lib.hid hclen
        replace hct := Lib.hid hct
        go_wp2_with fail
        refine (hct.out 0 wt (Gr.refl wt)).mono ?_
        rintro e w1 ⟨la, lc, rfl, hlo, g1⟩
        rw [← hR0.out] at hlo ⊢
        have hka := kids_any rootS la R0 lc w1 (hE.gr (gWt.trans g1)) i0 i1 i3 (owns_srvs hlo) (by have := hclen.out 0; rw [← hR0.out] at this; unfold maxLen; omega)
        rw [hk0.out] at hka
        have hka2 : Calls Tryz.prog 9 #[.agg #[.int .i64 0, .int .i64 0, .int .i64 0], .slice la R0.length lc] w1 fun e w' => e = .returned .nilIface ∧ Gr w1 w' := hka
        clear hka
        have hka := hka2
        clear hka2
        replace hka := Lib.hid hka
        replace hlo := Lib.hid hlo
        go_wp2_with fail
        refine hka.out.mono ?_
        rintro e w2b ⟨rfl, g2b⟩
        clear u0 u1 u2 u3
        have hU2 := (hUh.out.gr g1).gr g2b
        have u0 := hU2.b.cell (i := 0) (v := .slice U.an U.N.length U.cn) rfl
        have u1 := hU2.b.cell (i := 1) (v := .slice U.ag U.G.length U.cg) rfl
        have u2 := hU2.b.cell (i := 2) (v := .int .i64 U.last) rfl
        have u3 := hU2.b.cell (i := 3) (v := .int .i64 U.now) rfl
        replace hU2 := Lib.hid hU2
        go_wp2_with fail
        refine (hct.out 0 w2b (g1.trans g2b)).mono ?_
        rintro e w3b ⟨lb, ld, rfl, hlp, g3b⟩
        rw [← hR0.out] at hlp ⊢
        have hrk := rkids12_ok rootS lb R0 ld w3b (owns_srvs hlp) hk0.out
        replace hrk := Lib.hid hrk
        replace hlp := Lib.hid hlp
        go_wp2_with fail
        refine hrk.out.mono ?_
        rintro e w4 ⟨rfl, g4⟩
        clear u0 u1 u2 u3
        have gt4 := ((g1.trans g2b).trans g3b).trans g4
        have hU4 := hUh.out.gr gt4
        have gW4 := gWt.trans gt4
        have u0 := hU4.b.cell (i := 0) (v := .slice U.an U.N.length U.cn) rfl
        have u1 := hU4.b.cell (i := 1) (v := .slice U.ag U.G.length U.cg) rfl
        have u2 := hU4.b.cell (i := 2) (v := .int .i64 U.last) rfl
        have u3 := hU4.b.cell (i := 3) (v := .int .i64 U.now) rfl
        replace hU4 := Lib.hid hU4
        have hNl := hU4.out.t.l1
        go_wp2_with fail
        clear u0 u1 u2 u3
        go_loopw [6, 42] (fun lv iv wr => ∃ (j : Nat) (ls : Int), j ≤ U.N.length ∧ lv = .int .i64 ls ∧ iv = .int .i64 j ∧ Hid (∀ (i : Nat) (z : NdM), j ≤ i → U.N[i]? = some z → ls < z.e.id) ∧ Gr w4 wr) (fun _ iv _ => U.N.length - (intOf iv).toNat)
        case atStart =>
          refine ⟨0, 0, Nat.zero_le _, rfl, rfl, Lib.hid (fun i z _ hz2 => ?_), Gr.refl _⟩
          have hzl := hsU0.out.lw z.e (List.mem_map.2 ⟨z, get_mem hz2, rfl⟩)
          omega
        case round =>
          obtain ⟨j, ls, hj, rfl, rfl, hlast, hg2⟩ := hrel
          obtain ⟨wp, rfl⟩ : ∃ wp : World, wp = wr := ⟨wr, rfl⟩
          have hUp := hU4.out.gr hg2
          have gWp := gW4.trans hg2
          have gtp := gt4.trans hg2
          by_cases hlj : j < U.N.length
          · obtain ⟨z, hzx⟩ := get_some U.N j hlj
            have hzm : z.e ∈ U.v.nodes := List.mem_map.2 ⟨z, get_mem hzx, rfl⟩
            have hzl := hsU0.out.lw z.e hzm
            have hls : ls < z.e.id := hlast.out j z (Nat.le_refl _) hzx
            have hsv : U.v.server z.e.id = some z.e.srv := by
              unfold TreeV.server
              rw [if_neg (by omega), find_yes hsU.out hzx rfl]
              rfl
            have hkz := hfU.out.ok _ _ hsv
            obtain ⟨hd1, hd2⟩ := hsh.out.dp z.e hzm
            have hgz := hsh.out.gs z.e hzm
            obtain ⟨C, hC⟩ : ∃ C, C = U.v.counted z.e.id := ⟨_, rfl⟩
            rw [← hC] at hkz hgz
            have hCl : C.length ≤ 2000000 := by rw [hC]; exact hclen.out _
            obtain ⟨dv, hdv⟩ : ∃ dv, dv = U.v.depth z.e.id := ⟨_, rfl⟩
            rw [← hdv] at hd1 hd2
            obtain ⟨b2, off2, hag, hb2, _, e0, e1, e2, e3, e4, e5, e6⟩ := NodM.get hUp.t.any.n hzx
            have hzk := hUp.t.any.n.2 z (get_mem hzx)
            obtain ⟨nb, hnb⟩ : ∃ nb, nb = wp.heap.size := ⟨_, rfl⟩
            obtain ⟨wz, hwz⟩ : ∃ wz, wz = wp.alloc (.cells #[.int .i64 z.e.id, .int .i64 z.e.par, .int .i64 z.e.srv.k, .int .i64 z.e.srv.q, .int .i64 z.e.srv.t, .int .i64 z.e.pol, .slice z.a z.e.tasks.length z.c] 39) := ⟨_, rfl⟩
            have gz : Gr wp wz := by rw [hwz]; exact (Gr.refl _).alloc _
            have hXz : Blk wz nb #[.int .i64 z.e.id, .int .i64 z.e.par, .int .i64 z.e.srv.k, .int .i64 z.e.srv.q, .int .i64 z.e.srv.t, .int .i64 z.e.pol, .slice z.a z.e.tasks.length z.c] 39 := by rw [hwz, hnb]; exact Blk.new _ _ _
            have hUz := hUp.gr gz
            have hzkz := hzk.gr gz
            have gWz := gWp.trans gz
            have gtz := gtp.trans gz
            have tj : (j : Int) < U.N.length := by omega
            have u0 := hUz.b.cell (i := 0) (v := .slice U.an U.N.length U.cn) rfl
            have u1 := hUz.b.cell (i := 1) (v := .slice U.ag U.G.length U.cg) rfl
            have u2 := hUz.b.cell (i := 2) (v := .int .i64 U.last) rfl
            have u3 := hUz.b.cell (i := 3) (v := .int .i64 U.now) rfl
            have y0 := hXz.cell (i := 0) (v := .int .i64 z.e.id) rfl
            have y1 := hXz.cell (i := 1) (v := .int .i64 z.e.par) rfl
            have y2 := hXz.cell (i := 2) (v := .int .i64 z.e.srv.k) rfl
            have y3 := hXz.cell (i := 3) (v := .int .i64 z.e.srv.q) rfl
            have y4 := hXz.cell (i := 4) (v := .int .i64 z.e.srv.t) rfl
            have y5 := hXz.cell (i := 5) (v := .int .i64 z.e.pol) rfl
            have y6 := hXz.cell (i := 6) (v := .slice z.a z.e.tasks.length z.c) rfl
            have tl1 : ¬ z.e.id ≤ ls := by omega
            have tl1b : decide (z.e.id ≤ ls) = false := decide_eq_false tl1
            have td1 : ¬ (4 : Int) < dv := by omega
            have td1b : decide ((4 : Int) < dv) = false := decide_eq_false td1
            have td2 : ¬ dv < 1 := by omega
            have td2b : decide (dv < 1) = false := decide_eq_false td2
            have hdep := fun w' (g : Gr wt w') => depth_any U z.e.id w' (hUh.out.gr g).t.any hsU.out hlow.out
            rw [← hdv] at hdep
            have hcnt := fun w' (g : Gr wt w') => hct.out z.e.id w' g
            rw [← hC] at hcnt
            have hkids := fun (w' : World) (a' : Option Addr) (c' : Nat) (g : Gr W w') (hh : SrvsAt w' a' C) => kids_any z.e.srv a' C c' w' (hE.gr g) i0 i1 i3 hh (by unfold maxLen; omega)
            rw [hkz] at hkids
            have hkids2 : ∀ (w' : World) (a' : Option Addr) (c' : Nat), Gr W w' → SrvsAt w' a' C → Calls Tryz.prog 9 #[.agg #[.int .i64 z.e.srv.k, .int .i64 z.e.srv.q, .int .i64 z.e.srv.t], .slice a' C.length c'] w' fun e w2 => e = .returned .nilIface ∧ Gr w' w2 := hkids
            clear hkids
            have hkids := hkids2
            clear hkids2
            replace hUp := Lib.hid hUp
            replace hXz := Lib.hid hXz
            replace hUz := Lib.hid hUz
            replace hzx := Lib.hid hzx
            replace hnb := Lib.hid hnb
            replace hwz := Lib.hid hwz
            replace hC := Lib.hid hC
            replace hdv := Lib.hid hdv
            replace hkz := Lib.hid hkz
            replace hsv := Lib.hid hsv
            replace hzk := Lib.hid hzk
            replace hzkz := Lib.hid hzkz
            replace hdep := Lib.hid hdep
            replace hcnt := Lib.hid hcnt
            replace hkids := Lib.hid hkids
            replace hgz := Lib.hid hgz
            have gdz : Gr wz wz.drew := (Gr.refl wz).drew
            go_upto_region 15 with fail
            rw [← hnb.out, ← hwz.out]
            replace hag := Lib.hid hag
            clear e0 e1 e2 e3 e4 e5 e6
            go_region_held3 (fun w' => w'.cell? ⟨tb, 0, none⟩ = some (.slice U.an U.N.length U.cn) ∧ w'.cell? ⟨tb, 1, none⟩ = some (.slice U.ag U.G.length U.cg) ∧ w'.cell? ⟨tb, 2, none⟩ = some (.int .i64 U.last) ∧ w'.cell? ⟨tb, 3, none⟩ = some (.int .i64 U.now) ∧ w'.cell? ⟨nb, 0, none⟩ = some (.int .i64 z.e.id) ∧ w'.cell? ⟨nb, 1, none⟩ = some (.int .i64 z.e.par) ∧ w'.cell? ⟨nb, 2, none⟩ = some (.int .i64 z.e.srv.k) ∧ w'.cell? ⟨nb, 3, none⟩ = some (.int .i64 z.e.srv.q) ∧ w'.cell? ⟨nb, 4, none⟩ = some (.int .i64 z.e.srv.t) ∧ w'.cell? ⟨nb, 5, none⟩ = some (.int .i64 z.e.pol) ∧ w'.cell? ⟨nb, 6, none⟩ = some (.slice z.a z.e.tasks.length z.c)) (simp (maxDischargeDepth := 8) [go_sem, *])
              (first
                | (go_at_call 10; (with_reducible refine (hcnt.out wz.drew (gtz.trans gdz)).mono ?_); rintro e wA ⟨lA, cA, rfl, hloA, gA⟩; have hUA := hUz.out.gr (gdz.trans gA); have hXA := hXz.out.gr (gdz.trans gA); have gWA := gWz.trans (gdz.trans gA); have gtA := gtz.trans (gdz.trans gA); have f0 := hUA.b.cell (i := 0) (v := .slice U.an U.N.length U.cn) rfl; have f1 := hUA.b.cell (i := 1) (v := .slice U.ag U.G.length U.cg) rfl; have f2 := hUA.b.cell (i := 2) (v := .int .i64 U.last) rfl; have f3 := hUA.b.cell (i := 3) (v := .int .i64 U.now) rfl; have g0 := hXA.cell (i := 0) (v := .int .i64 z.e.id) rfl; have g1 := hXA.cell (i := 1) (v := .int .i64 z.e.par) rfl; have g2 := hXA.cell (i := 2) (v := .int .i64 z.e.srv.k) rfl; have g3 := hXA.cell (i := 3) (v := .int .i64 z.e.srv.q) rfl; have g4 := hXA.cell (i := 4) (v := .int .i64 z.e.srv.t) rfl; have g5 := hXA.cell (i := 5) (v := .int .i64 z.e.pol) rfl; have g6 := hXA.cell (i := 6) (v := .slice z.a z.e.tasks.length z.c) rfl; replace hUA := Lib.hid hUA; replace hXA := Lib.hid hXA; replace hloA := Lib.hid hloA)
                | (go_at_call 9; (with_reducible refine (hkids.out wA lA cA gWA (owns_srvs hloA.out)).mono ?_); rintro e wB ⟨rfl, gB⟩; have hUB := hUA.out.gr (gB); have hXB := hXA.out.gr (gB); have gWB := gWA.trans (gB); have gtB := gtA.trans (gB); have h0 := hUB.b.cell (i := 0) (v := .slice U.an U.N.length U.cn) rfl; have h1 := hUB.b.cell (i := 1) (v := .slice U.ag U.G.length U.cg) rfl; have h2 := hUB.b.cell (i := 2) (v := .int .i64 U.last) rfl; have h3 := hUB.b.cell (i := 3) (v := .int .i64 U.now) rfl; have i0 := hXB.cell (i := 0) (v := .int .i64 z.e.id) rfl; have i1 := hXB.cell (i := 1) (v := .int .i64 z.e.par) rfl; have i2 := hXB.cell (i := 2) (v := .int .i64 z.e.srv.k) rfl; have i3 := hXB.cell (i := 3) (v := .int .i64 z.e.srv.q) rfl; have i4 := hXB.cell (i := 4) (v := .int .i64 z.e.srv.t) rfl; have i5 := hXB.cell (i := 5) (v := .int .i64 z.e.pol) rfl; have i6 := hXB.cell (i := 6) (v := .slice z.a z.e.tasks.length z.c) rfl; replace hUB := Lib.hid hUB; replace hXB := Lib.hid hXB)
                | (go_at_call 12; (with_reducible refine (hdep.out wB gtB).mono ?_); rintro e wC ⟨rfl, gC⟩; have hUC := hUB.out.gr (gC); have hXC := hXB.out.gr (gC); have gWC := gWB.trans (gC); have gtC := gtB.trans (gC); have m0 := hUC.b.cell (i := 0) (v := .slice U.an U.N.length U.cn) rfl; have m1 := hUC.b.cell (i := 1) (v := .slice U.ag U.G.length U.cg) rfl; have m2 := hUC.b.cell (i := 2) (v := .int .i64 U.last) rfl; have m3 := hUC.b.cell (i := 3) (v := .int .i64 U.now) rfl; have n0 := hXC.cell (i := 0) (v := .int .i64 z.e.id) rfl; have n1 := hXC.cell (i := 1) (v := .int .i64 z.e.par) rfl; have n2 := hXC.cell (i := 2) (v := .int .i64 z.e.srv.k) rfl; have n3 := hXC.cell (i := 3) (v := .int .i64 z.e.srv.q) rfl; have n4 := hXC.cell (i := 4) (v := .int .i64 z.e.srv.t) rfl; have n5 := hXC.cell (i := 5) (v := .int .i64 z.e.pol) rfl; have n6 := hXC.cell (i := 6) (v := .slice z.a z.e.tasks.length z.c) rfl; replace hUC := Lib.hid hUC; replace hXC := Lib.hid hXC)
                | (go_at_call 12; (with_reducible refine (hdep.out wC gtC).mono ?_); rintro e wD ⟨rfl, gD⟩; have hUD := hUC.out.gr (gD); have hXD := hXC.out.gr (gD); have gWD := gWC.trans (gD); have gtD := gtC.trans (gD); have o0 := hUD.b.cell (i := 0) (v := .slice U.an U.N.length U.cn) rfl; have o1 := hUD.b.cell (i := 1) (v := .slice U.ag U.G.length U.cg) rfl; have o2 := hUD.b.cell (i := 2) (v := .int .i64 U.last) rfl; have o3 := hUD.b.cell (i := 3) (v := .int .i64 U.now) rfl; have r0 := hXD.cell (i := 0) (v := .int .i64 z.e.id) rfl; have r1 := hXD.cell (i := 1) (v := .int .i64 z.e.par) rfl; have r2 := hXD.cell (i := 2) (v := .int .i64 z.e.srv.k) rfl; have r3 := hXD.cell (i := 3) (v := .int .i64 z.e.srv.q) rfl; have r4 := hXD.cell (i := 4) (v := .int .i64 z.e.srv.t) rfl; have r5 := hXD.cell (i := 5) (v := .int .i64 z.e.pol) rfl; have r6 := hXD.cell (i := 6) (v := .slice z.a z.e.tasks.length z.c) rfl; replace hUD := Lib.hid hUD; replace hXD := Lib.hid hXD)
                | fail)
            clear u0 u1 u2 u3 y0 y1 y2 y3 y4 y5 y6 f0 f1 f2 f3 g0 g1 g2 g3 g4 g5 g6 h0 h1 h2 h3 i0 i1 i2 i3 i4 i5 i6 m0 m1 m2 m3 n0 n1 n2 n3 n4 n5 n6 o0 o1 o2 o3 r0 r1 r2 r3 r4 r5 r6
            have u0 := hUD.out.b.cell (i := 0) (v := .slice U.an U.N.length U.cn) rfl
            have u1 := hUD.out.b.cell (i := 1) (v := .slice U.ag U.G.length U.cg) rfl
            have u2 := hUD.out.b.cell (i := 2) (v := .int .i64 U.last) rfl
            have u3 := hUD.out.b.cell (i := 3) (v := .int .i64 U.now) rfl
            have y0 := hXD.out.cell (i := 0) (v := .int .i64 z.e.id) rfl
            have y1 := hXD.out.cell (i := 1) (v := .int .i64 z.e.par) rfl
            have y2 := hXD.out.cell (i := 2) (v := .int .i64 z.e.srv.k) rfl
            have y3 := hXD.out.cell (i := 3) (v := .int .i64 z.e.srv.q) rfl
            have y4 := hXD.out.cell (i := 4) (v := .int .i64 z.e.srv.t) rfl
            have y5 := hXD.out.cell (i := 5) (v := .int .i64 z.e.pol) rfl
            have y6 := hXD.out.cell (i := 6) (v := .slice z.a z.e.tasks.length z.c) rfl
            by_cases hpl : z.e.pol = 0
            · have tp : (z.e.pol != 0) = false := by simpa using hpl
              replace hpl := Lib.hid hpl
              go_wp2_with fail
              go_roundw
              case rel => exact ⟨j + 1, z.e.id, by omega, rfl, by go_num, Lib.hid (fun i z2 hi hz2 => hsU.out j i z z2 hzx.out hz2 (by omega)), ((((hg2.trans gz).trans (gdz.trans gA)).trans gB).trans gC).trans gD⟩
              case measure => simp [intOf]; omega
            · have tp : (z.e.pol != 0) = true := by simpa using hpl
              obtain ⟨hge, hce⟩ := hgz.out hpl
              have hgs := guest_all z.e.srv z.e.pol z.a z.e.tasks z.c wD (hE.gr gWD) i0 i1 i4 (recs_tsks ((((hzkz.out.gr (gdz.trans gA)).gr gB).gr gC).gr gD).1.1) (by have := hzkz.out.2.2.2.2; unfold maxLen; omega)
              rw [hge] at hgs
              have hgs2 : Calls Tryz.prog 13 #[.agg #[.int .i64 z.e.srv.k, .int .i64 z.e.srv.q, .int .i64 z.e.srv.t], .int .i64 z.e.pol, .slice z.a z.e.tasks.length z.c] wD fun e w' => e = .returned .nilIface ∧ Gr wD w' := hgs
              clear hgs
              replace hge := Lib.hid hge
              replace hgs2 := Lib.hid hgs2
              replace hpl := Lib.hid hpl
              go_wp2_with fail
              refine hgs2.out.mono ?_
              rintro e wE ⟨rfl, gE⟩
              clear u0 u1 u2 u3 y0 y1 y2 y3 y4 y5 y6
              have hUE := hUD.out.gr gE
              have hXE := hXD.out.gr gE
              have gtE := gtD.trans gE
              have u0 := hUE.b.cell (i := 0) (v := .slice U.an U.N.length U.cn) rfl
              have u1 := hUE.b.cell (i := 1) (v := .slice U.ag U.G.length U.cg) rfl
              have u2 := hUE.b.cell (i := 2) (v := .int .i64 U.last) rfl
              have u3 := hUE.b.cell (i := 3) (v := .int .i64 U.now) rfl
              have y0 := hXE.cell (i := 0) (v := .int .i64 z.e.id) rfl
              have y1 := hXE.cell (i := 1) (v := .int .i64 z.e.par) rfl
              have y2 := hXE.cell (i := 2) (v := .int .i64 z.e.srv.k) rfl
              have y3 := hXE.cell (i := 3) (v := .int .i64 z.e.srv.q) rfl
              have y4 := hXE.cell (i := 4) (v := .int .i64 z.e.srv.t) rfl
              have y5 := hXE.cell (i := 5) (v := .int .i64 z.e.pol) rfl
              have y6 := hXE.cell (i := 6) (v := .slice z.a z.e.tasks.length z.c) rfl
              replace hUE := Lib.hid hUE
              replace hXE := Lib.hid hXE
              go_wp2_with fail
              refine (hcnt.out wE gtE).mono ?_
              rintro e wF ⟨lF, cF, rfl, -, gF⟩
              rw [hce]
              clear u0 u1 u2 u3 y0 y1 y2 y3 y4 y5 y6
              have hXF := hXE.out.gr gF
              have y0 := hXF.cell (i := 0) (v := .int .i64 z.e.id) rfl
              have y1 := hXF.cell (i := 1) (v := .int .i64 z.e.par) rfl
              have y2 := hXF.cell (i := 2) (v := .int .i64 z.e.srv.k) rfl
              have y3 := hXF.cell (i := 3) (v := .int .i64 z.e.srv.q) rfl
              have y4 := hXF.cell (i := 4) (v := .int .i64 z.e.srv.t) rfl
              have y5 := hXF.cell (i := 5) (v := .int .i64 z.e.pol) rfl
              have y6 := hXF.cell (i := 6) (v := .slice z.a z.e.tasks.length z.c) rfl
              replace hXF := Lib.hid hXF
              replace hce := Lib.hid hce
              go_wp2_with fail
              go_roundw
              case rel => exact ⟨j + 1, z.e.id, by omega, rfl, by go_num, Lib.hid (fun i z2 hi hz2 => hsU.out j i z z2 hzx.out hz2 (by omega)), ((((((hg2.trans gz).trans (gdz.trans gA)).trans gB).trans gC).trans gD).trans gE).trans gF⟩
              case measure => simp [intOf]; omega
          · have tj : ¬ (j : Int) < U.N.length := by omega
            have tjb : decide ((j : Int) < U.N.length) = false := decide_eq_false tj
            go_wp2_with fail
            go_roundw
            case rel => exact ⟨k + 1, U, by omega, by omega, by go_num, Lib.hid ⟨hUp, by rw [hvn.out]; exact hU.out⟩, (g2t.out.trans gt4).trans hg2⟩
            case measure => simp [intOf]; omega
      · have t60 : (60 : Int) ≤ (k : Int) := by omega
        have t60b : decide ((60 : Int) ≤ (k : Int)) = true := decide_eq_true t60
        obtain ⟨xb, hxb⟩ : ∃ xb, xb = wo.heap.size := ⟨_, rfl⟩
        obtain ⟨wa, hwa⟩ : ∃ wa, wa = wo.alloc (.cells #[.int .i64 x.e.kd, .int .i64 x.e.id, .int .i64 x.e.srv.k, .int .i64 x.e.srv.q, .int .i64 x.e.srv.t, .int .i64 x.e.pol, .slice x.a x.e.tasks.length x.c, .int .i64 x.e.at_] 32) := ⟨_, rfl⟩
        have ga : Gr wo wa := by rw [hwa]; exact (Gr.refl _).alloc _
        have hXa : Blk wa xb #[.int .i64 x.e.kd, .int .i64 x.e.id, .int .i64 x.e.srv.k, .int .i64 x.e.srv.q, .int .i64 x.e.srv.t, .int .i64 x.e.pol, .slice x.a x.e.tasks.length x.c, .int .i64 x.e.at_] 32 := by rw [hwa, hxb]; exact Blk.new _ _ _
        have hTa := hT.gr ga
        have gWa := gWr.trans ga
        replace hwa := Lib.hid hwa
        replace hxb := Lib.hid hxb
        replace hXa := Lib.hid hXa
        replace hTa := Lib.hid hTa
        replace hT := Lib.hid hT
        replace hv := Lib.hid hv
        replace hxi := Lib.hid hxi
        replace hxk := Lib.hid hxk
        go_wp2_with fail
        go_ret
        rw [← hwa.out]
        exact ⟨rfl, gWa⟩
    · have hti : ¬ (k : Int) < L.length := by omega
      have htib : decide ((k : Int) < L.length) = false := decide_eq_false hti
      replace hT := Lib.hid hT
      replace hv := Lib.hid hv
      go_wp2_with fail
      go_ret
      exact ⟨rfl, gWr⟩
end Go.Proofs.YtanfgipanfjcoaaGreatDoor
