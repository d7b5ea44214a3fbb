/- TreeTimes: the walk. Printed by gen_w3.py. -/
import Derived.Test.YtanfgipanfjcoaaDoorJ36
import Derived.Test.YtanfgipanfjcoaaDoorJ37
namespace Go.Proofs.YtanfgipanfjcoaaDoor
open Go.RowKit

theorem made_at {L : List OrM} {m : Nat} {T : TM} (h : T.v = madeV ((L.take m).map (·.e))) : Sane m T.v ∧ Fit T.v ∧ Live T.v := by
  rw [h]
  refine ⟨(sane_made _).more ?_, fit_made _, live_made _⟩
  rw [List.length_map, List.length_take]
  omega
theorem take_next {L : List OrM} {k : Nat} {x : OrM} (hx : L[k]? = some x) : (L.take (k + 1)).map (·.e) = (L.take k).map (·.e) ++ [x.e] := by
  rw [take_snoc hx, List.map_append]
  rfl
/-- A tree that was made anew, in a variable behind it. -/
theorem held_new {w wf : World} {B tb : Nat} {T : TM} (hT : TreeAt (fun k => B ≤ k) w T) (ht : w.heap.size ≤ tb) (g : Gr w wf) (hb : Blk wf tb T.row 32) : Held wf tb T := ⟨hb, (hT.mono (K' := fun k => k ≠ tb) (fun b hb _ => by omega)).gr g⟩
set_option maxRecDepth 100000 in
set_option maxHeartbeats 12800000 in
theorem treeTimes_any {G : List Nat} {E : Nat → Addr} (W : World) (hE : EAt G E W) (i0 : 3 ∈ G) (i1 : 0 ∈ G) (i3 : 2 ∈ G) (i4 : 4 ∈ G) (a : Option Addr) (c : Nat) (L : List OrM) (hL : OrsAt W a L) :
    Calls Tryd.prog 6 #[.slice a L.length c] W fun e w' => e = .returned (.bool true) ∧ Gr W w' := by
  have hal := alive13_any W hE i0 i1 i3 i4
  replace hal := Lib.hid hal
  replace hL := Lib.hid hL
  go_enter Tryd.func6, Tryd.ntmps6
  go_upto_region 1 with fail
  go_wp2_with fail
  refine hal.out.mono ?_
  rintro e w2 ⟨rfl, g2⟩
  clear hal
  obtain ⟨tb, htb⟩ : ∃ tb, tb = w2.heap.size := ⟨_, rfl⟩
  obtain ⟨w3, hw3⟩ : ∃ w3, w3 = w2.alloc (.cells #[.slice none 0 0, .slice none 0 0, .int .i64 0, .int .i64 0] 32) := ⟨_, rfl⟩
  have g3 : Gr w2 w3 := by rw [hw3]; exact (Gr.refl _).alloc _
  have hB3 : Blk w3 tb #[.slice none 0 0, .slice none 0 0, .int .i64 0, .int .i64 0] 32 := by rw [hw3, htb]; exact Blk.new _ _ _
  have hT3 : Held w3 tb ⟨[], none, 0, [], none, 0, 0, 0⟩ := ⟨hB3, TreeAt.none _ _ _ _⟩
  have h2z : w2.heap.size ≤ tb := by omega
  replace htb := Lib.hid htb
  replace hw3 := Lib.hid hw3
  replace hB3 := Lib.hid hB3
  replace hT3 := Lib.hid hT3
  replace h2z := Lib.hid h2z
  go_upto_region 4 with fail
  rw [← htb.out, ← hw3.out]
  go_wp2_with fail
  go_loopw [17] (fun iv wr => ∃ (k : Nat) (T : TM), k ≤ L.length ∧ k ≤ 60 ∧ iv = .int .i64 k ∧ Hid (Held wr tb T ∧ T.v = madeV ((L.take k).map (·.e))) ∧ Gr w2 wr) (fun iv _ => L.length - (intOf iv).toNat)
  case atStart => exact ⟨0, ⟨[], none, 0, [], none, 0, 0, 0⟩, Nat.zero_le _, Nat.zero_le _, rfl, Lib.hid ⟨hT3.out, rfl⟩, g3⟩
  case round =>
    obtain ⟨k, T, hk, hk6, rfl, hI, hg⟩ := hrel
    obtain ⟨hT, hv⟩ := hI.out
    clear hI
    have gWr : Gr W wr := g2.trans hg
    obtain ⟨wo, rfl⟩ : ∃ wo : World, wo = wr := ⟨wr, rfl⟩
    by_cases hlt : k < L.length
    · obtain ⟨x, hx⟩ := get_some L k hlt
      obtain ⟨b, off, rfl, hb, d0, d1, d2, d3, d4, d5, d6, d7⟩ := or_get (RecsIn.grx hL.out.r (gWr.x []) (fun _ h => by cases h)) hx
      have hxi := hL.out.i x (get_mem hx)
      have hxk := hL.out.k x (get_mem hx)
      replace hx := Lib.hid hx
      by_cases hl6 : k < 60
      · have t60 : ¬ (60 : Int) ≤ (k : Int) := by omega
        have t60b : decide ((60 : Int) ≤ (k : Int)) = false := decide_eq_false t60
        obtain ⟨hS, hF, hLv⟩ := made_at hv
        obtain ⟨xb, hxb⟩ : ∃ xb, xb = wo.heap.size := ⟨_, rfl⟩
        obtain ⟨wa, hwa⟩ : ∃ wa, wa = wo.alloc (.cells #[.int .i64 x.e.kd, .int .i64 x.e.id, .int .i64 x.e.srv.k, .int .i64 x.e.srv.q, .int .i64 x.e.srv.t, .int .i64 x.e.pol, .slice x.a x.e.tasks.length x.c, .int .i64 x.e.at_] 27) := ⟨_, rfl⟩
        have ga : Gr wo wa := by rw [hwa]; exact (Gr.refl _).alloc _
        have hXa : Blk wa xb #[.int .i64 x.e.kd, .int .i64 x.e.id, .int .i64 x.e.srv.k, .int .i64 x.e.srv.q, .int .i64 x.e.srv.t, .int .i64 x.e.pol, .slice x.a x.e.tasks.length x.c, .int .i64 x.e.at_] 27 := by rw [hwa, hxb]; exact Blk.new _ _ _
        have hTa := hT.gr ga
        have gWa := gWr.trans ga
        have hc := apply_at T W wa tb (hE.gr gWa) i0 i1 i3 i4 hTa hS (by omega) x hxi hxk gWa
        have hap := apply_now hS hLv x.e
        have hlv := fun (U : TreeV) (hU : U = (T.v.apply x.e).1) (j : Nat) (g : Gh) (hg : U.ghosts[j]? = some g) => live_apply hS hF hLv x.e hU hg
        have htw := fun h => apply_twice (t := T.v) (o := x.e) h
        have hsx := hS.step x.e
        have hvn : madeV ((L.take (k + 1)).map (·.e)) = (T.v.apply x.e).1 := by rw [take_next hx.out, madeV_snoc, ← hv]
        obtain ⟨V, hV⟩ : ∃ V, V = T.v.apply x.e := ⟨_, rfl⟩
        rw [← hV] at hc hap hlv htw hsx hvn
        have t0 := hTa.b.cell (i := 0) (v := .slice T.an T.N.length T.cn) rfl
        have t1 := hTa.b.cell (i := 1) (v := .slice T.ag T.G.length T.cg) rfl
        have t2 := hTa.b.cell (i := 2) (v := .int .i64 T.last) rfl
        have t3 := hTa.b.cell (i := 3) (v := .int .i64 T.now) rfl
        have x0 := hXa.cell (i := 0) (v := .int .i64 x.e.kd) rfl
        have x1 := hXa.cell (i := 1) (v := .int .i64 x.e.id) rfl
        have x2 := hXa.cell (i := 2) (v := .int .i64 x.e.srv.k) rfl
        have x3 := hXa.cell (i := 3) (v := .int .i64 x.e.srv.q) rfl
        have x4 := hXa.cell (i := 4) (v := .int .i64 x.e.srv.t) rfl
        have x5 := hXa.cell (i := 5) (v := .int .i64 x.e.pol) rfl
        have x6 := hXa.cell (i := 6) (v := .slice x.a x.e.tasks.length x.c) rfl
        have x7 := hXa.cell (i := 7) (v := .int .i64 x.e.at_) rfl
        replace hS := Lib.hid hS
        replace hF := Lib.hid hF
        replace hLv := Lib.hid hLv
        replace hwa := Lib.hid hwa
        replace hxb := Lib.hid hxb
        replace hXa := Lib.hid hXa
        replace hTa := Lib.hid hTa
        replace hT := Lib.hid hT
        replace hv := Lib.hid hv
        replace hc := Lib.hid hc
        replace hap := Lib.hid hap
        replace hlv := Lib.hid hlv
        replace htw := Lib.hid htw
        replace hsx := Lib.hid hsx
        replace hvn := Lib.hid hvn
        replace hxk := Lib.hid hxk
        replace hxi := Lib.hid hxi
        go_upto_region 8 with fail
        rw [← hxb.out, ← hwa.out]
        go_wp2_with fail
        refine hc.out.mono ?_
        rintro e wb ⟨U, rfl, hU, hUt, gb⟩
        clear t0 t1 t2 t3 x0 x1 x2 x3 x4 x5 x6 x7 d0 d1 d2 d3 d4 d5 d6 d7
        obtain ⟨V1, vc, vi⟩ := V
        dsimp only at hU ⊢
        obtain ⟨ub, hub⟩ : ∃ ub, ub = wb.heap.size := ⟨_, rfl⟩
        obtain ⟨wq, hwq⟩ : ∃ wq, wq = (wb.alloc (.cells U.row 32)).alloc (.cells #[.int .i64 vc, .int .i64 vi] 34) := ⟨_, rfl⟩
        have gwq : Gr wb wq := by rw [hwq]; exact ((Gr.refl _).alloc _).alloc _
        have hBwq : Blk wq ub U.row 32 := by rw [hwq, hub]; exact (Blk.new _ _ _).alloc _
        have hRwq : Blk wq (ub + 1) #[.int .i64 vc, .int .i64 vi] 34 := by
          rw [hwq, hub]
          have := Blk.new (wb.alloc (.cells U.row 32)) #[.int .i64 vc, .int .i64 vi] 34
          rw [World.size_alloc] at this
          exact this
        have hTq := (hTa.out.gr gb).gr gwq
        have hUq := hUt.gr gwq
        have hXq := (hXa.out.gr gb).gr gwq
        have gWq := (gWa.trans gb).trans gwq
        have hUh : Held wq ub U := held_new hUt (by omega) gwq hBwq
        have h1 : U.v.now = V1.now := by rw [hU]
        have hap2 : T.now ≤ U.now := by
          have h2 := hap.out
          dsimp only at h2 h1
          omega
        clear h1
        have tn : ¬ U.now < T.now := by omega
        have tnb : decide (U.now < T.now) = false := decide_eq_false tn
        have zub : wa.heap.size ≤ wb.heap.size := gb.size
        have zua : wo.heap.size ≤ wa.heap.size := ga.size
        have ztb := hT.out.b.lt
        have t0 := hTq.b.cell (i := 0) (v := .slice T.an T.N.length T.cn) rfl
        have t1 := hTq.b.cell (i := 1) (v := .slice T.ag T.G.length T.cg) rfl
        have t2 := hTq.b.cell (i := 2) (v := .int .i64 T.last) rfl
        have t3 := hTq.b.cell (i := 3) (v := .int .i64 T.now) rfl
        have u0 := hBwq.cell (i := 0) (v := .slice U.an U.N.length U.cn) rfl
        have u1 := hBwq.cell (i := 1) (v := .slice U.ag U.G.length U.cg) rfl
        have u2 := hBwq.cell (i := 2) (v := .int .i64 U.last) rfl
        have u3 := hBwq.cell (i := 3) (v := .int .i64 U.now) rfl
        have r0 := hRwq.cell (i := 0) (v := .int .i64 vc) rfl
        have r1 := hRwq.cell (i := 1) (v := .int .i64 vi) rfl
        have x0 := hXq.cell (i := 0) (v := .int .i64 x.e.kd) rfl
        have x1 := hXq.cell (i := 1) (v := .int .i64 x.e.id) rfl
        have x2 := hXq.cell (i := 2) (v := .int .i64 x.e.srv.k) rfl
        have x3 := hXq.cell (i := 3) (v := .int .i64 x.e.srv.q) rfl
        have x4 := hXq.cell (i := 4) (v := .int .i64 x.e.srv.t) rfl
        have x5 := hXq.cell (i := 5) (v := .int .i64 x.e.pol) rfl
        have x6 := hXq.cell (i := 6) (v := .slice x.a x.e.tasks.length x.c) rfl
        have x7 := hXq.cell (i := 7) (v := .int .i64 x.e.at_) rfl
        replace hub := Lib.hid hub
        replace hwq := Lib.hid hwq
        replace hBwq := Lib.hid hBwq
        replace hRwq := Lib.hid hRwq
        replace hTq := Lib.hid hTq
        replace hUq := Lib.hid hUq
        replace hXq := Lib.hid hXq
        replace hUh := Lib.hid hUh
        replace hUt := Lib.hid hUt
        replace hU := Lib.hid hU
        replace zub := Lib.hid zub
        replace zua := Lib.hid zua
        replace ztb := Lib.hid ztb
        replace hap2 := Lib.hid hap2
        go_upto_region 9 with fail
        rw [← hub.out, ← hwq.out]
        go_upto_region 11 with fail
        by_cases hcd : vc = 0
        · subst hcd
          clear t0 t1 t2 t3 x0 x1 x2 x3 x4 x5 x6 x7
          go_upto_region 15 with fail
          clear u0 u1 u2 u3 r0 r1
          have hBy := hBwq.out.gr (Gr.refl wq)
          have hRy := hRwq.out.gr (Gr.refl wq)
          have hUy := hUq.out.gr (Gr.refl wq)
          have hTy := hTq.out.gr (Gr.refl wq)
          have gWy := gWq.trans (Gr.refl wq)
          have g2y := (((hg.trans ga).trans gb).trans gwq).trans (Gr.refl wq)
          have u0 := hBy.cell (i := 0) (v := .slice U.an U.N.length U.cn) rfl
          have u1 := hBy.cell (i := 1) (v := .slice U.ag U.G.length U.cg) rfl
          have u2 := hBy.cell (i := 2) (v := .int .i64 U.last) rfl
          have u3 := hBy.cell (i := 3) (v := .int .i64 U.now) rfl
          replace hBy := Lib.hid hBy
          replace hRy := Lib.hid hRy
          replace hUy := Lib.hid hUy
          replace hTy := Lib.hid hTy
          go_wp2_with fail
          have hGl := hUy.out.l2
          clear u0 u1 u2 u3
          go_loopw [56] (fun iv wr => ∃ j : Nat, j ≤ U.G.length ∧ iv = .int .i64 j ∧ Gr wq wr) (fun iv _ => U.G.length - (intOf iv).toNat)
          case atStart => exact ⟨0, Nat.zero_le _, rfl, Gr.refl _⟩
          case round =>
            obtain ⟨j, hj, rfl, hg2⟩ := hrel
            obtain ⟨wp, rfl⟩ : ∃ wp : World, wp = wr := ⟨wr, rfl⟩
            have hBp := hBy.out.gr hg2
            have hRp := hRy.out.gr hg2
            have hUp := hUy.out.gr hg2
            by_cases hlj : j < U.G.length
            · obtain ⟨g, hgx⟩ := get_some U.G j hlj
              have hgl : U.now < g.till := hlv.out U.v hU.out j g hgx
              obtain ⟨b2, off2, hag, hb2, _, d0, d1, d2, d3, d4⟩ := gh_get hUp.any.g hgx
              obtain ⟨gb2, hgb⟩ : ∃ gb2, gb2 = wp.heap.size := ⟨_, rfl⟩
              obtain ⟨wz, hwz⟩ : ∃ wz, wz = wp.alloc (.cells #[.int .i64 g.par, .int .i64 g.srv.k, .int .i64 g.srv.q, .int .i64 g.srv.t, .int .i64 g.till] 39) := ⟨_, rfl⟩
              have gz : Gr wp wz := by rw [hwz]; exact (Gr.refl _).alloc _
              have hXz : Blk wz gb2 #[.int .i64 g.par, .int .i64 g.srv.k, .int .i64 g.srv.q, .int .i64 g.srv.t, .int .i64 g.till] 39 := by rw [hwz, hgb]; exact Blk.new _ _ _
              have hBz := hBp.gr gz
              have hRz := hRp.gr gz
              have tj : (j : Int) < U.G.length := by omega
              have tl : ¬ g.till ≤ U.now := by omega
              have tlb : decide (g.till ≤ U.now) = false := decide_eq_false tl
              have u0 := hBz.cell (i := 0) (v := .slice U.an U.N.length U.cn) rfl
              have u1 := hBz.cell (i := 1) (v := .slice U.ag U.G.length U.cg) rfl
              have u2 := hBz.cell (i := 2) (v := .int .i64 U.last) rfl
              have u3 := hBz.cell (i := 3) (v := .int .i64 U.now) rfl
              have y0 := hXz.cell (i := 0) (v := .int .i64 g.par) rfl
              have y1 := hXz.cell (i := 1) (v := .int .i64 g.srv.k) rfl
              have y2 := hXz.cell (i := 2) (v := .int .i64 g.srv.q) rfl
              have y3 := hXz.cell (i := 3) (v := .int .i64 g.srv.t) rfl
              have y4 := hXz.cell (i := 4) (v := .int .i64 g.till) rfl
              have s0 := hRz.cell (i := 0) (v := .int .i64 0) rfl
              have s1 := hRz.cell (i := 1) (v := .int .i64 vi) rfl
              replace hBp := Lib.hid hBp
              replace hRp := Lib.hid hRp
              replace hUp := Lib.hid hUp
              replace hXz := Lib.hid hXz
              replace hBz := Lib.hid hBz
              replace hRz := Lib.hid hRz
              replace hgx := Lib.hid hgx
              replace hgb := Lib.hid hgb
              replace hwz := Lib.hid hwz
              go_upto_region 18 with fail
              rw [← hgb.out, ← hwz.out]
              go_wp2_with fail
              go_roundw
              case rel => exact ⟨j + 1, by omega, by go_num, hg2.trans gz⟩
              case measure => simp [intOf]; omega
            · have tj : ¬ (j : Int) < U.G.length := by omega
              have tjb : decide ((j : Int) < U.G.length) = false := decide_eq_false tj
              have hTp := hTy.out.gr hg2
              have tf := fun i => hTp.b.free i
              have t0 := hTp.b.cell (i := 0) (v := .slice T.an T.N.length T.cn) rfl
              have t1 := hTp.b.cell (i := 1) (v := .slice T.ag T.G.length T.cg) rfl
              have t2 := hTp.b.cell (i := 2) (v := .int .i64 T.last) rfl
              have t3 := hTp.b.cell (i := 3) (v := .int .i64 T.now) rfl
              have u0 := hBp.cell (i := 0) (v := .slice U.an U.N.length U.cn) rfl
              have u1 := hBp.cell (i := 1) (v := .slice U.ag U.G.length U.cg) rfl
              have u2 := hBp.cell (i := 2) (v := .int .i64 U.last) rfl
              have u3 := hBp.cell (i := 3) (v := .int .i64 U.now) rfl
              replace hBp := Lib.hid hBp
              replace hRp := Lib.hid hRp
              replace hUp := Lib.hid hUp
              replace hTp := Lib.hid hTp
              go_wp2_with fail
              go_roundw
              case rel =>
                obtain ⟨h1, h2⟩ := held_set (wf := _) (B := wa.heap.size) (by have := ztb.out; have := zua.out; omega) hTp.out.b rfl hUp.out rfl (g2y.trans hg2) h2z.out
                exact ⟨k + 1, U, by omega, by omega, by go_num, Lib.hid ⟨h1, by rw [hvn.out]; exact hU.out⟩, h2⟩
              case measure => simp [intOf]; omega
        · have tc : (vc != 0) = true := by simpa using hcd
          have hst : Sane (k + 1) U.v := by rw [hU.out]; exact hsx.out
          have hc2 := apply_at U W wq ub (hE.gr gWq) i0 i1 i3 i4 hUh.out hst (by omega) x hxi.out hxk.out gWq
          have hva : U.v.apply x.e = (V1, vc, vi) := by rw [hU.out]; exact htw.out hcd
          rw [hva] at hc2
          replace hst := Lib.hid hst
          replace hva := Lib.hid hva
          replace hc2 := Lib.hid hc2
          clear t0 t1 t2 t3
          go_wp2_with fail
          refine hc2.out.mono ?_
          rintro e wc ⟨U2, rfl, hU2, hUt2, gc⟩
          dsimp only at hU2 ⊢
          clear u0 u1 u2 u3 x0 x1 x2 x3 x4 x5 x6 x7 r0 r1
          obtain ⟨vb, hvb⟩ : ∃ vb, vb = wc.heap.size := ⟨_, rfl⟩
          obtain ⟨wd, hwd⟩ : ∃ wd, wd = (wc.alloc (.cells U2.row 32)).alloc (.cells #[.int .i64 vc, .int .i64 vi] 34) := ⟨_, rfl⟩
          have gwd : Gr wc wd := by rw [hwd]; exact ((Gr.refl _).alloc _).alloc _
          have hBwd : Blk wd vb U2.row 32 := by rw [hwd, hvb]; exact (Blk.new _ _ _).alloc _
          have hRwd : Blk wd (vb + 1) #[.int .i64 vc, .int .i64 vi] 34 := by
            rw [hwd, hvb]
            have := Blk.new (wc.alloc (.cells U2.row 32)) #[.int .i64 vc, .int .i64 vi] 34
            rw [World.size_alloc] at this
            exact this
          have gcd := gc.trans gwd
          have hBd := hBwq.out.gr gcd
          have hRd := hRwq.out.gr gcd
          have hUd := hUq.out.gr gcd
          have hU2d := (hUt2.gr gwd).any
          have hsm := same_eqT U U2 wd hUd.any hU2d (hU.out.trans hU2.symm)
          have u0 := hBd.cell (i := 0) (v := .slice U.an U.N.length U.cn) rfl
          have u1 := hBd.cell (i := 1) (v := .slice U.ag U.G.length U.cg) rfl
          have u2 := hBd.cell (i := 2) (v := .int .i64 U.last) rfl
          have u3 := hBd.cell (i := 3) (v := .int .i64 U.now) rfl
          have r0 := hRd.cell (i := 0) (v := .int .i64 vc) rfl
          have r1 := hRd.cell (i := 1) (v := .int .i64 vi) rfl
          have v0 := hBwd.cell (i := 0) (v := .slice U2.an U2.N.length U2.cn) rfl
          have v1 := hBwd.cell (i := 1) (v := .slice U2.ag U2.G.length U2.cg) rfl
          have v2 := hBwd.cell (i := 2) (v := .int .i64 U2.last) rfl
          have v3 := hBwd.cell (i := 3) (v := .int .i64 U2.now) rfl
          have s0 := hRwd.cell (i := 0) (v := .int .i64 vc) rfl
          have s1 := hRwd.cell (i := 1) (v := .int .i64 vi) rfl
          replace hvb := Lib.hid hvb
          replace hwd := Lib.hid hwd
          replace hBwd := Lib.hid hBwd
          replace hRwd := Lib.hid hRwd
          replace hBd := Lib.hid hBd
          replace hRd := Lib.hid hRd
          replace hUd := Lib.hid hUd
          replace hU2d := Lib.hid hU2d
          replace hUt2 := Lib.hid hUt2
          replace hU2 := Lib.hid hU2
          replace hsm := Lib.hid hsm
          go_upto_region 13 with fail
          rw [← hvb.out, ← hwd.out]
          go_wp2_with fail
          refine hsm.out.mono ?_
          rintro e wf ⟨rfl, gf⟩
          clear u0 u1 u2 u3 v0 v1 v2 v3 r0 r1 s0 s1
          go_upto_region 15 with fail
          have hBy := hBwq.out.gr (gcd.trans gf)
          have hRy := hRwq.out.gr (gcd.trans gf)
          have hUy := hUq.out.gr (gcd.trans gf)
          have hTy := hTq.out.gr (gcd.trans gf)
          have gWy := gWq.trans (gcd.trans gf)
          have g2y := (((hg.trans ga).trans gb).trans gwq).trans (gcd.trans gf)
          have u0 := hBy.cell (i := 0) (v := .slice U.an U.N.length U.cn) rfl
          have u1 := hBy.cell (i := 1) (v := .slice U.ag U.G.length U.cg) rfl
          have u2 := hBy.cell (i := 2) (v := .int .i64 U.last) rfl
          have u3 := hBy.cell (i := 3) (v := .int .i64 U.now) rfl
          replace hBy := Lib.hid hBy
          replace hRy := Lib.hid hRy
          replace hUy := Lib.hid hUy
          replace hTy := Lib.hid hTy
          go_wp2_with fail
          have hGl := hUy.out.l2
          clear u0 u1 u2 u3
          go_loopw [56] (fun iv wr => ∃ j : Nat, j ≤ U.G.length ∧ iv = .int .i64 j ∧ Gr wf wr) (fun iv _ => U.G.length - (intOf iv).toNat)
          case atStart => exact ⟨0, Nat.zero_le _, rfl, Gr.refl _⟩
          case round =>
            obtain ⟨j, hj, rfl, hg2⟩ := hrel
            obtain ⟨wp, rfl⟩ : ∃ wp : World, wp = wr := ⟨wr, rfl⟩
            have hBp := hBy.out.gr hg2
            have hRp := hRy.out.gr hg2
            have hUp := hUy.out.gr hg2
            by_cases hlj : j < U.G.length
            · obtain ⟨g, hgx⟩ := get_some U.G j hlj
              have hgl : U.now < g.till := hlv.out U.v hU.out j g hgx
              obtain ⟨b2, off2, hag, hb2, _, d0, d1, d2, d3, d4⟩ := gh_get hUp.any.g hgx
              obtain ⟨gb2, hgb⟩ : ∃ gb2, gb2 = wp.heap.size := ⟨_, rfl⟩
              obtain ⟨wz, hwz⟩ : ∃ wz, wz = wp.alloc (.cells #[.int .i64 g.par, .int .i64 g.srv.k, .int .i64 g.srv.q, .int .i64 g.srv.t, .int .i64 g.till] 39) := ⟨_, rfl⟩
              have gz : Gr wp wz := by rw [hwz]; exact (Gr.refl _).alloc _
              have hXz : Blk wz gb2 #[.int .i64 g.par, .int .i64 g.srv.k, .int .i64 g.srv.q, .int .i64 g.srv.t, .int .i64 g.till] 39 := by rw [hwz, hgb]; exact Blk.new _ _ _
              have hBz := hBp.gr gz
              have hRz := hRp.gr gz
              have tj : (j : Int) < U.G.length := by omega
              have tl : ¬ g.till ≤ U.now := by omega
              have tlb : decide (g.till ≤ U.now) = false := decide_eq_false tl
              have u0 := hBz.cell (i := 0) (v := .slice U.an U.N.length U.cn) rfl
              have u1 := hBz.cell (i := 1) (v := .slice U.ag U.G.length U.cg) rfl
              have u2 := hBz.cell (i := 2) (v := .int .i64 U.last) rfl
              have u3 := hBz.cell (i := 3) (v := .int .i64 U.now) rfl
              have y0 := hXz.cell (i := 0) (v := .int .i64 g.par) rfl
              have y1 := hXz.cell (i := 1) (v := .int .i64 g.srv.k) rfl
              have y2 := hXz.cell (i := 2) (v := .int .i64 g.srv.q) rfl
              have y3 := hXz.cell (i := 3) (v := .int .i64 g.srv.t) rfl
              have y4 := hXz.cell (i := 4) (v := .int .i64 g.till) rfl
              have s0 := hRz.cell (i := 0) (v := .int .i64 vc) rfl
              have s1 := hRz.cell (i := 1) (v := .int .i64 vi) rfl
              replace hBp := Lib.hid hBp
              replace hRp := Lib.hid hRp
              replace hUp := Lib.hid hUp
              replace hXz := Lib.hid hXz
              replace hBz := Lib.hid hBz
              replace hRz := Lib.hid hRz
              replace hgx := Lib.hid hgx
              replace hgb := Lib.hid hgb
              replace hwz := Lib.hid hwz
              go_upto_region 18 with fail
              rw [← hgb.out, ← hwz.out]
              cases h7 : (vc != 7) with
              | true =>
                go_wp2_with fail
                go_roundw
                case rel => exact ⟨j + 1, by omega, by go_num, hg2.trans gz⟩
                case measure => simp [intOf]; omega
              | false =>
                go_wp2_with fail
                go_roundw
                case rel => exact ⟨j + 1, by omega, by go_num, hg2.trans gz⟩
                case measure => simp [intOf]; omega
            · have tj : ¬ (j : Int) < U.G.length := by omega
              have tjb : decide ((j : Int) < U.G.length) = false := decide_eq_false tj
              have hTp := hTy.out.gr hg2
              have tf := fun i => hTp.b.free i
              have t0 := hTp.b.cell (i := 0) (v := .slice T.an T.N.length T.cn) rfl
              have t1 := hTp.b.cell (i := 1) (v := .slice T.ag T.G.length T.cg) rfl
              have t2 := hTp.b.cell (i := 2) (v := .int .i64 T.last) rfl
              have t3 := hTp.b.cell (i := 3) (v := .int .i64 T.now) rfl
              have u0 := hBp.cell (i := 0) (v := .slice U.an U.N.length U.cn) rfl
              have u1 := hBp.cell (i := 1) (v := .slice U.ag U.G.length U.cg) rfl
              have u2 := hBp.cell (i := 2) (v := .int .i64 U.last) rfl
              have u3 := hBp.cell (i := 3) (v := .int .i64 U.now) rfl
              replace hBp := Lib.hid hBp
              replace hRp := Lib.hid hRp
              replace hUp := Lib.hid hUp
              replace hTp := Lib.hid hTp
              go_wp2_with fail
              go_roundw
              case rel =>
                obtain ⟨h1, h2⟩ := held_set (wf := _) (B := wa.heap.size) (by have := ztb.out; have := zua.out; omega) hTp.out.b rfl hUp.out rfl (g2y.trans hg2) h2z.out
                exact ⟨k + 1, U, by omega, by omega, by go_num, Lib.hid ⟨h1, by rw [hvn.out]; exact hU.out⟩, h2⟩
              case measure => simp [intOf]; omega
      · have t60 : (60 : Int) ≤ (k : Int) := by omega
        have t60b : decide ((60 : Int) ≤ (k : Int)) = true := decide_eq_true t60
        obtain ⟨xb, hxb⟩ : ∃ xb, xb = wo.heap.size := ⟨_, rfl⟩
        obtain ⟨wa, hwa⟩ : ∃ wa, wa = wo.alloc (.cells #[.int .i64 x.e.kd, .int .i64 x.e.id, .int .i64 x.e.srv.k, .int .i64 x.e.srv.q, .int .i64 x.e.srv.t, .int .i64 x.e.pol, .slice x.a x.e.tasks.length x.c, .int .i64 x.e.at_] 27) := ⟨_, rfl⟩
        have ga : Gr wo wa := by rw [hwa]; exact (Gr.refl _).alloc _
        have hXa : Blk wa xb #[.int .i64 x.e.kd, .int .i64 x.e.id, .int .i64 x.e.srv.k, .int .i64 x.e.srv.q, .int .i64 x.e.srv.t, .int .i64 x.e.pol, .slice x.a x.e.tasks.length x.c, .int .i64 x.e.at_] 27 := by rw [hwa, hxb]; exact Blk.new _ _ _
        have hTa := hT.gr ga
        have gWa := gWr.trans ga
        replace hwa := Lib.hid hwa
        replace hxb := Lib.hid hxb
        replace hXa := Lib.hid hXa
        replace hTa := Lib.hid hTa
        replace hT := Lib.hid hT
        replace hv := Lib.hid hv
        replace hxi := Lib.hid hxi
        replace hxk := Lib.hid hxk
        go_wp2_with fail
        go_ret
        rw [← hwa.out]
        exact ⟨rfl, gWa⟩
    · have hti : ¬ (k : Int) < L.length := by omega
      have htib : decide ((k : Int) < L.length) = false := decide_eq_false hti
      replace hT := Lib.hid hT
      replace hv := Lib.hid hv
      go_wp2_with fail
      go_ret
      exact ⟨rfl, gWr⟩
end Go.Proofs.YtanfgipanfjcoaaDoor
