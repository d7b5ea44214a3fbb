/- TreeGhosts: the walk. Printed by gen_w4.py. -/
import Derived.Test.YtanfgipanfjcoaaDoorJW3
namespace Go.Proofs.YtanfgipanfjcoaaDoor
open Go.RowKit

theorem par_find {t : TreeV} {o : OrdV} {n : Nd} (h1 : o.kd ≠ 1) (hn : n = (t.find o.id).getD Nd.zero) : n.par = parI t o := by
  unfold parI
  rw [if_neg h1, hn]
  cases t.find o.id <;> rfl
set_option maxRecDepth 100000 in
set_option maxHeartbeats 12800000 in
theorem treeGhosts_any {G : List Nat} {E : Nat → Addr} (W : World) (hE : EAt G E W) (i0 : 3 ∈ G) (i1 : 0 ∈ G) (i3 : 2 ∈ G) (i4 : 4 ∈ G) (a : Option Addr) (c : Nat) (L : List OrM) (hL : OrsAt W a L) :
    Calls Tryd.prog 4 #[.slice a L.length c] W fun e w' => e = .returned (.bool true) ∧ Gr W w' := by
  have hal := alive13_any W hE i0 i1 i3 i4
  replace hal := Lib.hid hal
  replace hL := Lib.hid hL
  go_enter Tryd.func4, Tryd.ntmps4
  go_upto_region 1 with fail
  go_wp2_with fail
  refine hal.out.mono ?_
  rintro e w2 ⟨rfl, g2⟩
  clear hal
  obtain ⟨tb, htb⟩ : ∃ tb, tb = w2.heap.size := ⟨_, rfl⟩
  obtain ⟨w3, hw3⟩ : ∃ w3, w3 = w2.alloc (.cells #[.slice none 0 0, .slice none 0 0, .int .i64 0, .int .i64 0] 32) := ⟨_, rfl⟩
  have g3 : Gr w2 w3 := by rw [hw3]; exact (Gr.refl _).alloc _
  have hB3 : Blk w3 tb #[.slice none 0 0, .slice none 0 0, .int .i64 0, .int .i64 0] 32 := by rw [hw3, htb]; exact Blk.new _ _ _
  have hT3 : Held w3 tb ⟨[], none, 0, [], none, 0, 0, 0⟩ := ⟨hB3, TreeAt.none _ _ _ _⟩
  have h2z : w2.heap.size ≤ tb := by omega
  replace htb := Lib.hid htb
  replace hw3 := Lib.hid hw3
  replace hB3 := Lib.hid hB3
  replace hT3 := Lib.hid hT3
  replace h2z := Lib.hid h2z
  go_upto_region 4 with fail
  rw [← htb.out, ← hw3.out]
  go_wp2_with fail
  go_loopw [24] (fun iv wr => ∃ (k : Nat) (T : TM), k ≤ L.length ∧ k ≤ 60 ∧ iv = .int .i64 k ∧ Hid (Held wr tb T ∧ T.v = madeV ((L.take k).map (·.e))) ∧ Gr w2 wr) (fun iv _ => L.length - (intOf iv).toNat)
  case atStart => exact ⟨0, ⟨[], none, 0, [], none, 0, 0, 0⟩, Nat.zero_le _, Nat.zero_le _, rfl, Lib.hid ⟨hT3.out, rfl⟩, g3⟩
  case round =>
    obtain ⟨k, T, hk, hk6, rfl, hI, hg⟩ := hrel
    obtain ⟨hT, hv⟩ := hI.out
    clear hI
    have gWr : Gr W wr := g2.trans hg
    obtain ⟨wo, rfl⟩ : ∃ wo : World, wo = wr := ⟨wr, rfl⟩
    by_cases hlt : k < L.length
    · obtain ⟨x, hx⟩ := get_some L k hlt
      obtain ⟨b, off, rfl, hb, d0, d1, d2, d3, d4, d5, d6, d7⟩ := or_get (RecsIn.grx hL.out.r (gWr.x []) (fun _ h => by cases h)) hx
      have hxi := hL.out.i x (get_mem hx)
      have hxk := hL.out.k x (get_mem hx)
      replace hx := Lib.hid hx
      by_cases hl6 : k < 60
      · have t60 : ¬ (60 : Int) ≤ (k : Int) := by omega
        have t60b : decide ((60 : Int) ≤ (k : Int)) = false := decide_eq_false t60
        obtain ⟨hS, hF, hLv⟩ := made_at hv
        obtain ⟨xb, hxb⟩ : ∃ xb, xb = wo.heap.size := ⟨_, rfl⟩
        obtain ⟨wa, hwa⟩ : ∃ wa, wa = wo.alloc (.cells #[.int .i64 x.e.kd, .int .i64 x.e.id, .int .i64 x.e.srv.k, .int .i64 x.e.srv.q, .int .i64 x.e.srv.t, .int .i64 x.e.pol, .slice x.a x.e.tasks.length x.c, .int .i64 x.e.at_] 27) := ⟨_, rfl⟩
        have ga : Gr wo wa := by rw [hwa]; exact (Gr.refl _).alloc _
        have hXa : Blk wa xb #[.int .i64 x.e.kd, .int .i64 x.e.id, .int .i64 x.e.srv.k, .int .i64 x.e.srv.q, .int .i64 x.e.srv.t, .int .i64 x.e.pol, .slice x.a x.e.tasks.length x.c, .int .i64 x.e.at_] 27 := by rw [hwa, hxb]; exact Blk.new _ _ _
        have hTa := hT.gr ga
        have gWa := gWr.trans ga
        obtain ⟨hb2, hhb⟩ : ∃ hb2, hb2 = wa.heap.size := ⟨_, rfl⟩
        obtain ⟨we, hwe⟩ : ∃ we, we = wa.alloc (.cells T.row 32) := ⟨_, rfl⟩
        have ge : Gr wa we := by rw [hwe]; exact (Gr.refl _).alloc _
        have hHe : Blk we hb2 T.row 32 := by rw [hwe, hhb]; exact Blk.new _ _ _
        have hTe := hTa.gr ge
        have hXe := hXa.gr ge
        have gWe := gWa.trans ge
        have hc := apply_at T W we tb (hE.gr gWe) i0 i1 i3 i4 hTe hS (by omega) x hxi hxk gWe
        have hsx := hS.step x.e
        have hvn : madeV ((L.take (k + 1)).map (·.e)) = (T.v.apply x.e).1 := by rw [take_next hx.out, madeV_snoc, ← hv]
        have hgh := fun (U : TreeV) (p : Int) (h4 : x.e.kd ≠ 4) (hd : (T.v.apply x.e).2.1 = 0) (hU : U = (T.v.apply x.e).1) (hp : p = parI T.v x.e) => done_ghosts hS hF h4 hd hU hp
        obtain ⟨hsT, _, _, _, _, _, _, _⟩ := sane_in hS (by omega)
        obtain ⟨V, hV⟩ : ∃ V, V = T.v.apply x.e := ⟨_, rfl⟩
        rw [← hV] at hc hsx hvn hgh
        have t0 := hTa.b.cell (i := 0) (v := .slice T.an T.N.length T.cn) rfl
        have t1 := hTa.b.cell (i := 1) (v := .slice T.ag T.G.length T.cg) rfl
        have t2 := hTa.b.cell (i := 2) (v := .int .i64 T.last) rfl
        have t3 := hTa.b.cell (i := 3) (v := .int .i64 T.now) rfl
        have x0 := hXa.cell (i := 0) (v := .int .i64 x.e.kd) rfl
        have x1 := hXa.cell (i := 1) (v := .int .i64 x.e.id) rfl
        have x2 := hXa.cell (i := 2) (v := .int .i64 x.e.srv.k) rfl
        have x3 := hXa.cell (i := 3) (v := .int .i64 x.e.srv.q) rfl
        have x4 := hXa.cell (i := 4) (v := .int .i64 x.e.srv.t) rfl
        have x5 := hXa.cell (i := 5) (v := .int .i64 x.e.pol) rfl
        have x6 := hXa.cell (i := 6) (v := .slice x.a x.e.tasks.length x.c) rfl
        have x7 := hXa.cell (i := 7) (v := .int .i64 x.e.at_) rfl
        replace hS := Lib.hid hS
        replace hF := Lib.hid hF
        replace hLv := Lib.hid hLv
        replace hwa := Lib.hid hwa
        replace hxb := Lib.hid hxb
        replace hhb := Lib.hid hhb
        replace hwe := Lib.hid hwe
        replace hXa := Lib.hid hXa
        replace hTa := Lib.hid hTa
        replace hHe := Lib.hid hHe
        replace hTe := Lib.hid hTe
        replace hXe := Lib.hid hXe
        replace hT := Lib.hid hT
        replace hv := Lib.hid hv
        replace hc := Lib.hid hc
        replace hsx := Lib.hid hsx
        replace hvn := Lib.hid hvn
        replace hxk := Lib.hid hxk
        replace hxi := Lib.hid hxi
        replace hgh := Lib.hid hgh
        replace hsT := Lib.hid hsT
        go_upto_region 8 with fail
        rw [← hxb.out, ← hwa.out]
        go_upto_region 9 with fail
        rw [← hhb.out, ← hwe.out]
        clear t0 t1 t2 t3 x0 x1 x2 x3 x4 x5 x6 x7 d0 d1 d2 d3 d4 d5 d6 d7
        have t0 := hTe.out.b.cell (i := 0) (v := .slice T.an T.N.length T.cn) rfl
        have t1 := hTe.out.b.cell (i := 1) (v := .slice T.ag T.G.length T.cg) rfl
        have t2 := hTe.out.b.cell (i := 2) (v := .int .i64 T.last) rfl
        have t3 := hTe.out.b.cell (i := 3) (v := .int .i64 T.now) rfl
        have x0 := hXe.out.cell (i := 0) (v := .int .i64 x.e.kd) rfl
        have x1 := hXe.out.cell (i := 1) (v := .int .i64 x.e.id) rfl
        have x2 := hXe.out.cell (i := 2) (v := .int .i64 x.e.srv.k) rfl
        have x3 := hXe.out.cell (i := 3) (v := .int .i64 x.e.srv.q) rfl
        have x4 := hXe.out.cell (i := 4) (v := .int .i64 x.e.srv.t) rfl
        have x5 := hXe.out.cell (i := 5) (v := .int .i64 x.e.pol) rfl
        have x6 := hXe.out.cell (i := 6) (v := .slice x.a x.e.tasks.length x.c) rfl
        have x7 := hXe.out.cell (i := 7) (v := .int .i64 x.e.at_) rfl
        go_wp2_with fail
        refine hc.out.mono ?_
        rintro e wb ⟨U, rfl, hU, hUt, gb⟩
        clear t0 t1 t2 t3 x0 x1 x2 x3 x4 x5 x6 x7
        obtain ⟨V1, vc, vi⟩ := V
        dsimp only at hU ⊢
        obtain ⟨ub, hub⟩ : ∃ ub, ub = wb.heap.size := ⟨_, rfl⟩
        obtain ⟨wq, hwq⟩ : ∃ wq, wq = (wb.alloc (.cells U.row 32)).alloc (.cells #[.int .i64 vc, .int .i64 vi] 34) := ⟨_, rfl⟩
        have gwq : Gr wb wq := by rw [hwq]; exact ((Gr.refl _).alloc _).alloc _
        have hBwq : Blk wq ub U.row 32 := by rw [hwq, hub]; exact (Blk.new _ _ _).alloc _
        have hRwq : Blk wq (ub + 1) #[.int .i64 vc, .int .i64 vi] 34 := by
          rw [hwq, hub]
          have := Blk.new (wb.alloc (.cells U.row 32)) #[.int .i64 vc, .int .i64 vi] 34
          rw [World.size_alloc] at this
          exact this
        have hTq := (hTe.out.gr gb).gr gwq
        have hHq := (hHe.out.gr gb).gr gwq
        have hXq := (hXe.out.gr gb).gr gwq
        have hUq := hUt.gr gwq
        have zub : we.heap.size ≤ wb.heap.size := gb.size
        have zua : wo.heap.size ≤ wa.heap.size := ga.size
        have zue : wa.heap.size ≤ we.heap.size := ge.size
        have ztb := hT.out.b.lt
        have zxb : xb = wo.heap.size := hxb.out
        have zhb : hb2 = wa.heap.size := hhb.out
        have hbz : hb2 < we.heap.size := hHe.out.lt
        have xbz : xb < wa.heap.size := hXa.out.lt
        have n1 : xb ≠ tb := by omega
        have n2 : ub ≠ tb := by omega
        have n3 : ub + 1 ≠ tb := by omega
        have n4 : hb2 ≠ tb := by omega
        have tf := fun i => hTq.b.free i
        have htbB : tb < we.heap.size := by omega
        have g2q : Gr w2 wq := (((hg.trans ga).trans ge).trans gb).trans gwq
        have t0 := hTq.b.cell (i := 0) (v := .slice T.an T.N.length T.cn) rfl
        have t1 := hTq.b.cell (i := 1) (v := .slice T.ag T.G.length T.cg) rfl
        have t2 := hTq.b.cell (i := 2) (v := .int .i64 T.last) rfl
        have t3 := hTq.b.cell (i := 3) (v := .int .i64 T.now) rfl
        have u0 := hBwq.cell (i := 0) (v := .slice U.an U.N.length U.cn) rfl
        have u1 := hBwq.cell (i := 1) (v := .slice U.ag U.G.length U.cg) rfl
        have u2 := hBwq.cell (i := 2) (v := .int .i64 U.last) rfl
        have u3 := hBwq.cell (i := 3) (v := .int .i64 U.now) rfl
        replace hub := Lib.hid hub
        replace hwq := Lib.hid hwq
        replace hBwq := Lib.hid hBwq
        replace hRwq := Lib.hid hRwq
        replace hTq := Lib.hid hTq
        replace hHq := Lib.hid hHq
        replace hXq := Lib.hid hXq
        replace hUq := Lib.hid hUq
        replace hUt := Lib.hid hUt
        replace zub := Lib.hid zub
        replace zua := Lib.hid zua
        replace zue := Lib.hid zue
        replace ztb := Lib.hid ztb
        replace zxb := Lib.hid zxb
        replace zhb := Lib.hid zhb
        replace hbz := Lib.hid hbz
        replace xbz := Lib.hid xbz
        replace htbB := Lib.hid htbB
        replace g2q := Lib.hid g2q
        go_upto_region 10 with fail
        rw [← hub.out, ← hwq.out]
        go_upto_region 11 with fail
        obtain ⟨wt, hwt⟩ : ∃ wt, wt = (((wq.setCell ⟨tb, 0, none⟩ (.slice U.an U.N.length U.cn)).setCell ⟨tb, 1, none⟩ (.slice U.ag U.G.length U.cg)).setCell ⟨tb, 2, none⟩ (.int .i64 U.last)).setCell ⟨tb, 3, none⟩ (.int .i64 U.now) := ⟨_, rfl⟩
        rw [← hwt]
        have gxt : GrX [tb] wq wt := by rw [hwt]; exact ((((GrX.refl _ _).set (.inl (by simp)) _).set (.inl (by simp)) _).set (.inl (by simp)) _).set (.inl (by simp)) _
        obtain ⟨hUt3, g2t⟩ := held_set htbB.out hTq.out.b rfl hUq.out hwt g2q.out h2z.out
        have gWt : Gr W wt := g2.trans g2t
        have hHt := hHq.out.grx gxt (fun hm => n4 (List.mem_singleton.1 hm))
        have hXt := hXq.out.grx gxt (fun hm => n1 (List.mem_singleton.1 hm))
        have hRt := hRwq.out.grx gxt (fun hm => n3 (List.mem_singleton.1 hm))
        have hTt := hTq.out.t.grx gxt (fun y hy hk => hk (List.mem_singleton.1 hy))
        clear t0 t1 t2 t3 u0 u1 u2 u3 tf
        have r0 := hRt.cell (i := 0) (v := .int .i64 vc) rfl
        have r1 := hRt.cell (i := 1) (v := .int .i64 vi) rfl
        have x0 := hXt.cell (i := 0) (v := .int .i64 x.e.kd) rfl
        have x1 := hXt.cell (i := 1) (v := .int .i64 x.e.id) rfl
        have x2 := hXt.cell (i := 2) (v := .int .i64 x.e.srv.k) rfl
        have x3 := hXt.cell (i := 3) (v := .int .i64 x.e.srv.q) rfl
        have x4 := hXt.cell (i := 4) (v := .int .i64 x.e.srv.t) rfl
        have x5 := hXt.cell (i := 5) (v := .int .i64 x.e.pol) rfl
        have x6 := hXt.cell (i := 6) (v := .slice x.a x.e.tasks.length x.c) rfl
        have x7 := hXt.cell (i := 7) (v := .int .i64 x.e.at_) rfl
        replace hwt := Lib.hid hwt
        replace gxt := Lib.hid gxt
        replace hUt3 := Lib.hid hUt3
        replace g2t := Lib.hid g2t
        replace hHt := Lib.hid hHt
        replace hXt := Lib.hid hXt
        replace hRt := Lib.hid hRt
        replace hTt := Lib.hid hTt
        replace hU := Lib.hid hU
        by_cases hcd : vc = 0
        · subst hcd
          by_cases hk4 : x.e.kd = 4
          · have t4 : (x.e.kd == 4) = true := by simpa using hk4
            replace hk4 := Lib.hid hk4
            go_wp2_with fail
            go_roundw
            case rel => exact ⟨k + 1, U, by omega, by omega, by go_num, Lib.hid ⟨hUt3.out, by rw [hvn.out]; exact hU.out⟩, g2t.out⟩
            case measure => simp [intOf]; omega
          · have t4 : (x.e.kd == 4) = false := by simpa using hk4
            by_cases hk1 : x.e.kd = 1
            · obtain ⟨p, hpd⟩ : ∃ p, p = x.e.id := ⟨_, rfl⟩
              have hp : p = parI T.v x.e := by unfold parI; rw [if_pos hk1]; exact hpd
              replace hp := Lib.hid hp
              have t1 : (x.e.kd != 1) = false := by simpa using hk1
              have hk1x : x.e.kd = 1 := hk1
              rw [← hpd] at x1
              have t3 : (x.e.kd == 3) = false := by rw [hk1]; decide
              have t3n : (x.e.kd != 3) = true := by rw [hk1]; decide
              replace hk1 := Lib.hid hk1
              replace hk1x := Lib.hid hk1x
              replace hpd := Lib.hid hpd
              go_upto_region 16 with fail
              clear r0 r1 x0 x1 x2 x3 x4 x5 x6 x7
              obtain ⟨hk0, -, hgl⟩ := hgh.out U.v p hk4 (by simp) hU.out hp.out
              have hsu : Sane (k + 1) U.v := by rw [hU.out]; exact hsx.out
              obtain ⟨hsU, _, _, _, _, hun0, hun1, hug⟩ := sane_in hsu (by omega)
              have hUw := hUt3.out.gr (Gr.refl wt)
              have hXw := hXt.out.gr (Gr.refl wt)
              have gWw := gWt.trans (Gr.refl wt)
              have g2w := g2t.out.trans (Gr.refl wt)
              obtain ⟨s, hsd⟩ : ∃ s, s = (U.v.server p).getD rootS := ⟨_, rfl⟩
              obtain ⟨Ls, hLs⟩ : ∃ Ls, Ls = U.v.counted p := ⟨_, rfl⟩
              rw [← hsd, ← hLs] at hk0 hgl
              obtain ⟨dd, hdd⟩ : ∃ dd, dd = drainI s Ls := ⟨_, rfl⟩
              rw [← hdd] at hgl
              have hd1 : 1 ≤ dd := by rw [hdd]; exact drainI_pos _ _
              have hddl : dd ≤ 4096 := by
                rw [hdd]
                unfold drainI
                cases hf : (List.range 4096).find? (fun (k : Nat) => decide (reqsI Ls ((k : Int) + 1) ≤ givI (rowI s) ((k : Int) + 1))) with
                | none => simp
                | some n =>
                  have := List.mem_of_find?_eq_some hf
                  simp at this ⊢
                  omega
              have hLl : Ls.length ≤ 2000000 := by
                have h1 := cntN_len U.N p U.N.length
                have h2 := cntG_len U.G p U.G.length
                have h3 := hUw.t.l1
                have h4 := hUw.t.l2
                rw [hLs, cnt_all, List.length_append]
                omega
              have hsv := server_any U p wt hUw.t.any hsU
              have hdm := fun (w3 : World) (a3 : Option Addr) (k3 : Nat) (gg : Gr W w3) (hl : SrvsAt w3 a3 Ls) => drain_min s a3 Ls k3 w3 (hE.gr gg) i0 i1 i3 hl (by unfold maxLen; omega) hk0
              rw [← hdd] at hdm
              have u0 := hUw.b.cell (i := 0) (v := .slice U.an U.N.length U.cn) rfl
              have u1 := hUw.b.cell (i := 1) (v := .slice U.ag U.G.length U.cg) rfl
              have u2 := hUw.b.cell (i := 2) (v := .int .i64 U.last) rfl
              have u3 := hUw.b.cell (i := 3) (v := .int .i64 U.now) rfl
              replace hUw := Lib.hid hUw
              replace hXw := Lib.hid hXw
              replace hsd := Lib.hid hsd
              replace hLs := Lib.hid hLs
              replace hdd := Lib.hid hdd
              replace hdm := Lib.hid hdm
              replace hsv := Lib.hid hsv
              replace hk0 := Lib.hid hk0
              replace hgl := Lib.hid hgl
              replace hsu := Lib.hid hsu
              replace hsU := Lib.hid hsU
              go_wp2_with fail
              refine hsv.out.mono ?_
              rintro e wh ⟨s2, hs2, rfl, gh⟩
              rw [← hsd.out] at hs2
              subst hs2
              clear u0 u1 u2 u3
              obtain ⟨sb, hsb⟩ : ∃ sb, sb = wh.heap.size := ⟨_, rfl⟩
              obtain ⟨wi, hwi⟩ : ∃ wi, wi = wh.alloc (.cells #[.int .i64 s2.k, .int .i64 s2.q, .int .i64 s2.t] 24) := ⟨_, rfl⟩
              have gi : Gr wh wi := by rw [hwi]; exact (Gr.refl _).alloc _
              have hSi : Blk wi sb #[.int .i64 s2.k, .int .i64 s2.q, .int .i64 s2.t] 24 := by rw [hwi, hsb]; exact Blk.new _ _ _
              have hUi := (hUw.out.gr gh).gr gi
              have hXi := (hXw.out.gr gh).gr gi
              have gWi := (gWw.trans gh).trans gi
              have g2i := (g2w.trans gh).trans gi
              have gdi : Gr wi wi.drew := (Gr.refl wi).drew
              have hcn := counted_any U p wi.drew (hUi.gr gdi).t.any
              rw [← hLs.out] at hcn
              have u0 := hUi.b.cell (i := 0) (v := .slice U.an U.N.length U.cn) rfl
              have u1 := hUi.b.cell (i := 1) (v := .slice U.ag U.G.length U.cg) rfl
              have u2 := hUi.b.cell (i := 2) (v := .int .i64 U.last) rfl
              have u3 := hUi.b.cell (i := 3) (v := .int .i64 U.now) rfl
              have b0 := hSi.cell (i := 0) (v := .int .i64 s2.k) rfl
              have b1 := hSi.cell (i := 1) (v := .int .i64 s2.q) rfl
              have b2 := hSi.cell (i := 2) (v := .int .i64 s2.t) rfl
              replace hsb := Lib.hid hsb
              replace hwi := Lib.hid hwi
              replace hSi := Lib.hid hSi
              replace hUi := Lib.hid hUi
              replace hXi := Lib.hid hXi
              replace hcn := Lib.hid hcn
              go_upto_region 17 with fail
              rw [← hsb.out, ← hwi.out]
              go_region_held3 (fun w' => w'.cell? ⟨tb, 0, none⟩ = some (.slice U.an U.N.length U.cn) ∧ w'.cell? ⟨tb, 1, none⟩ = some (.slice U.ag U.G.length U.cg) ∧ w'.cell? ⟨tb, 2, none⟩ = some (.int .i64 U.last) ∧ w'.cell? ⟨tb, 3, none⟩ = some (.int .i64 U.now) ∧ w'.cell? ⟨sb, 0, none⟩ = some (.int .i64 s2.k) ∧ w'.cell? ⟨sb, 1, none⟩ = some (.int .i64 s2.q) ∧ w'.cell? ⟨sb, 2, none⟩ = some (.int .i64 s2.t)) (simp (maxDischargeDepth := 8) [go_sem, *])
                (first
                  | (go_at_call 13; (with_reducible refine hcn.out.mono ?_); rintro e wj ⟨a8, k8, rfl, hLo, g8⟩; have hUj := hUi.out.gr (gdi.trans g8); have hSj := hSi.out.gr (gdi.trans g8); have hXj := hXi.out.gr (gdi.trans g8); have gWj := gWi.trans (gdi.trans g8); have g2j := g2i.trans (gdi.trans g8); have v0 := hUj.b.cell (i := 0) (v := .slice U.an U.N.length U.cn) rfl; have v1 := hUj.b.cell (i := 1) (v := .slice U.ag U.G.length U.cg) rfl; have v2 := hUj.b.cell (i := 2) (v := .int .i64 U.last) rfl; have v3 := hUj.b.cell (i := 3) (v := .int .i64 U.now) rfl; have e0 := hSj.cell (i := 0) (v := .int .i64 s2.k) rfl; have e1 := hSj.cell (i := 1) (v := .int .i64 s2.q) rfl; have e2 := hSj.cell (i := 2) (v := .int .i64 s2.t) rfl; replace hUj := Lib.hid hUj; replace hSj := Lib.hid hSj; replace hXj := Lib.hid hXj; replace hLo := Lib.hid hLo)
                  | (go_at_call 12; (with_reducible refine (hdm.out wj a8 k8 gWj (owns_srvs hLo.out)).mono ?_); rintro e wl ⟨rfl, g9⟩; have hUl := hUj.out.gr (g9); have hSl := hSj.out.gr (g9); have hXl := hXj.out.gr (g9); have gWl := gWj.trans (g9); have g2l := g2j.trans (g9); have y0 := hUl.b.cell (i := 0) (v := .slice U.an U.N.length U.cn) rfl; have y1 := hUl.b.cell (i := 1) (v := .slice U.ag U.G.length U.cg) rfl; have y2 := hUl.b.cell (i := 2) (v := .int .i64 U.last) rfl; have y3 := hUl.b.cell (i := 3) (v := .int .i64 U.now) rfl; have f0 := hSl.cell (i := 0) (v := .int .i64 s2.k) rfl; have f1 := hSl.cell (i := 1) (v := .int .i64 s2.q) rfl; have f2 := hSl.cell (i := 2) (v := .int .i64 s2.t) rfl; replace hUl := Lib.hid hUl; replace hSl := Lib.hid hSl; replace hXl := Lib.hid hXl)
                  | fail)
              clear u0 u1 u2 u3 v0 v1 v2 v3 y0 y1 y2 y3 b0 b1 b2 e0 e1 e2 f0 f1 f2
              have td : ¬ ((dd : Int) < 1) := by omega
              have tdb : decide ((dd : Int) < 1) = false := decide_eq_false td
              have hwr : IntKind.i64.wrap (U.now + (dd : Int)) = U.now + dd := by rw [IntKind.wrap_i64] <;> omega
              have hwl : IntKind.i64.wrap ((U.G.length : Int) - 1) = (U.G.length : Int) - 1 := by rw [IntKind.wrap_i64] <;> omega
              have u0 := hUl.out.b.cell (i := 0) (v := .slice U.an U.N.length U.cn) rfl
              have u1 := hUl.out.b.cell (i := 1) (v := .slice U.ag U.G.length U.cg) rfl
              have u2 := hUl.out.b.cell (i := 2) (v := .int .i64 U.last) rfl
              have u3 := hUl.out.b.cell (i := 3) (v := .int .i64 U.now) rfl
              go_wp2_with fail
              clear u0 u1 u2 u3
              go_loopw [84] (fun iv wr => ∃ j : Nat, j ≤ U.G.length ∧ iv = .int .i64 j ∧ Gr wl wr) (fun iv _ => U.G.length - (intOf iv).toNat)
              case atStart => exact ⟨0, Nat.zero_le _, rfl, Gr.refl _⟩
              case round =>
                obtain ⟨j, hj, rfl, hg2⟩ := hrel
                obtain ⟨wp, rfl⟩ : ∃ wp : World, wp = wr := ⟨wr, rfl⟩
                have hUp := hUl.out.gr hg2
                have hXp := hXl.out.gr hg2
                by_cases hlj : j < U.G.length
                · obtain ⟨g, hgx⟩ := get_some U.G j hlj
                  obtain ⟨b2, off2, hag, hb2, _, d0, d1, d2, d3, d4⟩ := gh_get hUp.t.any.g hgx
                  obtain ⟨gb2, hgb⟩ : ∃ gb2, gb2 = wp.heap.size := ⟨_, rfl⟩
                  obtain ⟨wz, hwz⟩ : ∃ wz, wz = wp.alloc (.cells #[.int .i64 g.par, .int .i64 g.srv.k, .int .i64 g.srv.q, .int .i64 g.srv.t, .int .i64 g.till] 39) := ⟨_, rfl⟩
                  have gz : Gr wp wz := by rw [hwz]; exact (Gr.refl _).alloc _
                  have hXz : Blk wz gb2 #[.int .i64 g.par, .int .i64 g.srv.k, .int .i64 g.srv.q, .int .i64 g.srv.t, .int .i64 g.till] 39 := by rw [hwz, hgb]; exact Blk.new _ _ _
                  have hUz := hUp.gr gz
                  have hOz := hXp.gr gz
                  have tj : (j : Int) < U.G.length := by omega
                  have u0 := hUz.b.cell (i := 0) (v := .slice U.an U.N.length U.cn) rfl
                  have u1 := hUz.b.cell (i := 1) (v := .slice U.ag U.G.length U.cg) rfl
                  have u2 := hUz.b.cell (i := 2) (v := .int .i64 U.last) rfl
                  have u3 := hUz.b.cell (i := 3) (v := .int .i64 U.now) rfl
                  have y0 := hXz.cell (i := 0) (v := .int .i64 g.par) rfl
                  have y1 := hXz.cell (i := 1) (v := .int .i64 g.srv.k) rfl
                  have y2 := hXz.cell (i := 2) (v := .int .i64 g.srv.q) rfl
                  have y3 := hXz.cell (i := 3) (v := .int .i64 g.srv.t) rfl
                  have y4 := hXz.cell (i := 4) (v := .int .i64 g.till) rfl
                  have x0 := hOz.cell (i := 0) (v := .int .i64 x.e.kd) rfl
                  have x1 := hOz.cell (i := 1) (v := .int .i64 x.e.id) rfl
                  have x2 := hOz.cell (i := 2) (v := .int .i64 x.e.srv.k) rfl
                  have x3 := hOz.cell (i := 3) (v := .int .i64 x.e.srv.q) rfl
                  have x4 := hOz.cell (i := 4) (v := .int .i64 x.e.srv.t) rfl
                  have x5 := hOz.cell (i := 5) (v := .int .i64 x.e.pol) rfl
                  have x6 := hOz.cell (i := 6) (v := .slice x.a x.e.tasks.length x.c) rfl
                  have x7 := hOz.cell (i := 7) (v := .int .i64 x.e.at_) rfl
                  replace hUp := Lib.hid hUp
                  replace hXp := Lib.hid hXp
                  replace hXz := Lib.hid hXz
                  replace hUz := Lib.hid hUz
                  replace hOz := Lib.hid hOz
                  replace hgx := Lib.hid hgx
                  replace hgb := Lib.hid hgb
                  replace hwz := Lib.hid hwz
                  go_upto_region 23 with fail
                  rw [← hgb.out, ← hwz.out]
                  by_cases hgp : g.par = p
                  · have tp : (g.par != p) = false := by simpa using hgp
                    have tl : ¬ g.till < U.now + dd := by have := hgl.out j g hgx.out hgp (.inl (by have := hk1.out; omega)); omega
                    have tlb : decide (g.till < U.now + dd) = false := decide_eq_false tl
                    replace hgp := Lib.hid hgp
                    go_wp2_with fail
                    go_roundw
                    case rel => exact ⟨j + 1, by omega, by go_num, hg2.trans gz⟩
                    case measure => simp [intOf]; omega
                  · have tp : (g.par != p) = true := by simpa using hgp
                    replace hgp := Lib.hid hgp
                    go_wp2_with fail
                    go_roundw
                    case rel => exact ⟨j + 1, by omega, by go_num, hg2.trans gz⟩
                    case measure => simp [intOf]; omega
                · have tj : ¬ (j : Int) < U.G.length := by omega
                  have tjb : decide ((j : Int) < U.G.length) = false := decide_eq_false tj
                  replace hXp := Lib.hid hXp
                  go_wp2_with fail
                  go_roundw
                  case rel => exact ⟨k + 1, U, by omega, by omega, by go_num, Lib.hid ⟨hUp, by rw [hvn.out]; exact hU.out⟩, g2l.trans hg2⟩
                  case measure => simp [intOf]; omega
            · have t1 : (x.e.kd != 1) = true := by simpa using hk1
              have hfd := find_any T x.e.id wt hTt.out.any hsT.out
              have h0 := hHt.out.cell (i := 0) (v := .slice T.an T.N.length T.cn) rfl
              have h1 := hHt.out.cell (i := 1) (v := .slice T.ag T.G.length T.cg) rfl
              have h2 := hHt.out.cell (i := 2) (v := .int .i64 T.last) rfl
              have h3 := hHt.out.cell (i := 3) (v := .int .i64 T.now) rfl
              replace hfd := Lib.hid hfd
              go_wp2_with fail
              refine hfd.out.mono ?_
              rintro e wf ⟨nd, na, nc, hnd, rfl, gf⟩
              have hp0 := par_find hk1 hnd
              obtain ⟨fb, hfb⟩ : ∃ fb, fb = wf.heap.size := ⟨_, rfl⟩
              obtain ⟨wg, hwg⟩ : ∃ wg, wg = wf.alloc (.cells #[.int .i64 nd.id, .int .i64 nd.par, .int .i64 nd.srv.k, .int .i64 nd.srv.q, .int .i64 nd.srv.t, .int .i64 nd.pol, .slice na nd.tasks.length nc] 42) := ⟨_, rfl⟩
              have gg : Gr wf wg := by rw [hwg]; exact (Gr.refl _).alloc _
              have hFg : Blk wg fb #[.int .i64 nd.id, .int .i64 nd.par, .int .i64 nd.srv.k, .int .i64 nd.srv.q, .int .i64 nd.srv.t, .int .i64 nd.pol, .slice na nd.tasks.length nc] 42 := by rw [hwg, hfb]; exact Blk.new _ _ _
              obtain ⟨p, hpd⟩ : ∃ p, p = nd.par := ⟨_, rfl⟩
              have hp : p = parI T.v x.e := hpd.trans hp0
              replace hp := Lib.hid hp
              have f1 := hFg.cell (i := 1) (v := .int .i64 nd.par) rfl
              rw [← hpd] at f1
              have gfg := gf.trans gg
              replace hFg := Lib.hid hFg
              replace hfb := Lib.hid hfb
              replace hwg := Lib.hid hwg
              replace hpd := Lib.hid hpd
              replace hnd := Lib.hid hnd
              replace hp0 := Lib.hid hp0
              replace hk1 := Lib.hid hk1
              clear h0 h1 h2 h3 x0 x1 x2 x3 x4 x5 x6 x7 r0 r1
              go_upto_region 15 with fail
              rw [← hfb.out, ← hwg.out]
              go_upto_region 16 with fail
              clear f1
              obtain ⟨hk0, -, hgl⟩ := hgh.out U.v p hk4 (by simp) hU.out hp.out
              have hsu : Sane (k + 1) U.v := by rw [hU.out]; exact hsx.out
              obtain ⟨hsU, _, _, _, _, hun0, hun1, hug⟩ := sane_in hsu (by omega)
              have hUw := hUt3.out.gr gfg
              have hXw := hXt.out.gr gfg
              have gWw := gWt.trans gfg
              have g2w := g2t.out.trans gfg
              obtain ⟨s, hsd⟩ : ∃ s, s = (U.v.server p).getD rootS := ⟨_, rfl⟩
              obtain ⟨Ls, hLs⟩ : ∃ Ls, Ls = U.v.counted p := ⟨_, rfl⟩
              rw [← hsd, ← hLs] at hk0 hgl
              obtain ⟨dd, hdd⟩ : ∃ dd, dd = drainI s Ls := ⟨_, rfl⟩
              rw [← hdd] at hgl
              have hd1 : 1 ≤ dd := by rw [hdd]; exact drainI_pos _ _
              have hddl : dd ≤ 4096 := by
                rw [hdd]
                unfold drainI
                cases hf : (List.range 4096).find? (fun (k : Nat) => decide (reqsI Ls ((k : Int) + 1) ≤ givI (rowI s) ((k : Int) + 1))) with
                | none => simp
                | some n =>
                  have := List.mem_of_find?_eq_some hf
                  simp at this ⊢
                  omega
              have hLl : Ls.length ≤ 2000000 := by
                have h1 := cntN_len U.N p U.N.length
                have h2 := cntG_len U.G p U.G.length
                have h3 := hUw.t.l1
                have h4 := hUw.t.l2
                rw [hLs, cnt_all, List.length_append]
                omega
              have hsv := server_any U p wg hUw.t.any hsU
              have hdm := fun (w3 : World) (a3 : Option Addr) (k3 : Nat) (gg : Gr W w3) (hl : SrvsAt w3 a3 Ls) => drain_min s a3 Ls k3 w3 (hE.gr gg) i0 i1 i3 hl (by unfold maxLen; omega) hk0
              rw [← hdd] at hdm
              have u0 := hUw.b.cell (i := 0) (v := .slice U.an U.N.length U.cn) rfl
              have u1 := hUw.b.cell (i := 1) (v := .slice U.ag U.G.length U.cg) rfl
              have u2 := hUw.b.cell (i := 2) (v := .int .i64 U.last) rfl
              have u3 := hUw.b.cell (i := 3) (v := .int .i64 U.now) rfl
              replace hUw := Lib.hid hUw
              replace hXw := Lib.hid hXw
              replace hsd := Lib.hid hsd
              replace hLs := Lib.hid hLs
              replace hdd := Lib.hid hdd
              replace hdm := Lib.hid hdm
              replace hsv := Lib.hid hsv
              replace hk0 := Lib.hid hk0
              replace hgl := Lib.hid hgl
              replace hsu := Lib.hid hsu
              replace hsU := Lib.hid hsU
              go_wp2_with fail
              refine hsv.out.mono ?_
              rintro e wh ⟨s2, hs2, rfl, gh⟩
              rw [← hsd.out] at hs2
              subst hs2
              clear u0 u1 u2 u3
              obtain ⟨sb, hsb⟩ : ∃ sb, sb = wh.heap.size := ⟨_, rfl⟩
              obtain ⟨wi, hwi⟩ : ∃ wi, wi = wh.alloc (.cells #[.int .i64 s2.k, .int .i64 s2.q, .int .i64 s2.t] 24) := ⟨_, rfl⟩
              have gi : Gr wh wi := by rw [hwi]; exact (Gr.refl _).alloc _
              have hSi : Blk wi sb #[.int .i64 s2.k, .int .i64 s2.q, .int .i64 s2.t] 24 := by rw [hwi, hsb]; exact Blk.new _ _ _
              have hUi := (hUw.out.gr gh).gr gi
              have hXi := (hXw.out.gr gh).gr gi
              have gWi := (gWw.trans gh).trans gi
              have g2i := (g2w.trans gh).trans gi
              have gdi : Gr wi wi.drew := (Gr.refl wi).drew
              have hcn := counted_any U p wi.drew (hUi.gr gdi).t.any
              rw [← hLs.out] at hcn
              have u0 := hUi.b.cell (i := 0) (v := .slice U.an U.N.length U.cn) rfl
              have u1 := hUi.b.cell (i := 1) (v := .slice U.ag U.G.length U.cg) rfl
              have u2 := hUi.b.cell (i := 2) (v := .int .i64 U.last) rfl
              have u3 := hUi.b.cell (i := 3) (v := .int .i64 U.now) rfl
              have b0 := hSi.cell (i := 0) (v := .int .i64 s2.k) rfl
              have b1 := hSi.cell (i := 1) (v := .int .i64 s2.q) rfl
              have b2 := hSi.cell (i := 2) (v := .int .i64 s2.t) rfl
              replace hsb := Lib.hid hsb
              replace hwi := Lib.hid hwi
              replace hSi := Lib.hid hSi
              replace hUi := Lib.hid hUi
              replace hXi := Lib.hid hXi
              replace hcn := Lib.hid hcn
              go_upto_region 17 with fail
              rw [← hsb.out, ← hwi.out]
              go_region_held3 (fun w' => w'.cell? ⟨tb, 0, none⟩ = some (.slice U.an U.N.length U.cn) ∧ w'.cell? ⟨tb, 1, none⟩ = some (.slice U.ag U.G.length U.cg) ∧ w'.cell? ⟨tb, 2, none⟩ = some (.int .i64 U.last) ∧ w'.cell? ⟨tb, 3, none⟩ = some (.int .i64 U.now) ∧ w'.cell? ⟨sb, 0, none⟩ = some (.int .i64 s2.k) ∧ w'.cell? ⟨sb, 1, none⟩ = some (.int .i64 s2.q) ∧ w'.cell? ⟨sb, 2, none⟩ = some (.int .i64 s2.t)) (simp (maxDischargeDepth := 8) [go_sem, *])
                (first
                  | (go_at_call 13; (with_reducible refine hcn.out.mono ?_); rintro e wj ⟨a8, k8, rfl, hLo, g8⟩; have hUj := hUi.out.gr (gdi.trans g8); have hSj := hSi.out.gr (gdi.trans g8); have hXj := hXi.out.gr (gdi.trans g8); have gWj := gWi.trans (gdi.trans g8); have g2j := g2i.trans (gdi.trans g8); have v0 := hUj.b.cell (i := 0) (v := .slice U.an U.N.length U.cn) rfl; have v1 := hUj.b.cell (i := 1) (v := .slice U.ag U.G.length U.cg) rfl; have v2 := hUj.b.cell (i := 2) (v := .int .i64 U.last) rfl; have v3 := hUj.b.cell (i := 3) (v := .int .i64 U.now) rfl; have e0 := hSj.cell (i := 0) (v := .int .i64 s2.k) rfl; have e1 := hSj.cell (i := 1) (v := .int .i64 s2.q) rfl; have e2 := hSj.cell (i := 2) (v := .int .i64 s2.t) rfl; replace hUj := Lib.hid hUj; replace hSj := Lib.hid hSj; replace hXj := Lib.hid hXj; replace hLo := Lib.hid hLo)
                  | (go_at_call 12; (with_reducible refine (hdm.out wj a8 k8 gWj (owns_srvs hLo.out)).mono ?_); rintro e wl ⟨rfl, g9⟩; have hUl := hUj.out.gr (g9); have hSl := hSj.out.gr (g9); have hXl := hXj.out.gr (g9); have gWl := gWj.trans (g9); have g2l := g2j.trans (g9); have y0 := hUl.b.cell (i := 0) (v := .slice U.an U.N.length U.cn) rfl; have y1 := hUl.b.cell (i := 1) (v := .slice U.ag U.G.length U.cg) rfl; have y2 := hUl.b.cell (i := 2) (v := .int .i64 U.last) rfl; have y3 := hUl.b.cell (i := 3) (v := .int .i64 U.now) rfl; have f0 := hSl.cell (i := 0) (v := .int .i64 s2.k) rfl; have f1 := hSl.cell (i := 1) (v := .int .i64 s2.q) rfl; have f2 := hSl.cell (i := 2) (v := .int .i64 s2.t) rfl; replace hUl := Lib.hid hUl; replace hSl := Lib.hid hSl; replace hXl := Lib.hid hXl)
                  | fail)
              clear u0 u1 u2 u3 v0 v1 v2 v3 y0 y1 y2 y3 b0 b1 b2 e0 e1 e2 f0 f1 f2
              have td : ¬ ((dd : Int) < 1) := by omega
              have tdb : decide ((dd : Int) < 1) = false := decide_eq_false td
              have hwr : IntKind.i64.wrap (U.now + (dd : Int)) = U.now + dd := by rw [IntKind.wrap_i64] <;> omega
              have hwl : IntKind.i64.wrap ((U.G.length : Int) - 1) = (U.G.length : Int) - 1 := by rw [IntKind.wrap_i64] <;> omega
              have u0 := hUl.out.b.cell (i := 0) (v := .slice U.an U.N.length U.cn) rfl
              have u1 := hUl.out.b.cell (i := 1) (v := .slice U.ag U.G.length U.cg) rfl
              have u2 := hUl.out.b.cell (i := 2) (v := .int .i64 U.last) rfl
              have u3 := hUl.out.b.cell (i := 3) (v := .int .i64 U.now) rfl
              go_wp2_with fail
              clear u0 u1 u2 u3
              go_loopw [84] (fun iv wr => ∃ j : Nat, j ≤ U.G.length ∧ iv = .int .i64 j ∧ Gr wl wr) (fun iv _ => U.G.length - (intOf iv).toNat)
              case atStart => exact ⟨0, Nat.zero_le _, rfl, Gr.refl _⟩
              case round =>
                obtain ⟨j, hj, rfl, hg2⟩ := hrel
                obtain ⟨wp, rfl⟩ : ∃ wp : World, wp = wr := ⟨wr, rfl⟩
                have hUp := hUl.out.gr hg2
                have hXp := hXl.out.gr hg2
                by_cases hlj : j < U.G.length
                · obtain ⟨g, hgx⟩ := get_some U.G j hlj
                  obtain ⟨b2, off2, hag, hb2, _, d0, d1, d2, d3, d4⟩ := gh_get hUp.t.any.g hgx
                  obtain ⟨gb2, hgb⟩ : ∃ gb2, gb2 = wp.heap.size := ⟨_, rfl⟩
                  obtain ⟨wz, hwz⟩ : ∃ wz, wz = wp.alloc (.cells #[.int .i64 g.par, .int .i64 g.srv.k, .int .i64 g.srv.q, .int .i64 g.srv.t, .int .i64 g.till] 39) := ⟨_, rfl⟩
                  have gz : Gr wp wz := by rw [hwz]; exact (Gr.refl _).alloc _
                  have hXz : Blk wz gb2 #[.int .i64 g.par, .int .i64 g.srv.k, .int .i64 g.srv.q, .int .i64 g.srv.t, .int .i64 g.till] 39 := by rw [hwz, hgb]; exact Blk.new _ _ _
                  have hUz := hUp.gr gz
                  have hOz := hXp.gr gz
                  have tj : (j : Int) < U.G.length := by omega
                  have u0 := hUz.b.cell (i := 0) (v := .slice U.an U.N.length U.cn) rfl
                  have u1 := hUz.b.cell (i := 1) (v := .slice U.ag U.G.length U.cg) rfl
                  have u2 := hUz.b.cell (i := 2) (v := .int .i64 U.last) rfl
                  have u3 := hUz.b.cell (i := 3) (v := .int .i64 U.now) rfl
                  have y0 := hXz.cell (i := 0) (v := .int .i64 g.par) rfl
                  have y1 := hXz.cell (i := 1) (v := .int .i64 g.srv.k) rfl
                  have y2 := hXz.cell (i := 2) (v := .int .i64 g.srv.q) rfl
                  have y3 := hXz.cell (i := 3) (v := .int .i64 g.srv.t) rfl
                  have y4 := hXz.cell (i := 4) (v := .int .i64 g.till) rfl
                  have x0 := hOz.cell (i := 0) (v := .int .i64 x.e.kd) rfl
                  have x1 := hOz.cell (i := 1) (v := .int .i64 x.e.id) rfl
                  have x2 := hOz.cell (i := 2) (v := .int .i64 x.e.srv.k) rfl
                  have x3 := hOz.cell (i := 3) (v := .int .i64 x.e.srv.q) rfl
                  have x4 := hOz.cell (i := 4) (v := .int .i64 x.e.srv.t) rfl
                  have x5 := hOz.cell (i := 5) (v := .int .i64 x.e.pol) rfl
                  have x6 := hOz.cell (i := 6) (v := .slice x.a x.e.tasks.length x.c) rfl
                  have x7 := hOz.cell (i := 7) (v := .int .i64 x.e.at_) rfl
                  replace hUp := Lib.hid hUp
                  replace hXp := Lib.hid hXp
                  replace hXz := Lib.hid hXz
                  replace hUz := Lib.hid hUz
                  replace hOz := Lib.hid hOz
                  replace hgx := Lib.hid hgx
                  replace hgb := Lib.hid hgb
                  replace hwz := Lib.hid hwz
                  go_upto_region 23 with fail
                  rw [← hgb.out, ← hwz.out]
                  by_cases hgp : g.par = p
                  · have tp : (g.par != p) = false := by simpa using hgp
                    by_cases hk3 : x.e.kd = 3
                    · have t3 : (x.e.kd == 3) = true := by simpa using hk3
                      have t3n : (x.e.kd != 3) = false := by simpa using hk3
                      by_cases hjl : j + 1 = U.G.length
                      · have tl : ¬ g.till < U.now + dd := by have := hgl.out j g hgx.out hgp (.inr hjl); omega
                        have tlb : decide (g.till < U.now + dd) = false := decide_eq_false tl
                        have tjl : ((j : Int) == (U.G.length : Int) - 1) = true := by simp; omega
                        replace hgp := Lib.hid hgp
                        replace hjl := Lib.hid hjl
                        replace hk3 := Lib.hid hk3
                        go_wp2_with fail
                        go_roundw
                        case rel => exact ⟨j + 1, by omega, by go_num, hg2.trans gz⟩
                        case measure => simp [intOf]; omega
                      · have tjl : ((j : Int) == (U.G.length : Int) - 1) = false := by simp; omega
                        replace hgp := Lib.hid hgp
                        replace hjl := Lib.hid hjl
                        replace hk3 := Lib.hid hk3
                        go_wp2_with fail
                        go_roundw
                        case rel => exact ⟨j + 1, by omega, by go_num, hg2.trans gz⟩
                        case measure => simp [intOf]; omega
                    · have t3 : (x.e.kd == 3) = false := by simpa using hk3
                      have t3n : (x.e.kd != 3) = true := by simpa using hk3
                      have tl : ¬ g.till < U.now + dd := by have := hgl.out j g hgx.out hgp (.inl hk3); omega
                      have tlb : decide (g.till < U.now + dd) = false := decide_eq_false tl
                      replace hgp := Lib.hid hgp
                      replace hk3 := Lib.hid hk3
                      go_wp2_with fail
                      go_roundw
                      case rel => exact ⟨j + 1, by omega, by go_num, hg2.trans gz⟩
                      case measure => simp [intOf]; omega
                  · have tp : (g.par != p) = true := by simpa using hgp
                    replace hgp := Lib.hid hgp
                    go_wp2_with fail
                    go_roundw
                    case rel => exact ⟨j + 1, by omega, by go_num, hg2.trans gz⟩
                    case measure => simp [intOf]; omega
                · have tj : ¬ (j : Int) < U.G.length := by omega
                  have tjb : decide ((j : Int) < U.G.length) = false := decide_eq_false tj
                  replace hXp := Lib.hid hXp
                  go_wp2_with fail
                  go_roundw
                  case rel => exact ⟨k + 1, U, by omega, by omega, by go_num, Lib.hid ⟨hUp, by rw [hvn.out]; exact hU.out⟩, g2l.trans hg2⟩
                  case measure => simp [intOf]; omega
        · have tc : (vc != 0) = true := by simpa using hcd
          go_wp2_with fail
          go_roundw
          case rel => exact ⟨k + 1, U, by omega, by omega, by go_num, Lib.hid ⟨hUt3.out, by rw [hvn.out]; exact hU.out⟩, g2t.out⟩
          case measure => simp [intOf]; omega
      · have t60 : (60 : Int) ≤ (k : Int) := by omega
        have t60b : decide ((60 : Int) ≤ (k : Int)) = true := decide_eq_true t60
        obtain ⟨xb, hxb⟩ : ∃ xb, xb = wo.heap.size := ⟨_, rfl⟩
        obtain ⟨wa, hwa⟩ : ∃ wa, wa = wo.alloc (.cells #[.int .i64 x.e.kd, .int .i64 x.e.id, .int .i64 x.e.srv.k, .int .i64 x.e.srv.q, .int .i64 x.e.srv.t, .int .i64 x.e.pol, .slice x.a x.e.tasks.length x.c, .int .i64 x.e.at_] 27) := ⟨_, rfl⟩
        have ga : Gr wo wa := by rw [hwa]; exact (Gr.refl _).alloc _
        have hXa : Blk wa xb #[.int .i64 x.e.kd, .int .i64 x.e.id, .int .i64 x.e.srv.k, .int .i64 x.e.srv.q, .int .i64 x.e.srv.t, .int .i64 x.e.pol, .slice x.a x.e.tasks.length x.c, .int .i64 x.e.at_] 27 := by rw [hwa, hxb]; exact Blk.new _ _ _
        have hTa := hT.gr ga
        have gWa := gWr.trans ga
        replace hwa := Lib.hid hwa
        replace hxb := Lib.hid hxb
        replace hXa := Lib.hid hXa
        replace hTa := Lib.hid hTa
        replace hT := Lib.hid hT
        replace hv := Lib.hid hv
        replace hxi := Lib.hid hxi
        replace hxk := Lib.hid hxk
        go_wp2_with fail
        go_ret
        rw [← hwa.out]
        exact ⟨rfl, gWa⟩
    · have hti : ¬ (k : Int) < L.length := by omega
      have htib : decide ((k : Int) < L.length) = false := decide_eq_false hti
      replace hT := Lib.hid hT
      replace hv := Lib.hid hv
      go_wp2_with fail
      go_ret
      exact ⟨rfl, gWr⟩
end Go.Proofs.YtanfgipanfjcoaaDoor
