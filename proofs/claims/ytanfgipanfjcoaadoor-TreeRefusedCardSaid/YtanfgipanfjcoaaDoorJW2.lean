/- TreeRefused: the walk. Printed by gen_w2.py. -/
import Derived.Test.YtanfgipanfjcoaaDoorJ36
namespace Go.Proofs.YtanfgipanfjcoaaDoor
open Go.RowKit

theorem filter_at {α : Type} {p : α → Bool} {l : List α} {k : Nat} {x : α} (hx : l[k]? = some x) (hp : p x = true) : (l.filter p)[((l.take k).filter p).length]? = some x := by
  obtain ⟨h3, h4⟩ := List.getElem?_eq_some_iff.1 hx
  have h1 : l.filter p = (l.take k).filter p ++ x :: (l.drop (k + 1)).filter p := by
    conv => lhs; rw [← List.take_append_drop k l, List.drop_eq_getElem_cons h3, h4]
    rw [List.filter_append, List.filter_cons, if_pos hp]
  rw [h1, List.getElem?_append_right (Nat.le_refl _), Nat.sub_self]
  rfl
theorem take_min {L : List OrM} {k m : Nat} {x : OrM} (hx : L[k]? = some x) (hk : k < m) : (L.take (min (k + 1) m)).map (·.e) = (L.take (min k m)).map (·.e) ++ [x.e] := by
  rw [show min (k + 1) m = k + 1 by omega, show min k m = k by omega, take_snoc hx, List.map_append]
  rfl
theorem made_in {L : List OrM} {m : Nat} {T : TM} (h : T.v = madeV ((L.take m).map (·.e))) : Sane m T.v ∧ Fit T.v ∧ Live T.v := by
  rw [h]
  refine ⟨(sane_made _).more ?_, fit_made _, live_made _⟩
  rw [List.length_map, List.length_take]
  omega
set_option maxRecDepth 100000 in
set_option maxHeartbeats 12800000 in
theorem treeRefused_any {G : List Nat} {E : Nat → Addr} (W : World) (hE : EAt G E W) (i0 : 3 ∈ G) (i1 : 0 ∈ G) (i3 : 2 ∈ G) (i4 : 4 ∈ G) (a : Option Addr) (c : Nat) (L : List OrM) (hL : OrsAt W a L) (hz : L.length ≤ maxLen) (o : OrM) (hoi : OrI o.e) (hok : o.ok W) :
    Calls Tryd.prog 3 #[.slice a L.length c, .agg #[.int .i64 o.e.kd, .int .i64 o.e.id, .int .i64 o.e.srv.k, .int .i64 o.e.srv.q, .int .i64 o.e.srv.t, .int .i64 o.e.pol, .slice o.a o.e.tasks.length o.c, .int .i64 o.e.at_]] W fun e w' => e = .returned (.bool true) ∧ Gr W w' := by
  unfold maxLen at hz
  obtain ⟨W1, hW1⟩ : ∃ W1, W1 = W.alloc (.cells #[.int .i64 o.e.kd, .int .i64 o.e.id, .int .i64 o.e.srv.k, .int .i64 o.e.srv.q, .int .i64 o.e.srv.t, .int .i64 o.e.pol, .slice o.a o.e.tasks.length o.c, .int .i64 o.e.at_] 27) := ⟨_, rfl⟩
  have gW1 : Gr W W1 := by rw [hW1]; exact (Gr.refl W).alloc _
  have hO1 : Blk W1 W.heap.size #[.int .i64 o.e.kd, .int .i64 o.e.id, .int .i64 o.e.srv.k, .int .i64 o.e.srv.q, .int .i64 o.e.srv.t, .int .i64 o.e.pol, .slice o.a o.e.tasks.length o.c, .int .i64 o.e.at_] 27 := by rw [hW1]; exact Blk.new _ _ _
  have hal := alive13_any W1 (hE.gr gW1) i0 i1 i3 i4
  replace hW1 := Lib.hid hW1
  replace hO1 := Lib.hid hO1
  replace hal := Lib.hid hal
  replace hL := Lib.hid hL
  go_enter Tryd.func3, Tryd.ntmps3
  go_upto_region 1 with fail
  rw [← hW1.out]
  go_wp2_with fail
  refine hal.out.mono ?_
  rintro e w2 ⟨rfl, g2⟩
  clear hal
  obtain ⟨tb, htb⟩ : ∃ tb, tb = w2.heap.size := ⟨_, rfl⟩
  obtain ⟨w3, hw3⟩ : ∃ w3, w3 = w2.alloc (.cells #[.slice none 0 0, .slice none 0 0, .int .i64 0, .int .i64 0] 32) := ⟨_, rfl⟩
  have g3 : Gr w2 w3 := by rw [hw3]; exact (Gr.refl _).alloc _
  have hB3 : Blk w3 tb #[.slice none 0 0, .slice none 0 0, .int .i64 0, .int .i64 0] 32 := by rw [hw3, htb]; exact Blk.new _ _ _
  have gW3 : Gr W w3 := (gW1.trans g2).trans g3
  have hT3 : Held w3 tb ⟨[], none, 0, [], none, 0, 0, 0⟩ := ⟨hB3, TreeAt.none _ _ _ _⟩
  have htz : W.heap.size < tb := by rw [htb]; have := g2.size; have := hO1.out.lt; omega
  have h2z : w2.heap.size ≤ tb := by omega
  replace htb := Lib.hid htb
  replace hw3 := Lib.hid hw3
  replace hB3 := Lib.hid hB3
  replace hT3 := Lib.hid hT3
  replace h2z := Lib.hid h2z
  go_upto_region 4 with fail
  rw [← htb.out, ← hw3.out]
  go_wp2_with fail
  go_loopw [18] (fun iv wr => ∃ (k : Nat) (T : TM), k ≤ L.length ∧ iv = .int .i64 k ∧ Hid (Held wr tb T ∧ T.v = madeV ((L.take (min k 60)).map (·.e))) ∧ Gr w2 wr) (fun iv _ => L.length - (intOf iv).toNat)
  case atStart => exact ⟨0, ⟨[], none, 0, [], none, 0, 0, 0⟩, Nat.zero_le _, rfl, Lib.hid ⟨hT3.out, rfl⟩, g3⟩
  case round =>
    obtain ⟨k, T, hk, rfl, hI, hg⟩ := hrel
    obtain ⟨hT, hv⟩ := hI.out
    clear hI
    have gWr : Gr W wr := (gW1.trans g2).trans hg
    obtain ⟨wo, rfl⟩ : ∃ wo : World, wo = wr := ⟨wr, rfl⟩
    by_cases hlt : k < L.length
    · obtain ⟨x, hx⟩ := get_some L k hlt
      obtain ⟨b, off, rfl, hb, d0, d1, d2, d3, d4, d5, d6, d7⟩ := or_get (RecsIn.grx hL.out.r (gWr.x []) (fun _ h => by cases h)) hx
      have hxm := get_mem hx
      replace hx := Lib.hid hx
      by_cases hl6 : k < 60
      · have t60 : (k : Int) < 60 := by omega
        have hmk := made_in (m := min k 60) hv
        obtain ⟨xb, hxb⟩ : ∃ xb, xb = wo.heap.size := ⟨_, rfl⟩
        obtain ⟨wa, hwa⟩ : ∃ wa, wa = wo.alloc (.cells #[.int .i64 x.e.kd, .int .i64 x.e.id, .int .i64 x.e.srv.k, .int .i64 x.e.srv.q, .int .i64 x.e.srv.t, .int .i64 x.e.pol, .slice x.a x.e.tasks.length x.c, .int .i64 x.e.at_] 27) := ⟨_, rfl⟩
        have ga : Gr wo wa := by rw [hwa]; exact (Gr.refl _).alloc _
        have hXa : Blk wa xb #[.int .i64 x.e.kd, .int .i64 x.e.id, .int .i64 x.e.srv.k, .int .i64 x.e.srv.q, .int .i64 x.e.srv.t, .int .i64 x.e.pol, .slice x.a x.e.tasks.length x.c, .int .i64 x.e.at_] 27 := by rw [hwa, hxb]; exact Blk.new _ _ _
        have hTa := hT.gr ga
        have gWa := gWr.trans ga
        have hc := apply_at T W wa tb (hE.gr gWa) i0 i1 i3 i4 hTa hmk.1 (by omega) x (hL.out.i x hxm) (hL.out.k x hxm) gWa
        have t0 := hTa.b.cell (i := 0) (v := .slice T.an T.N.length T.cn) rfl
        have t1 := hTa.b.cell (i := 1) (v := .slice T.ag T.G.length T.cg) rfl
        have t2 := hTa.b.cell (i := 2) (v := .int .i64 T.last) rfl
        have t3 := hTa.b.cell (i := 3) (v := .int .i64 T.now) rfl
        have x0 := hXa.cell (i := 0) (v := .int .i64 x.e.kd) rfl
        have x1 := hXa.cell (i := 1) (v := .int .i64 x.e.id) rfl
        have x2 := hXa.cell (i := 2) (v := .int .i64 x.e.srv.k) rfl
        have x3 := hXa.cell (i := 3) (v := .int .i64 x.e.srv.q) rfl
        have x4 := hXa.cell (i := 4) (v := .int .i64 x.e.srv.t) rfl
        have x5 := hXa.cell (i := 5) (v := .int .i64 x.e.pol) rfl
        have x6 := hXa.cell (i := 6) (v := .slice x.a x.e.tasks.length x.c) rfl
        have x7 := hXa.cell (i := 7) (v := .int .i64 x.e.at_) rfl
        replace hmk := Lib.hid hmk
        replace hwa := Lib.hid hwa
        replace hxb := Lib.hid hxb
        replace hXa := Lib.hid hXa
        replace hTa := Lib.hid hTa
        replace hc := Lib.hid hc
        replace hT := Lib.hid hT
        replace hv := Lib.hid hv
        replace hxm := Lib.hid hxm
        go_upto_region 8 with fail
        rw [← hxb.out, ← hwa.out]
        go_wp2_with fail
        refine hc.out.mono ?_
        rintro e wb ⟨T2, rfl, hv2, hT2, gb⟩
        clear t0 t1 t2 t3 x0 x1 x2 x3 x4 x5 x6 x7 d0 d1 d2 d3 d4 d5 d6 d7
        have hTb := hTa.out.gr gb
        have t0 := hTb.b.cell (i := 0) (v := .slice T.an T.N.length T.cn) rfl
        have t1 := hTb.b.cell (i := 1) (v := .slice T.ag T.G.length T.cg) rfl
        have t2 := hTb.b.cell (i := 2) (v := .int .i64 T.last) rfl
        have t3 := hTb.b.cell (i := 3) (v := .int .i64 T.now) rfl
        have tf := fun i => hTb.b.free i
        have zb := gb.size
        replace hTb := Lib.hid hTb
        replace hT2 := Lib.hid hT2
        replace hv2 := Lib.hid hv2
        go_wp2_with fail
        go_roundw
        case rel =>
          obtain ⟨h1, h2⟩ := held_set (wf := _) (by have := hTa.out.b.lt; exact this) hTb.out.b rfl hT2.out rfl ((hg.trans ga).trans gb) h2z.out
          exact ⟨k + 1, T2, by omega, by go_num, Lib.hid ⟨h1, by rw [hv2.out, take_min hx.out hl6, madeV_snoc, ← hv.out]⟩, h2⟩
        case measure => simp [intOf]; omega
      · have t60 : ¬ (k : Int) < 60 := by omega
        have t60b : decide ((k : Int) < 60) = false := decide_eq_false t60
        obtain ⟨xb, hxb⟩ : ∃ xb, xb = wo.heap.size := ⟨_, rfl⟩
        obtain ⟨wa, hwa⟩ : ∃ wa, wa = wo.alloc (.cells #[.int .i64 x.e.kd, .int .i64 x.e.id, .int .i64 x.e.srv.k, .int .i64 x.e.srv.q, .int .i64 x.e.srv.t, .int .i64 x.e.pol, .slice x.a x.e.tasks.length x.c, .int .i64 x.e.at_] 27) := ⟨_, rfl⟩
        have ga : Gr wo wa := by rw [hwa]; exact (Gr.refl _).alloc _
        have hXa : Blk wa xb #[.int .i64 x.e.kd, .int .i64 x.e.id, .int .i64 x.e.srv.k, .int .i64 x.e.srv.q, .int .i64 x.e.srv.t, .int .i64 x.e.pol, .slice x.a x.e.tasks.length x.c, .int .i64 x.e.at_] 27 := by rw [hwa, hxb]; exact Blk.new _ _ _
        have hTa := hT.gr ga
        have gWa := gWr.trans ga
        replace hwa := Lib.hid hwa
        replace hxb := Lib.hid hxb
        replace hXa := Lib.hid hXa
        replace hTa := Lib.hid hTa
        replace hT := Lib.hid hT
        replace hv := Lib.hid hv
        replace hxm := Lib.hid hxm
        go_wp2_with fail
        go_roundw
        case rel => exact ⟨k + 1, T, by omega, by go_num, Lib.hid ⟨by rw [← hwa.out]; exact hTa.out, by rw [hv.out, show min (k + 1) 60 = min k 60 by omega]⟩, by rw [← hwa.out]; exact hg.trans ga⟩
        case measure => simp [intOf]; omega
    · have hke : min k 60 = min L.length 60 := by omega
      rw [hke] at hv
      clear hke
      have hti : ¬ (k : Int) < L.length := by omega
      have htib : decide ((k : Int) < L.length) = false := decide_eq_false hti
      obtain ⟨hS, hF, hLv⟩ := made_in (m := min L.length 60) hv
      have hOr := hO1.out.gr (g2.trans hg)
      have hc := apply_at T W wo tb (hE.gr gWr) i0 i1 i3 i4 hT hS (by omega) o hoi hok gWr
      obtain ⟨V, hV⟩ : ∃ V, V = T.v.apply o.e := ⟨_, rfl⟩
      rw [← hV] at hc
      have t0 := hT.b.cell (i := 0) (v := .slice T.an T.N.length T.cn) rfl
      have t1 := hT.b.cell (i := 1) (v := .slice T.ag T.G.length T.cg) rfl
      have t2 := hT.b.cell (i := 2) (v := .int .i64 T.last) rfl
      have t3 := hT.b.cell (i := 3) (v := .int .i64 T.now) rfl
      have o0 := hOr.cell (i := 0) (v := .int .i64 o.e.kd) rfl
      have o1 := hOr.cell (i := 1) (v := .int .i64 o.e.id) rfl
      have o2 := hOr.cell (i := 2) (v := .int .i64 o.e.srv.k) rfl
      have o3 := hOr.cell (i := 3) (v := .int .i64 o.e.srv.q) rfl
      have o4 := hOr.cell (i := 4) (v := .int .i64 o.e.srv.t) rfl
      have o5 := hOr.cell (i := 5) (v := .int .i64 o.e.pol) rfl
      have o6 := hOr.cell (i := 6) (v := .slice o.a o.e.tasks.length o.c) rfl
      have o7 := hOr.cell (i := 7) (v := .int .i64 o.e.at_) rfl
      replace hS := Lib.hid hS
      replace hF := Lib.hid hF
      replace hLv := Lib.hid hLv
      replace hOr := Lib.hid hOr
      replace hc := Lib.hid hc
      replace hT := Lib.hid hT
      replace hv := Lib.hid hv
      replace hV := Lib.hid hV
      go_wp2_with fail
      refine hc.out.mono ?_
      rintro e wb ⟨U, rfl, hU, hUt, gb⟩
      clear t0 t1 t2 t3 o0 o1 o2 o3 o4 o5 o6 o7
      obtain ⟨V1, vc, vi⟩ := V
      dsimp only at hU ⊢
      obtain ⟨ub, hub⟩ : ∃ ub, ub = wb.heap.size := ⟨_, rfl⟩
      obtain ⟨wq, hwq⟩ : ∃ wq, wq = (wb.alloc (.cells U.row 32)).alloc (.cells #[.int .i64 vc, .int .i64 vi] 34) := ⟨_, rfl⟩
      have gq : Gr wb wq := by rw [hwq]; exact ((Gr.refl _).alloc _).alloc _
      have hUb : Blk wq ub U.row 32 := by rw [hwq, hub]; exact (Blk.new _ _ _).alloc _
      have hRb : Blk wq (ub + 1) #[.int .i64 vc, .int .i64 vi] 34 := by
        rw [hwq, hub]
        have := Blk.new (wb.alloc (.cells U.row 32)) #[.int .i64 vc, .int .i64 vi] 34
        rw [World.size_alloc] at this
        exact this
      have hTq := (hT.out.gr gb).gr gq
      have hUq := (hUt.gr gq).any
      have hOq := (hOr.out.gr gb).gr gq
      have gWq := (gWr.trans gb).trans gq
      have t0 := hTq.b.cell (i := 0) (v := .slice T.an T.N.length T.cn) rfl
      have t1 := hTq.b.cell (i := 1) (v := .slice T.ag T.G.length T.cg) rfl
      have t2 := hTq.b.cell (i := 2) (v := .int .i64 T.last) rfl
      have t3 := hTq.b.cell (i := 3) (v := .int .i64 T.now) rfl
      have u0 := hUb.cell (i := 0) (v := .slice U.an U.N.length U.cn) rfl
      have u1 := hUb.cell (i := 1) (v := .slice U.ag U.G.length U.cg) rfl
      have u2 := hUb.cell (i := 2) (v := .int .i64 U.last) rfl
      have u3 := hUb.cell (i := 3) (v := .int .i64 U.now) rfl
      have r0 := hRb.cell (i := 0) (v := .int .i64 vc) rfl
      have r1 := hRb.cell (i := 1) (v := .int .i64 vi) rfl
      have o0 := hOq.cell (i := 0) (v := .int .i64 o.e.kd) rfl
      have o1 := hOq.cell (i := 1) (v := .int .i64 o.e.id) rfl
      have o2 := hOq.cell (i := 2) (v := .int .i64 o.e.srv.k) rfl
      have o3 := hOq.cell (i := 3) (v := .int .i64 o.e.srv.q) rfl
      have o4 := hOq.cell (i := 4) (v := .int .i64 o.e.srv.t) rfl
      have o5 := hOq.cell (i := 5) (v := .int .i64 o.e.pol) rfl
      have o6 := hOq.cell (i := 6) (v := .slice o.a o.e.tasks.length o.c) rfl
      have o7 := hOq.cell (i := 7) (v := .int .i64 o.e.at_) rfl
      replace hub := Lib.hid hub
      replace hwq := Lib.hid hwq
      replace hUb := Lib.hid hUb
      replace hRb := Lib.hid hRb
      replace hTq := Lib.hid hTq
      replace hUq := Lib.hid hUq
      replace hOq := Lib.hid hOq
      replace hUt := Lib.hid hUt
      go_upto_region 11 with fail
      rw [← hub.out, ← hwq.out]
      by_cases hcd : vc = 0
      · subst hcd
        have hyy := apply_yes hS.out o.e (by rw [← hV.out])
        rw [← hV.out] at hyy
        dsimp only at hyy
        have ti : 0 < vi := hyy.1
        have tib : decide (0 < vi) = true := decide_eq_true ti
        have h1 : U.v.now = V1.now := by rw [hU]
        have hun : U.now = max T.now o.e.at_ := h1.trans hyy.2
        rw [hun] at u3
        clear h1 hun
        replace hyy := Lib.hid hyy
        replace hU := Lib.hid hU
        go_wp2_with fail
        go_ret
        exact ⟨rfl, gWq⟩
      · have tc : (vc == 0) = false := by simpa using hcd
        have hrg := refused_ghosts hLv.out (o := o.e) (by rw [← hV.out]; exact hcd)
        rw [← hV.out] at hrg
        dsimp only at hrg
        obtain ⟨hi0, hn0, hl0, hw0, hg0⟩ := hrg
        subst hi0
        have h1 : U.v.nodes = V1.nodes := by rw [hU]
        have h2 : U.v.last = V1.last := by rw [hU]
        have h3 : U.v.now = V1.now := by rw [hU]
        have h4 : U.v.ghosts = V1.ghosts := by rw [hU]
        have hUN : T.N.map (·.e) = U.N.map (·.e) := (h1.trans hn0).symm
        have hUl : U.last = T.last := h2.trans hl0
        have tn : T.now ≤ U.now := by rw [show U.now = V1.now from h3]; exact hw0
        have tn2 : ¬ U.now < T.now := by omega
        have tn2b : decide (U.now < T.now) = false := decide_eq_false tn2
        have hUG : U.G = T.G.filter (keepG U.now) := by rw [show U.now = V1.now from h3, show U.G = V1.ghosts from h4, hg0]
        rw [hUl] at u2
        clear h1 h2 h3 h4 hn0 hl0 hw0 hg0
        replace hU := Lib.hid hU
        have hml := hTq.out.t.l1
        have hsn := fun w' (g : Gr wq w') => sameNodes_eq T.an U.an T.cn U.cn T.N U.N w' (hTq.out.gr g).t.any.n (hUq.out.gr g).n hUN (by unfold maxLen; omega)
        replace hsn := Lib.hid hsn
        replace hUN := Lib.hid hUN
        replace hUl := Lib.hid hUl
        replace hUG := Lib.hid hUG
        go_wp2_with fail
        refine (hsn.out _ (Gr.refl _)).mono ?_
        rintro e ws ⟨rfl, gs⟩
        clear t0 t1 t2 t3 u0 u1 u2 u3 o0 o1 o2 o3 o4 o5 o6 o7 r0 r1
        have hTs := hTq.out.gr gs
        have hUs := hUb.out.gr gs
        have hUt2 := hUq.out.gr gs
        have gWs := gWq.trans gs
        have t0 := hTs.b.cell (i := 0) (v := .slice T.an T.N.length T.cn) rfl
        have t1 := hTs.b.cell (i := 1) (v := .slice T.ag T.G.length T.cg) rfl
        have t2 := hTs.b.cell (i := 2) (v := .int .i64 T.last) rfl
        have t3 := hTs.b.cell (i := 3) (v := .int .i64 T.now) rfl
        have u0 := hUs.cell (i := 0) (v := .slice U.an U.N.length U.cn) rfl
        have u1 := hUs.cell (i := 1) (v := .slice U.ag U.G.length U.cg) rfl
        have u2 := hUs.cell (i := 2) (v := .int .i64 U.last) rfl
        have u3 := hUs.cell (i := 3) (v := .int .i64 U.now) rfl
        rw [hUl.out] at u2
        replace hTs := Lib.hid hTs
        replace hUs := Lib.hid hUs
        replace hUt2 := Lib.hid hUt2
        go_wp2_with fail
        have hGl := hTs.out.t.l2
        go_loopw [10, 82] (fun av iv wr => ∃ (j m : Nat), j ≤ T.G.length ∧ Hid (m = ((T.G.take j).filter (keepG U.now)).length) ∧ m ≤ j ∧ av = .int .i64 m ∧ iv = .int .i64 j ∧ Gr ws wr) (fun _ iv _ => T.G.length - (intOf iv).toNat)
        case atStart => exact ⟨0, 0, Nat.zero_le _, Lib.hid rfl, Nat.le_refl _, rfl, rfl, Gr.refl _⟩
        case round =>
          obtain ⟨j, m, hj, hm, hmj, rfl, rfl, hg2⟩ := hrel
          obtain ⟨wp, rfl⟩ : ∃ wp : World, wp = wr := ⟨wr, rfl⟩
          have gWp := gWs.trans hg2
          have hTp := hTs.out.gr hg2
          have hUp := hUs.out.gr hg2
          have hUtp := hUt2.out.gr hg2
          clear t0 t1 t2 t3 u0 u1 u2 u3
          by_cases hlj : j < T.G.length
          · obtain ⟨g, hgx⟩ := get_some T.G j hlj
            obtain ⟨b2, off2, hag, hb2, _, d0, d1, d2, d3, d4⟩ := gh_get hTp.t.any.g hgx
            obtain ⟨gb, hgb⟩ : ∃ gb, gb = wp.heap.size := ⟨_, rfl⟩
            obtain ⟨wa, hwa⟩ : ∃ wa, wa = wp.alloc (.cells #[.int .i64 g.par, .int .i64 g.srv.k, .int .i64 g.srv.q, .int .i64 g.srv.t, .int .i64 g.till] 39) := ⟨_, rfl⟩
            have ga : Gr wp wa := by rw [hwa]; exact (Gr.refl _).alloc _
            have hXa : Blk wa gb #[.int .i64 g.par, .int .i64 g.srv.k, .int .i64 g.srv.q, .int .i64 g.srv.t, .int .i64 g.till] 39 := by rw [hwa, hgb]; exact Blk.new _ _ _
            have hUa := hUp.gr ga
            have hUta := hUtp.gr ga
            have tj : (j : Int) < T.G.length := by omega
            have u0 := hUa.cell (i := 0) (v := .slice U.an U.N.length U.cn) rfl
            have u1 := hUa.cell (i := 1) (v := .slice U.ag U.G.length U.cg) rfl
            have u2 := hUa.cell (i := 2) (v := .int .i64 U.last) rfl
            have u3 := hUa.cell (i := 3) (v := .int .i64 U.now) rfl
            have x0 := hXa.cell (i := 0) (v := .int .i64 g.par) rfl
            have x1 := hXa.cell (i := 1) (v := .int .i64 g.srv.k) rfl
            have x2 := hXa.cell (i := 2) (v := .int .i64 g.srv.q) rfl
            have x3 := hXa.cell (i := 3) (v := .int .i64 g.srv.t) rfl
            have x4 := hXa.cell (i := 4) (v := .int .i64 g.till) rfl
            have p0 := GrW.cell u0
            have p1 := GrW.cell u1
            have p2 := GrW.cell u2
            have p3 := GrW.cell u3
            have q0 := GrW.cell x0
            have q1 := GrW.cell x1
            have q2 := GrW.cell x2
            have q3 := GrW.cell x3
            have q4 := GrW.cell x4
            replace hTp := Lib.hid hTp
            replace hUp := Lib.hid hUp
            replace hUtp := Lib.hid hUtp
            replace hXa := Lib.hid hXa
            replace hUa := Lib.hid hUa
            replace hgx := Lib.hid hgx
            replace hgb := Lib.hid hgb
            replace hwa := Lib.hid hwa
            go_upto_region 19 with fail
            rw [← hgb.out, ← hwa.out]
            clear d0 d1 d2 d3 d4 u0 u1 u2 u3 x0 x1 x2 x3 x4
            cases hk : keepG U.now g with
            | true =>
              have tk : U.now < g.till := of_decide_eq_true hk
              have tkb : decide (U.now < g.till) = true := decide_eq_true tk
              have hUe : U.G[m]? = some g := by rw [hUG.out, hm.out]; exact filter_at hgx.out hk
              have hml2 := get_lt hUe
              have tm : (m : Int) < U.G.length := by omega
              have tmb : decide ((m : Int) < U.G.length) = true := decide_eq_true tm
              have hq := fun w => gh_eql g g w
              rw [decide_eq_true (show g.par = g.par ∧ g.srv.k = g.srv.k ∧ g.srv.q = g.srv.q ∧ g.srv.t = g.srv.t ∧ g.till = g.till from ⟨rfl, rfl, rfl, rfl, rfl⟩)] at hq
              obtain ⟨b3, off3, hag3, hb3, _, e0, e1, e2, e3, e4⟩ := gh_get hUta.g hUe
              have y0 := GrW.cell e0
              have y1 := GrW.cell e1
              have y2 := GrW.cell e2
              have y3 := GrW.cell e3
              have y4 := GrW.cell e4
              replace hUe := Lib.hid hUe
              replace hUta := Lib.hid hUta
              clear e0 e1 e2 e3 e4
              replace hk := Lib.hid hk
              refine wp_region_grows (by kernel_rfl) (by kernel_rfl) ?_
              repeat (any_goals (first | go_big_quiet_step (first | fail) | quiet_step (first | fail)))
              refine wpQuiet_nil ?_
              intro wz hwq
              have gz := GrW.of hwq
              clear hwq
              obtain ⟨cz, fz, sz⟩ := gz.cells
              try simp only [size_drewN] at cz fz sz
              try simp only [World.size_alloc] at cz fz sz
              try simp only [World.size_drew] at cz fz sz
              try simp only [World.size_setCell] at cz fz sz
              go_wp2_with fail
              go_roundw
              case rel => exact ⟨j + 1, m + 1, by omega, Lib.hid (by rw [take_snoc hgx.out, List.filter_append, List.length_append, ← hm.out, List.filter_cons, if_pos hk.out]; rfl), by omega, by go_num, by go_num, (hg2.trans ga).trans gz⟩
              case measure => simp [intOf]; omega
            | false =>
              have tk : ¬ U.now < g.till := of_decide_eq_false hk
              have tkb : decide (U.now < g.till) = false := decide_eq_false tk
              replace hk := Lib.hid hk
              by_cases hm2 : m < U.G.length
              · obtain ⟨y, hUe⟩ := get_some U.G m hm2
                have tm : (m : Int) < U.G.length := by omega
                have tmb : decide ((m : Int) < U.G.length) = true := decide_eq_true tm
                have hq := fun w => gh_eql y g w
                obtain ⟨b3, off3, hag3, hb3, _, e0, e1, e2, e3, e4⟩ := gh_get hUta.g hUe
                have y0 := GrW.cell e0
                have y1 := GrW.cell e1
                have y2 := GrW.cell e2
                have y3 := GrW.cell e3
                have y4 := GrW.cell e4
                replace hUe := Lib.hid hUe
                replace hUta := Lib.hid hUta
                clear e0 e1 e2 e3 e4
                cases hz : decide (y.par = g.par ∧ y.srv.k = g.srv.k ∧ y.srv.q = g.srv.q ∧ y.srv.t = g.srv.t ∧ y.till = g.till) with
                | false =>
                  rw [hz] at hq
                  replace hz := Lib.hid hz
                  refine wp_region_grows (by kernel_rfl) (by kernel_rfl) ?_
                  repeat (any_goals (first | go_big_quiet_step (first | fail) | quiet_step (first | fail)))
                  refine wpQuiet_nil ?_
                  intro wz hwq
                  have gz := GrW.of hwq
                  clear hwq
                  obtain ⟨cz, fz, sz⟩ := gz.cells
                  try simp only [size_drewN] at cz fz sz
                  try simp only [World.size_alloc] at cz fz sz
                  try simp only [World.size_drew] at cz fz sz
                  try simp only [World.size_setCell] at cz fz sz
                  have hXz := hXa.out.gr gz
                  have hUz := hUa.out.gr gz
                  have x0 := hXz.cell (i := 0) (v := .int .i64 g.par) rfl
                  have x1 := hXz.cell (i := 1) (v := .int .i64 g.srv.k) rfl
                  have x2 := hXz.cell (i := 2) (v := .int .i64 g.srv.q) rfl
                  have x3 := hXz.cell (i := 3) (v := .int .i64 g.srv.t) rfl
                  have x4 := hXz.cell (i := 4) (v := .int .i64 g.till) rfl
                  have u0 := hUz.cell (i := 0) (v := .slice U.an U.N.length U.cn) rfl
                  have u1 := hUz.cell (i := 1) (v := .slice U.ag U.G.length U.cg) rfl
                  have u2 := hUz.cell (i := 2) (v := .int .i64 U.last) rfl
                  have u3 := hUz.cell (i := 3) (v := .int .i64 U.now) rfl
                  replace hXz := Lib.hid hXz
                  replace hUz := Lib.hid hUz
                  go_wp2_with fail
                  go_roundw
                  case rel => exact ⟨j + 1, m, by omega, Lib.hid (by rw [take_snoc hgx.out, List.filter_append, List.length_append, ← hm.out, List.filter_cons, if_neg (by rw [hk.out]; decide)]; rfl), by omega, rfl, by go_num, (hg2.trans ga).trans gz⟩
                  case measure => simp [intOf]; omega
                | true =>
                  rw [hz] at hq
                  replace hz := Lib.hid hz
                  refine wp_region_grows (by kernel_rfl) (by kernel_rfl) ?_
                  repeat (any_goals (first | go_big_quiet_step (first | fail) | quiet_step (first | fail)))
                  refine wpQuiet_nil ?_
                  intro wz hwq
                  have gz := GrW.of hwq
                  clear hwq
                  obtain ⟨cz, fz, sz⟩ := gz.cells
                  try simp only [size_drewN] at cz fz sz
                  try simp only [World.size_alloc] at cz fz sz
                  try simp only [World.size_drew] at cz fz sz
                  try simp only [World.size_setCell] at cz fz sz
                  have hXz := hXa.out.gr gz
                  have hUz := hUa.out.gr gz
                  have x0 := hXz.cell (i := 0) (v := .int .i64 g.par) rfl
                  have x1 := hXz.cell (i := 1) (v := .int .i64 g.srv.k) rfl
                  have x2 := hXz.cell (i := 2) (v := .int .i64 g.srv.q) rfl
                  have x3 := hXz.cell (i := 3) (v := .int .i64 g.srv.t) rfl
                  have x4 := hXz.cell (i := 4) (v := .int .i64 g.till) rfl
                  have u0 := hUz.cell (i := 0) (v := .slice U.an U.N.length U.cn) rfl
                  have u1 := hUz.cell (i := 1) (v := .slice U.ag U.G.length U.cg) rfl
                  have u2 := hUz.cell (i := 2) (v := .int .i64 U.last) rfl
                  have u3 := hUz.cell (i := 3) (v := .int .i64 U.now) rfl
                  replace hXz := Lib.hid hXz
                  replace hUz := Lib.hid hUz
                  go_wp2_with fail
                  go_roundw
                  case rel => exact ⟨j + 1, m, by omega, Lib.hid (by rw [take_snoc hgx.out, List.filter_append, List.length_append, ← hm.out, List.filter_cons, if_neg (by rw [hk.out]; decide)]; rfl), by omega, rfl, by go_num, (hg2.trans ga).trans gz⟩
                  case measure => simp [intOf]; omega
              · have tm : ¬ (m : Int) < U.G.length := by omega
                have tmb : decide ((m : Int) < U.G.length) = false := decide_eq_false tm
                replace hUta := Lib.hid hUta
                refine wp_region_grows (by kernel_rfl) (by kernel_rfl) ?_
                repeat (any_goals (first | go_big_quiet_step (first | fail) | quiet_step (first | fail)))
                refine wpQuiet_nil ?_
                intro wz hwq
                have gz := GrW.of hwq
                clear hwq
                obtain ⟨cz, fz, sz⟩ := gz.cells
                try simp only [size_drewN] at cz fz sz
                try simp only [World.size_alloc] at cz fz sz
                try simp only [World.size_drew] at cz fz sz
                try simp only [World.size_setCell] at cz fz sz
                have hXz := hXa.out.gr gz
                have hUz := hUa.out.gr gz
                have x0 := hXz.cell (i := 0) (v := .int .i64 g.par) rfl
                have x1 := hXz.cell (i := 1) (v := .int .i64 g.srv.k) rfl
                have x2 := hXz.cell (i := 2) (v := .int .i64 g.srv.q) rfl
                have x3 := hXz.cell (i := 3) (v := .int .i64 g.srv.t) rfl
                have x4 := hXz.cell (i := 4) (v := .int .i64 g.till) rfl
                have u0 := hUz.cell (i := 0) (v := .slice U.an U.N.length U.cn) rfl
                have u1 := hUz.cell (i := 1) (v := .slice U.ag U.G.length U.cg) rfl
                have u2 := hUz.cell (i := 2) (v := .int .i64 U.last) rfl
                have u3 := hUz.cell (i := 3) (v := .int .i64 U.now) rfl
                replace hXz := Lib.hid hXz
                replace hUz := Lib.hid hUz
                go_wp2_with fail
                go_roundw
                case rel => exact ⟨j + 1, m, by omega, Lib.hid (by rw [take_snoc hgx.out, List.filter_append, List.length_append, ← hm.out, List.filter_cons, if_neg (by rw [hk.out]; decide)]; rfl), by omega, rfl, by go_num, (hg2.trans ga).trans gz⟩
                case measure => simp [intOf]; omega
          · have tj : ¬ (j : Int) < T.G.length := by omega
            have tjb : decide ((j : Int) < T.G.length) = false := decide_eq_false tj
            have hme : m = U.G.length := by rw [hm.out, hUG.out, show j = T.G.length by omega, List.take_length]
            have tme : ((m : Int) == (U.G.length : Int)) = true := by rw [hme]; simp
            replace hme := Lib.hid hme
            have u0 := hUp.cell (i := 0) (v := .slice U.an U.N.length U.cn) rfl
            have u1 := hUp.cell (i := 1) (v := .slice U.ag U.G.length U.cg) rfl
            have u2 := hUp.cell (i := 2) (v := .int .i64 U.last) rfl
            have u3 := hUp.cell (i := 3) (v := .int .i64 U.now) rfl
            replace hTp := Lib.hid hTp
            replace hUp := Lib.hid hUp
            replace hUtp := Lib.hid hUtp
            go_wp2_with fail
            go_ret
            exact ⟨rfl, gWp⟩
end Go.Proofs.YtanfgipanfjcoaaDoor
