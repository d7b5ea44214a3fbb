/- TreeIds: the walk. Printed by gen_w5.py. -/
import Derived.Test.YtanfgipanfjcoaaDoorJW3
import Derived.Test.YtanfgipanfjcoaaDoorJ38
import Derived.Maps.RangeWalk
import Derived.WideMake
namespace Go.Proofs.YtanfgipanfjcoaaDoor
open Go.RowKit
open Go.Maps (Keyed)

section
variable {H : Type} {P : Program} {k : TypeId} {R : Value → Option (DataW H × List MemPlace)} {w w' : World} {b r n cnt : Nat} {D : DataW H} {left : Lit → Bool}
theorem owns_mgr (h : w.ownsMap P k R b n D) (g : Gr w w') : w'.ownsMap P k R b n D := by
  have hl := h.lt
  obtain ⟨es, clock, hb, q⟩ := h
  exact ⟨es, clock, by rw [g.block b hl]; exact hb, q⟩
theorem owns_mgrx {S : List Nat} (h : w.ownsMap P k R b n D) (g : GrX S w w') (hS : b ∉ S) : w'.ownsMap P k R b n D := by
  have hl := h.lt
  obtain ⟨es, clock, hb, q⟩ := h
  exact ⟨es, clock, by rw [g.block b hl hS]; exact hb, q⟩
theorem ranges_gr (h : w.ranges P k R b r n D left cnt) (g : Gr w w') : w'.ranges P k R b r n D left cnt := by
  have hl := h.owns.lt
  have hr := h.lt
  obtain ⟨es, clock, since, seen, c0, hb, h1, h2, h3, h4, q⟩ := h
  exact ⟨es, clock, since, seen, c0, by rw [g.block b hl]; exact hb, h1, h2, h3, by rw [g.block r hr]; exact h4, q⟩
end
abbrev GoneW (w : World) (mb n : Nat) (D : DataW Unit) : Prop := w.ownsMap Tryd.prog 3 (plainElem Tryd.prog 4) mb n D
theorem elem_boolP {P : Program} {e : TypeId} (he : P.underlying e = some .bool) {v : Value} {x : Bool} {ps : List MemPlace} (h : plainElem (H := Unit) P e v = some (.lit (.bool x), ps)) : v = .bool x := by
  unfold plainElem at h
  rw [he] at h
  cases v <;> simp at h
  rw [h.1]
theorem elem_bool {v : Value} {x : Bool} {ps : List MemPlace} (h : plainElem (H := Unit) Tryd.prog 4 v = some (.lit (.bool x), ps)) : v = .bool x := elem_boolP Tryd.underlying4 h
theorem look_no {w : World} {mb n : Nat} {D : DataW Unit} (h : GoneW w mb n D) {x : Int} (hx : Maps.has D (.int .i64 x) = false) (hw : -9223372036854775808 ≤ x ∧ x ≤ 9223372036854775807) : (Instr.lookup 54 (.map (some mb)) (.int .i64 x) false).run Tryd.prog w = .ok (.bool false) w := by
  obtain ⟨v, ps, hrun, hv⟩ := h.lookup Tryd.keyedInt Tryd.underlying54 (z := .bool false) (by kernel_rfl) (plainElem_bool Tryd.underlying4 false) (key_int hw)
  rw [Maps.atKey_of_not_has hx] at hv
  rw [elem_bool hv] at hrun
  exact hrun
theorem store_yes {w : World} {mb n : Nat} {D : DataW Unit} (h : GoneW w mb n D) (hn : n < maxLen) {x : Int} (hw : -9223372036854775808 ≤ x ∧ x ≤ 9223372036854775807) : ∃ w', (Instr.mapUpdate 54 (.map (some mb)) (.int .i64 x) (.bool true)).run Tryd.prog w = .ok () w' ∧ GoneW w' mb (n + 1) (D.put (.int .i64 x) (.lit (.bool true))) ∧ GrX [mb] w w' := by
  obtain ⟨w', h1, h2, h3⟩ := h.update Tryd.keyedInt Tryd.underlying54 hn (key_int hw) (plainElem_bool Tryd.underlying4 true)
  exact ⟨w', h1, h2, ⟨h3.os, h3.tape, h3.output, h3.size, fun k hk hm => h3.block k hk (fun e => hm (by injection e with e; rw [e]; simp))⟩⟩
theorem has_put {D : DataW Unit} {x y : Int} {d : DataW Unit} (h : Maps.has (D.put (.int .i64 x) d) (.int .i64 y) = true) : y = x ∨ Maps.has D (.int .i64 y) = true := by
  by_cases e : y = x
  · exact .inl e
  · refine .inr ?_
    rw [Maps.has_put_other (fun h => e (by injection h))] at h
    exact h
set_option maxRecDepth 100000 in
set_option maxHeartbeats 12800000 in
theorem treeIds_any {G : List Nat} {E : Nat → Addr} (W : World) (hE : EAt G E W) (i0 : 3 ∈ G) (i1 : 0 ∈ G) (i3 : 2 ∈ G) (i4 : 4 ∈ G) (a : Option Addr) (c : Nat) (L : List OrM) (hL : OrsAt W a L) :
    Calls Tryd.prog 5 #[.slice a L.length c] W fun e w' => e = .returned (.bool true) ∧ Gr W w' := by
  have hal := alive13_any W hE i0 i1 i3 i4
  replace hal := Lib.hid hal
  replace hL := Lib.hid hL
  go_enter Tryd.func5, Tryd.ntmps5
  go_upto_region 1 with fail
  go_wp2_with fail
  refine hal.out.mono ?_
  rintro e w2 ⟨rfl, g2⟩
  clear hal
  obtain ⟨tb, htb⟩ : ∃ tb, tb = w2.heap.size := ⟨_, rfl⟩
  obtain ⟨w3, hw3⟩ : ∃ w3, w3 = w2.alloc (.cells #[.slice none 0 0, .slice none 0 0, .int .i64 0, .int .i64 0] 32) := ⟨_, rfl⟩
  have g3 : Gr w2 w3 := by rw [hw3]; exact (Gr.refl _).alloc _
  have hB3 : Blk w3 tb #[.slice none 0 0, .slice none 0 0, .int .i64 0, .int .i64 0] 32 := by rw [hw3, htb]; exact Blk.new _ _ _
  have hT3 : Held w3 tb ⟨[], none, 0, [], none, 0, 0, 0⟩ := ⟨hB3, TreeAt.none _ _ _ _⟩
  have h2z : w2.heap.size ≤ tb := by omega
  replace htb := Lib.hid htb
  replace hw3 := Lib.hid hw3
  replace hB3 := Lib.hid hB3
  replace hT3 := Lib.hid hT3
  replace h2z := Lib.hid h2z
  go_upto_region 4 with fail
  rw [← htb.out, ← hw3.out]
  have hmm := @run_makeMap_plain
  go_upto_region 6 with fail
  clear hmm
  obtain ⟨mb, hmb⟩ : ∃ mb, mb = w3.heap.size := ⟨_, rfl⟩
  obtain ⟨w4, hw4⟩ : ∃ w4, w4 = w3.alloc (.map #[] 0) := ⟨_, rfl⟩
  have g4 : Gr w3 w4 := by rw [hw4]; exact (Gr.refl _).alloc _
  have hM4 : GoneW w4 mb 0 (.map []) := by rw [hw4, hmb]; exact World.ownsMap_made _ _ _ _
  have hT4 := hT3.out.gr g4
  have htm : tb < mb := by rw [hmb]; exact hT3.out.b.lt
  replace hmb := Lib.hid hmb
  replace hw4 := Lib.hid hw4
  replace hM4 := Lib.hid hM4
  replace hT4 := Lib.hid hT4
  rw [← hmb.out, ← hw4.out]
  go_wp2_with fail
  go_loopw [4, 23] (fun gv iv wr => ∃ (k : Nat) (T : TM) (gi : Int), k ≤ L.length ∧ k ≤ 60 ∧ gv = .int .i64 gi ∧ iv = .int .i64 k ∧ Hid (Held wr tb T ∧ T.v = madeV ((L.take k).map (·.e)) ∧ gi = T.last ∧ ∃ D, GoneW wr mb k D ∧ ∀ x : Int, Maps.has D (.int .i64 x) = true → GoneP T.v x) ∧ Gr w2 wr) (fun _ iv _ => L.length - (intOf iv).toNat)
  case atStart => exact ⟨0, ⟨[], none, 0, [], none, 0, 0, 0⟩, 0, Nat.zero_le _, Nat.zero_le _, rfl, rfl, Lib.hid ⟨hT4.out, rfl, rfl, _, hM4.out, fun x h => by cases h⟩, g3.trans g4⟩
  case round =>
    obtain ⟨k, T, gi, hk, hk6, rfl, rfl, hI, hg⟩ := hrel
    obtain ⟨hT, hv, hgi, D, hM, hgn0⟩ := hI.out
    clear hI
    have gWr : Gr W wr := g2.trans hg
    obtain ⟨wo, rfl⟩ : ∃ wo : World, wo = wr := ⟨wr, rfl⟩
    by_cases hlt : k < L.length
    · obtain ⟨x, hx⟩ := get_some L k hlt
      obtain ⟨b, off, rfl, hb, d0, d1, d2, d3, d4, d5, d6, d7⟩ := or_get (RecsIn.grx hL.out.r (gWr.x []) (fun _ h => by cases h)) hx
      have hxi := hL.out.i x (get_mem hx)
      have hxk := hL.out.k x (get_mem hx)
      replace hx := Lib.hid hx
      by_cases hl6 : k < 60
      · have t60 : ¬ (60 : Int) ≤ (k : Int) := by omega
        have t60b : decide ((60 : Int) ≤ (k : Int)) = false := decide_eq_false t60
        obtain ⟨hS, hF, hLv⟩ := made_at hv
        obtain ⟨xb, hxb⟩ : ∃ xb, xb = wo.heap.size := ⟨_, rfl⟩
        obtain ⟨wa, hwa⟩ : ∃ wa, wa = wo.alloc (.cells #[.int .i64 x.e.kd, .int .i64 x.e.id, .int .i64 x.e.srv.k, .int .i64 x.e.srv.q, .int .i64 x.e.srv.t, .int .i64 x.e.pol, .slice x.a x.e.tasks.length x.c, .int .i64 x.e.at_] 27) := ⟨_, rfl⟩
        have ga : Gr wo wa := by rw [hwa]; exact (Gr.refl _).alloc _
        have hXa : Blk wa xb #[.int .i64 x.e.kd, .int .i64 x.e.id, .int .i64 x.e.srv.k, .int .i64 x.e.srv.q, .int .i64 x.e.srv.t, .int .i64 x.e.pol, .slice x.a x.e.tasks.length x.c, .int .i64 x.e.at_] 27 := by rw [hwa, hxb]; exact Blk.new _ _ _
        have hTa := hT.gr ga
        have gWa := gWr.trans ga
        have hc := apply_at T W wa tb (hE.gr gWa) i0 i1 i3 i4 hTa hS (by omega) x hxi hxk gWa
        have hsx := hS.step x.e
        have hfx := hF.step hS x.e
        have hvn : madeV ((L.take (k + 1)).map (·.e)) = (T.v.apply x.e).1 := by rw [take_next hx.out, madeV_snoc, ← hv]
        have hls := last_step T.v x.e
        have hgs := fun y (h : GoneP T.v y) => h.step x.e
        have hgd := fun (h3 : x.e.kd = 3) hd => gone_del (o := x.e) hS h3 hd
        have hl0 := hS.l0
        have hl1 := hS.l1
        dsimp only at hl0 hl1
        obtain ⟨V, hV⟩ : ∃ V, V = T.v.apply x.e := ⟨_, rfl⟩
        rw [← hV] at hc hsx hfx hvn hls hgs hgd
        have t0 := hTa.b.cell (i := 0) (v := .slice T.an T.N.length T.cn) rfl
        have t1 := hTa.b.cell (i := 1) (v := .slice T.ag T.G.length T.cg) rfl
        have t2 := hTa.b.cell (i := 2) (v := .int .i64 T.last) rfl
        have t3 := hTa.b.cell (i := 3) (v := .int .i64 T.now) rfl
        have x0 := hXa.cell (i := 0) (v := .int .i64 x.e.kd) rfl
        have x1 := hXa.cell (i := 1) (v := .int .i64 x.e.id) rfl
        have x2 := hXa.cell (i := 2) (v := .int .i64 x.e.srv.k) rfl
        have x3 := hXa.cell (i := 3) (v := .int .i64 x.e.srv.q) rfl
        have x4 := hXa.cell (i := 4) (v := .int .i64 x.e.srv.t) rfl
        have x5 := hXa.cell (i := 5) (v := .int .i64 x.e.pol) rfl
        have x6 := hXa.cell (i := 6) (v := .slice x.a x.e.tasks.length x.c) rfl
        have x7 := hXa.cell (i := 7) (v := .int .i64 x.e.at_) rfl
        replace hS := Lib.hid hS
        replace hF := Lib.hid hF
        replace hLv := Lib.hid hLv
        replace hwa := Lib.hid hwa
        replace hxb := Lib.hid hxb
        replace hXa := Lib.hid hXa
        replace hTa := Lib.hid hTa
        replace hT := Lib.hid hT
        replace hv := Lib.hid hv
        replace hc := Lib.hid hc
        replace hsx := Lib.hid hsx
        replace hfx := Lib.hid hfx
        replace hvn := Lib.hid hvn
        replace hls := Lib.hid hls
        replace hgs := Lib.hid hgs
        replace hgd := Lib.hid hgd
        replace hxk := Lib.hid hxk
        replace hxi := Lib.hid hxi
        replace hgi := Lib.hid hgi
        replace hM := Lib.hid hM
        replace hgn0 := Lib.hid hgn0
        go_upto_region 10 with fail
        rw [← hxb.out, ← hwa.out]
        go_wp2_with fail
        refine hc.out.mono ?_
        rintro e wb ⟨U, rfl, hU, hUt, gb⟩
        clear t0 t1 t2 t3 x0 x1 x2 x3 x4 x5 x6 x7 d0 d1 d2 d3 d4 d5 d6 d7
        obtain ⟨V1, vc, vi⟩ := V
        dsimp only at hU ⊢
        obtain ⟨ub, hub⟩ : ∃ ub, ub = wb.heap.size := ⟨_, rfl⟩
        obtain ⟨wq, hwq⟩ : ∃ wq, wq = (wb.alloc (.cells U.row 32)).alloc (.cells #[.int .i64 vc, .int .i64 vi] 34) := ⟨_, rfl⟩
        have gwq : Gr wb wq := by rw [hwq]; exact ((Gr.refl _).alloc _).alloc _
        have hBwq : Blk wq ub U.row 32 := by rw [hwq, hub]; exact (Blk.new _ _ _).alloc _
        have hRwq : Blk wq (ub + 1) #[.int .i64 vc, .int .i64 vi] 34 := by
          rw [hwq, hub]
          have := Blk.new (wb.alloc (.cells U.row 32)) #[.int .i64 vc, .int .i64 vi] 34
          rw [World.size_alloc] at this
          exact this
        have hTq := (hTa.out.gr gb).gr gwq
        have hUq := hUt.gr gwq
        have hXq := (hXa.out.gr gb).gr gwq
        have gWq := (gWa.trans gb).trans gwq
        have g2q := ((hg.trans ga).trans gb).trans gwq
        have hMq := owns_mgr (owns_mgr (owns_mgr hM.out ga) gb) gwq
        have zub : wa.heap.size ≤ wb.heap.size := gb.size
        have zua : wo.heap.size ≤ wa.heap.size := ga.size
        have ztb := hT.out.b.lt
        have zmb := hM.out.lt
        have r0 := hRwq.cell (i := 0) (v := .int .i64 vc) rfl
        have r1 := hRwq.cell (i := 1) (v := .int .i64 vi) rfl
        have x0 := hXq.cell (i := 0) (v := .int .i64 x.e.kd) rfl
        have x1 := hXq.cell (i := 1) (v := .int .i64 x.e.id) rfl
        have x2 := hXq.cell (i := 2) (v := .int .i64 x.e.srv.k) rfl
        have x3 := hXq.cell (i := 3) (v := .int .i64 x.e.srv.q) rfl
        have x4 := hXq.cell (i := 4) (v := .int .i64 x.e.srv.t) rfl
        have x5 := hXq.cell (i := 5) (v := .int .i64 x.e.pol) rfl
        have x6 := hXq.cell (i := 6) (v := .slice x.a x.e.tasks.length x.c) rfl
        have x7 := hXq.cell (i := 7) (v := .int .i64 x.e.at_) rfl
        have u0 := hBwq.cell (i := 0) (v := .slice U.an U.N.length U.cn) rfl
        have u1 := hBwq.cell (i := 1) (v := .slice U.ag U.G.length U.cg) rfl
        have u2 := hBwq.cell (i := 2) (v := .int .i64 U.last) rfl
        have u3 := hBwq.cell (i := 3) (v := .int .i64 U.now) rfl
        have hsv := hls.out
        dsimp only at hsv
        have hlU0 : U.v.last = V1.last := by rw [hU]
        have hlU : U.last = V1.last := hlU0
        clear hlU0
        replace hub := Lib.hid hub
        replace hwq := Lib.hid hwq
        replace hBwq := Lib.hid hBwq
        replace hRwq := Lib.hid hRwq
        replace hTq := Lib.hid hTq
        replace hUq := Lib.hid hUq
        replace hXq := Lib.hid hXq
        replace hUt := Lib.hid hUt
        replace hU := Lib.hid hU
        replace hMq := Lib.hid hMq
        replace zub := Lib.hid zub
        replace zua := Lib.hid zua
        replace ztb := Lib.hid ztb
        replace zmb := Lib.hid zmb
        replace g2q := Lib.hid g2q
        replace hlU := Lib.hid hlU
        go_upto_region 11 with fail
        rw [← hub.out, ← hwq.out]
        rcases hsv with ⟨⟨hc0, hk1⟩, hvi, hl1v⟩ | ⟨hnc, hl1v⟩
        · subst hc0
          have tk1 : (x.e.kd == 1) = true := by simpa using hk1
          have tk3 : (x.e.kd == 3) = false := by rw [hk1]; decide
          have hwg1 : IntKind.i64.wrap (gi + 1) = gi + 1 := by have := hgi.out; rw [IntKind.wrap_i64] <;> omega
          have tvi : (vi != gi + 1) = false := by rw [hvi, hgi.out]; simp
          have hgv : vi = U.last := by rw [hlU.out, hl1v, hvi]
          replace hgv := Lib.hid hgv
          replace hvi := Lib.hid hvi
          replace hl1v := Lib.hid hl1v
          replace hk1 := Lib.hid hk1
          go_upto_region 17 with fail
          clear r0 r1 x0 x1 x2 x3 x4 x5 x6 x7 u0 u1 u2 u3
          have hTy := hTq.out.b
          have hBy := hBwq.out
          have hUy := hUq.out
          have gWy := gWq
          have g2y := g2q.out
          obtain ⟨Dy, hDy⟩ : ∃ Dy, Dy = D := ⟨_, rfl⟩
          have hMy : GoneW wq mb (k + 1) Dy := by rw [hDy]; exact hMq.out.mono (by omega)
          have hgn : ∀ y : Int, Maps.has Dy (.int .i64 y) = true → GoneP U.v y := fun y h => by rw [hU.out]; exact hgs.out y (hgn0.out y (by rw [← hDy]; exact h))
          replace hDy := Lib.hid hDy
          have hsU0 : Sane (k + 1) U.v := by rw [hU.out]; exact hsx.out
          have hfU : Fit U.v := by rw [hU.out]; exact hfx.out
          obtain ⟨hsU, hlow, hidl, hll0, hll1, _, _, _⟩ := sane_in hsU0 (by omega)
          have tg : (U.last != vi) = false := by rw [hgv.out]; simp
          have u0 := hBy.cell (i := 0) (v := .slice U.an U.N.length U.cn) rfl
          have u1 := hBy.cell (i := 1) (v := .slice U.ag U.G.length U.cg) rfl
          have u2 := hBy.cell (i := 2) (v := .int .i64 U.last) rfl
          have u3 := hBy.cell (i := 3) (v := .int .i64 U.now) rfl
          replace hBy := Lib.hid hBy
          replace hTy := Lib.hid hTy
          replace hUy := Lib.hid hUy
          replace hMy := Lib.hid hMy
          replace hgn := Lib.hid hgn
          replace hsU0 := Lib.hid hsU0
          replace hfU := Lib.hid hfU
          replace hsU := Lib.hid hsU
          replace hlow := Lib.hid hlow
          replace hidl := Lib.hid hidl
          go_wp2_with fail
          clear u0 u1 u2 u3
          have hNl := hUy.out.l1
          go_loopw [69] (fun iv wr => ∃ j : Nat, j ≤ U.N.length ∧ iv = .int .i64 j ∧ Gr wq wr) (fun iv _ => U.N.length - (intOf iv).toNat)
          case atStart => exact ⟨0, Nat.zero_le _, rfl, Gr.refl _⟩
          case round =>
            obtain ⟨j, hj, rfl, hg2⟩ := hrel
            obtain ⟨wp, rfl⟩ : ∃ wp : World, wp = wr := ⟨wr, rfl⟩
            have hUp := hUy.out.gr hg2
            have hBp := hBy.out.gr hg2
            have hMp := owns_mgr hMy.out hg2
            by_cases hlj : j < U.N.length
            · obtain ⟨z, hzx⟩ := get_some U.N j hlj
              have hzm : z.e ∈ U.v.nodes := List.mem_map.2 ⟨z, get_mem hzx, rfl⟩
              have hzl := hsU0.out.lw z.e hzm
              have hzp := par_there hfU.out hzm
              dsimp only at hzl
              have hno : Maps.has Dy (.int .i64 z.e.id) = false := by
                cases hh : Maps.has Dy (.int .i64 z.e.id) with
                | false => rfl
                | true => exact absurd rfl (find_none.1 (hgn.out _ hh).2.2 z.e hzm)
              obtain ⟨b2, off2, hag, hb2, _, e0, e1, e2, e3, e4, e5, e6⟩ := NodM.get hUp.any.n hzx
              obtain ⟨nb, hnb⟩ : ∃ nb, nb = wp.heap.size := ⟨_, rfl⟩
              obtain ⟨wz, hwz⟩ : ∃ wz, wz = wp.alloc (.cells #[.int .i64 z.e.id, .int .i64 z.e.par, .int .i64 z.e.srv.k, .int .i64 z.e.srv.q, .int .i64 z.e.srv.t, .int .i64 z.e.pol, .slice z.a z.e.tasks.length z.c] 42) := ⟨_, rfl⟩
              have gz : Gr wp wz := by rw [hwz]; exact (Gr.refl _).alloc _
              have hXz : Blk wz nb #[.int .i64 z.e.id, .int .i64 z.e.par, .int .i64 z.e.srv.k, .int .i64 z.e.srv.q, .int .i64 z.e.srv.t, .int .i64 z.e.pol, .slice z.a z.e.tasks.length z.c] 42 := by rw [hwz, hnb]; exact Blk.new _ _ _
              have hBz := hBp.gr gz
              have hUz := hUp.gr gz
              have hMz := owns_mgr hMp gz
              have hfi := find_any U z.e.par wz hUz.any hsU.out
              have tj : (j : Int) < U.N.length := by omega
              have u0 := hBz.cell (i := 0) (v := .slice U.an U.N.length U.cn) rfl
              have u1 := hBz.cell (i := 1) (v := .slice U.ag U.G.length U.cg) rfl
              have u2 := hBz.cell (i := 2) (v := .int .i64 U.last) rfl
              have u3 := hBz.cell (i := 3) (v := .int .i64 U.now) rfl
              have y0 := hXz.cell (i := 0) (v := .int .i64 z.e.id) rfl
              have y1 := hXz.cell (i := 1) (v := .int .i64 z.e.par) rfl
              have y2 := hXz.cell (i := 2) (v := .int .i64 z.e.srv.k) rfl
              have y3 := hXz.cell (i := 3) (v := .int .i64 z.e.srv.q) rfl
              have y4 := hXz.cell (i := 4) (v := .int .i64 z.e.srv.t) rfl
              have y5 := hXz.cell (i := 5) (v := .int .i64 z.e.pol) rfl
              have y6 := hXz.cell (i := 6) (v := .slice z.a z.e.tasks.length z.c) rfl
              replace hUp := Lib.hid hUp
              replace hBp := Lib.hid hBp
              replace hMp := Lib.hid hMp
              replace hXz := Lib.hid hXz
              replace hBz := Lib.hid hBz
              replace hUz := Lib.hid hUz
              replace hMz := Lib.hid hMz
              replace hzx := Lib.hid hzx
              replace hnb := Lib.hid hnb
              replace hwz := Lib.hid hwz
              replace hfi := Lib.hid hfi
              go_upto_region 22 with fail
              rw [← hnb.out, ← hwz.out]
              replace hag := Lib.hid hag
              go_wp2_with fail
              refine hfi.out.mono ?_
              rintro e wf ⟨nd, na, nc, hnd, rfl, gf⟩
              clear u0 u1 u2 u3 y0 y1 y2 y3 y4 y5 y6 e0 e1 e2 e3 e4 e5 e6
              obtain ⟨fb, hfb⟩ : ∃ fb, fb = wf.heap.size := ⟨_, rfl⟩
              obtain ⟨wg, hwg⟩ : ∃ wg, wg = wf.alloc (.cells #[.int .i64 nd.id, .int .i64 nd.par, .int .i64 nd.srv.k, .int .i64 nd.srv.q, .int .i64 nd.srv.t, .int .i64 nd.pol, .slice na nd.tasks.length nc] 42) := ⟨_, rfl⟩
              have gg : Gr wf wg := by rw [hwg]; exact (Gr.refl _).alloc _
              have hXg := (hXz.out.gr gf).gr gg
              have hMg := owns_mgr (owns_mgr hMz.out gf) gg
              have hlk := look_no hMg hno (by omega)
              obtain ⟨sb, hsb⟩ : ∃ sb, sb = (U.v.find z.e.par).isSome := ⟨_, rfl⟩
              rw [← hsb]
              rw [← hsb] at hzp
              have ti1 : ¬ z.e.id < 1 := by omega
              have ti1b : decide (z.e.id < 1) = false := decide_eq_false ti1
              have ti2 : ¬ vi < z.e.id := by rw [hgv.out]; omega
              have ti2b : decide (vi < z.e.id) = false := decide_eq_false ti2
              have y0 := hXg.cell (i := 0) (v := .int .i64 z.e.id) rfl
              have y1 := hXg.cell (i := 1) (v := .int .i64 z.e.par) rfl
              have y2 := hXg.cell (i := 2) (v := .int .i64 z.e.srv.k) rfl
              have y3 := hXg.cell (i := 3) (v := .int .i64 z.e.srv.q) rfl
              have y4 := hXg.cell (i := 4) (v := .int .i64 z.e.srv.t) rfl
              have y5 := hXg.cell (i := 5) (v := .int .i64 z.e.pol) rfl
              have y6 := hXg.cell (i := 6) (v := .slice z.a z.e.tasks.length z.c) rfl
              replace hXg := Lib.hid hXg
              replace hMg := Lib.hid hMg
              replace hfb := Lib.hid hfb
              replace hwg := Lib.hid hwg
              replace hnd := Lib.hid hnd
              replace hsb := Lib.hid hsb
              replace hno := Lib.hid hno
              go_upto_region 23 with fail
              rw [← hfb.out, ← hwg.out]
              cases sb with
              | true =>
                clear hzp
                go_wp2_with fail
                go_roundw
                case rel => exact ⟨j + 1, by omega, by go_num, ((hg2.trans gz).trans gf).trans gg⟩
                case measure => simp [intOf]; omega
              | false =>
                have tp0 : (z.e.par != 0) = false := by
                  rcases hzp with h1 | h1
                  · simp [h1]
                  · cases h1
                clear hzp
                go_wp2_with fail
                go_roundw
                case rel => exact ⟨j + 1, by omega, by go_num, ((hg2.trans gz).trans gf).trans gg⟩
                case measure => simp [intOf]; omega
            · have tj : ¬ (j : Int) < U.N.length := by omega
              have tjb : decide ((j : Int) < U.N.length) = false := decide_eq_false tj
              obtain ⟨w0, hrr, hrg0, hg0, hs0⟩ := hMp.range Tryd.keyedInt Tryd.underlying54
              have gx0 : GrX [] wp w0 := ⟨hg0.os, hg0.tape, hg0.output, hg0.size, fun k hk _ => hg0.block k hk (by simp)⟩
              have gl0 : Gr wp w0 := gx0.all (Gr.refl wp) (fun y hy => by cases hy)
              obtain ⟨ib, hib⟩ : ∃ ib, ib = wp.heap.size := ⟨_, rfl⟩
              rw [← hib] at hrr hrg0
              have hib2 : wp.heap.size ≤ ib := by omega
              replace hBp := Lib.hid hBp
              replace hUp := Lib.hid hUp
              replace hMp := Lib.hid hMp
              replace hrg0 := Lib.hid hrg0
              replace hg0 := Lib.hid hg0
              replace hs0 := Lib.hid hs0
              replace hib := Lib.hid hib
              replace hib2 := Lib.hid hib2
              go_wp2_with fail
              go_loopw [14] (fun _ wr => ∃ (left : Lit → Bool) (cnt : Nat), Hid (wr.ranges Tryd.prog 3 (plainElem Tryd.prog 4) mb ib (k + 1) Dy left cnt ∧ (∀ kl, left kl = true → Maps.has Dy kl = true)) ∧ Gr wp wr) (fun _ wr => wr.rangeLeft mb ib)
              case atStart => exact ⟨_, _, Lib.hid ⟨hrg0.out, fun _ h => h⟩, gl0⟩
              case round =>
                obtain ⟨left, cnt, hJ, hg3⟩ := hrel
                obtain ⟨hrg, hleft⟩ := hJ.out
                clear hJ
                obtain ⟨wp3, rfl⟩ : ∃ wp3 : World, wp3 = wr := ⟨wr, rfl⟩
                rcases hrg.next Tryd.keyedInt 0 with ⟨h0, hl, hrn⟩ | ⟨key, v, kl, y, wn, cnt2, hkey, hlk, hvv, hat, hrn, hrg1, hlt1, hgr, hsz, hen⟩
                · have hBe := (hBy.out.gr hg2).gr hg3
                  have hTe := (hTy.out.gr hg2).gr hg3
                  have hUe := (hUy.out.gr hg2).gr hg3
                  have hMe := hrg.owns
                  have g2e := (g2y.trans hg2).trans hg3
                  have tf := fun i => hTe.free i
                  have t0 := hTe.cell (i := 0) (v := .slice T.an T.N.length T.cn) rfl
                  have t1 := hTe.cell (i := 1) (v := .slice T.ag T.G.length T.cg) rfl
                  have t2 := hTe.cell (i := 2) (v := .int .i64 T.last) rfl
                  have t3 := hTe.cell (i := 3) (v := .int .i64 T.now) rfl
                  have u0 := hBe.cell (i := 0) (v := .slice U.an U.N.length U.cn) rfl
                  have u1 := hBe.cell (i := 1) (v := .slice U.ag U.G.length U.cg) rfl
                  have u2 := hBe.cell (i := 2) (v := .int .i64 U.last) rfl
                  have u3 := hBe.cell (i := 3) (v := .int .i64 U.now) rfl
                  replace hBe := Lib.hid hBe
                  replace hTe := Lib.hid hTe
                  replace hUe := Lib.hid hUe
                  replace hMe := Lib.hid hMe
                  replace hrg := Lib.hid hrg
                  replace hleft := Lib.hid hleft
                  replace hl := Lib.hid hl
                  replace h0 := Lib.hid h0
                  go_wp2_with fail
                  go_roundw
                  case rel =>
                    obtain ⟨h1, h2⟩ := held_set (wf := _) (B := wa.heap.size) (by have := ztb.out; have := zua.out; omega) hTe.out rfl hUe.out rfl g2e h2z.out
                    exact ⟨k + 1, U, vi, by omega, by omega, rfl, by go_num, Lib.hid ⟨h1, by rw [hvn.out]; exact hU.out, hgv.out, Dy, owns_mgrx (S := [tb]) hMe.out (((((GrX.refl _ _).set (.inl (by simp)) _).set (.inl (by simp)) _).set (.inl (by simp)) _).set (.inl (by simp)) _) (by simp; omega), hgn.out⟩, h2⟩
                  case measure => simp [intOf]; omega
                · obtain ⟨xk, rfl, rfl, hwf⟩ := Maps.keyOf_int_inv Tryd.underlying3 hkey
                  have hgo := hgn.out xk (hleft _ hlk)
                  obtain ⟨ho1, ho2, ho3⟩ := hgo
                  have gxn : GrX [ib] wp3 wn := ⟨hgr.os, hgr.tape, hgr.output, hgr.size, fun k hk hm => hgr.block k hk (fun e => hm (by injection e with e; rw [← e]; simp))⟩
                  have gn : Gr wp wn := gxn.all hg3 (fun y hy => by rw [List.mem_singleton.1 hy]; exact hib2.out)
                  have hBn := (hBy.out.gr hg2).gr gn
                  have hUn := (hUy.out.gr hg2).gr gn
                  have hfi := find_any U xk wn hUn.any hsU.out
                  have hxb : -9223372036854775808 ≤ xk ∧ xk ≤ 9223372036854775807 := by have h2 : xk ≤ U.last := ho2; omega
                  have u0 := hBn.cell (i := 0) (v := .slice U.an U.N.length U.cn) rfl
                  have u1 := hBn.cell (i := 1) (v := .slice U.ag U.G.length U.cg) rfl
                  have u2 := hBn.cell (i := 2) (v := .int .i64 U.last) rfl
                  have u3 := hBn.cell (i := 3) (v := .int .i64 U.now) rfl
                  replace hBn := Lib.hid hBn
                  replace hUn := Lib.hid hUn
                  replace hfi := Lib.hid hfi
                  replace hrg := Lib.hid hrg
                  replace hleft := Lib.hid hleft
                  replace hat := Lib.hid hat
                  replace hvv := Lib.hid hvv
                  replace hkey := Lib.hid hkey
                  replace hgr := Lib.hid hgr
                  go_wp2_with fail
                  refine hfi.out.mono ?_
                  rintro e wf ⟨nd, na, nc, hnd, rfl, gf⟩
                  rw [ho3]
                  clear u0 u1 u2 u3
                  obtain ⟨fb, hfb⟩ : ∃ fb, fb = wf.heap.size := ⟨_, rfl⟩
                  obtain ⟨wg, hwg⟩ : ∃ wg, wg = wf.alloc (.cells #[.int .i64 nd.id, .int .i64 nd.par, .int .i64 nd.srv.k, .int .i64 nd.srv.q, .int .i64 nd.srv.t, .int .i64 nd.pol, .slice na nd.tasks.length nc] 42) := ⟨_, rfl⟩
                  have gg : Gr wf wg := by rw [hwg]; exact (Gr.refl _).alloc _
                  have hBg := (hBn.out.gr gf).gr gg
                  have hUg := (hUn.out.gr gf).gr gg
                  have hdp : U.v.depth xk = -1 := depth_none (by omega) ho3 _ _
                  have hde := depth_any U xk wg hUg.any hsU.out hlow.out
                  rw [hdp] at hde
                  have u0 := hBg.cell (i := 0) (v := .slice U.an U.N.length U.cn) rfl
                  have u1 := hBg.cell (i := 1) (v := .slice U.ag U.G.length U.cg) rfl
                  have u2 := hBg.cell (i := 2) (v := .int .i64 U.last) rfl
                  have u3 := hBg.cell (i := 3) (v := .int .i64 U.now) rfl
                  replace hBg := Lib.hid hBg
                  replace hUg := Lib.hid hUg
                  replace hde := Lib.hid hde
                  replace hfb := Lib.hid hfb
                  replace hwg := Lib.hid hwg
                  replace hnd := Lib.hid hnd
                  replace hdp := Lib.hid hdp
                  go_upto_region 30 with fail
                  rw [← hfb.out, ← hwg.out]
                  go_wp2_with fail
                  refine hde.out.mono ?_
                  rintro e wd ⟨rfl, gd⟩
                  have hrg2 := ranges_gr (ranges_gr (ranges_gr hrg1 gf) gg) gd
                  replace hrg2 := Lib.hid hrg2
                  replace hrg1 := Lib.hid hrg1
                  go_wp2_with fail
                  go_roundw
                  case rel => exact ⟨_, cnt2, Lib.hid ⟨hrg2.out, fun kl h => hleft.out kl (by simp at h; exact h.1)⟩, ((gn.trans gf).trans gg).trans gd⟩
                  case measure => rw [hrg2.out.left_eq, hrg.out.left_eq]; omega
        · have hgv : gi = U.last := by rw [hlU.out, hl1v, hgi.out]
          replace hgv := Lib.hid hgv
          by_cases hc0 : vc = 0
          · subst hc0
            have hk1 : x.e.kd ≠ 1 := fun h => hnc ⟨rfl, h⟩
            have tk1 : (x.e.kd == 1) = false := by simpa using hk1
            by_cases hk3 : x.e.kd = 3
            · have tk3 : (x.e.kd == 3) = true := by simpa using hk3
              have hgx := hgd.out hk3 rfl
              rw [← hU.out] at hgx
              dsimp only at hgx
              obtain ⟨hx1, hx2, hx3⟩ := hgx
              obtain ⟨wy, hru, hMy, gxy⟩ := store_yes hMq.out (x := vi) (by unfold maxLen; omega) (by have := hlU.out; have hx2b : vi ≤ U.last := hx2; omega)
              replace hx2 := Lib.hid hx2
              replace hx3 := Lib.hid hx3
              replace hx1 := Lib.hid hx1
              replace hl1v := Lib.hid hl1v
              replace hk1 := Lib.hid hk1
              replace hk3 := Lib.hid hk3
              replace hMy := Lib.hid hMy
              replace gxy := Lib.hid gxy
              replace hnc := Lib.hid hnc
              go_upto_region 17 with fail
              clear hru r0 r1 x0 x1 x2 x3 x4 x5 x6 x7 u0 u1 u2 u3
              have hnt : tb ∉ [mb] := by simp; omega
              have hnu : ub ∉ [mb] := by have := hub.out; have := zmb.out; have := zub.out; have := zua.out; simp; omega
              have hTy := hTq.out.b.grx gxy.out hnt
              have hBy := hBwq.out.grx gxy.out hnu
              have hUy := hUq.out.grx gxy.out (fun y hy hk => by have := zmb.out; have := zua.out; simp at hy; omega)
              have gWy : Gr W wy := gxy.out.all gWq (fun y hy => by have := g2.size; have := hT3.out.b.lt; have := h2z.out; simp at hy; omega)
              have g2y : Gr w2 wy := gxy.out.all g2q.out (fun y hy => by have := h2z.out; simp at hy; omega)
              obtain ⟨Dy, hDy⟩ : ∃ Dy, Dy = D.put (.int .i64 vi) (.lit (.bool true)) := ⟨_, rfl⟩
              replace hMy := hMy.out
              rw [← hDy] at hMy
              have hgn : ∀ y : Int, Maps.has Dy (.int .i64 y) = true → GoneP U.v y := fun y h => by
                rw [hDy] at h
                rcases has_put h with h1 | h1
                · rw [h1]; exact ⟨hx1.out, hx2.out, hx3.out⟩
                · rw [hU.out]; exact hgs.out y (hgn0.out y h1)
              replace hDy := Lib.hid hDy
              replace hnt := Lib.hid hnt
              replace hnu := Lib.hid hnu
              have hsU0 : Sane (k + 1) U.v := by rw [hU.out]; exact hsx.out
              have hfU : Fit U.v := by rw [hU.out]; exact hfx.out
              obtain ⟨hsU, hlow, hidl, hll0, hll1, _, _, _⟩ := sane_in hsU0 (by omega)
              have tg : (U.last != gi) = false := by rw [hgv.out]; simp
              have u0 := hBy.cell (i := 0) (v := .slice U.an U.N.length U.cn) rfl
              have u1 := hBy.cell (i := 1) (v := .slice U.ag U.G.length U.cg) rfl
              have u2 := hBy.cell (i := 2) (v := .int .i64 U.last) rfl
              have u3 := hBy.cell (i := 3) (v := .int .i64 U.now) rfl
              replace hBy := Lib.hid hBy
              replace hTy := Lib.hid hTy
              replace hUy := Lib.hid hUy
              replace hMy := Lib.hid hMy
              replace hgn := Lib.hid hgn
              replace hsU0 := Lib.hid hsU0
              replace hfU := Lib.hid hfU
              replace hsU := Lib.hid hsU
              replace hlow := Lib.hid hlow
              replace hidl := Lib.hid hidl
              go_wp2_with fail
              clear u0 u1 u2 u3
              have hNl := hUy.out.l1
              go_loopw [69] (fun iv wr => ∃ j : Nat, j ≤ U.N.length ∧ iv = .int .i64 j ∧ Gr wy wr) (fun iv _ => U.N.length - (intOf iv).toNat)
              case atStart => exact ⟨0, Nat.zero_le _, rfl, Gr.refl _⟩
              case round =>
                obtain ⟨j, hj, rfl, hg2⟩ := hrel
                obtain ⟨wp, rfl⟩ : ∃ wp : World, wp = wr := ⟨wr, rfl⟩
                have hUp := hUy.out.gr hg2
                have hBp := hBy.out.gr hg2
                have hMp := owns_mgr hMy.out hg2
                by_cases hlj : j < U.N.length
                · obtain ⟨z, hzx⟩ := get_some U.N j hlj
                  have hzm : z.e ∈ U.v.nodes := List.mem_map.2 ⟨z, get_mem hzx, rfl⟩
                  have hzl := hsU0.out.lw z.e hzm
                  have hzp := par_there hfU.out hzm
                  dsimp only at hzl
                  have hno : Maps.has Dy (.int .i64 z.e.id) = false := by
                    cases hh : Maps.has Dy (.int .i64 z.e.id) with
                    | false => rfl
                    | true => exact absurd rfl (find_none.1 (hgn.out _ hh).2.2 z.e hzm)
                  obtain ⟨b2, off2, hag, hb2, _, e0, e1, e2, e3, e4, e5, e6⟩ := NodM.get hUp.any.n hzx
                  obtain ⟨nb, hnb⟩ : ∃ nb, nb = wp.heap.size := ⟨_, rfl⟩
                  obtain ⟨wz, hwz⟩ : ∃ wz, wz = wp.alloc (.cells #[.int .i64 z.e.id, .int .i64 z.e.par, .int .i64 z.e.srv.k, .int .i64 z.e.srv.q, .int .i64 z.e.srv.t, .int .i64 z.e.pol, .slice z.a z.e.tasks.length z.c] 42) := ⟨_, rfl⟩
                  have gz : Gr wp wz := by rw [hwz]; exact (Gr.refl _).alloc _
                  have hXz : Blk wz nb #[.int .i64 z.e.id, .int .i64 z.e.par, .int .i64 z.e.srv.k, .int .i64 z.e.srv.q, .int .i64 z.e.srv.t, .int .i64 z.e.pol, .slice z.a z.e.tasks.length z.c] 42 := by rw [hwz, hnb]; exact Blk.new _ _ _
                  have hBz := hBp.gr gz
                  have hUz := hUp.gr gz
                  have hMz := owns_mgr hMp gz
                  have hfi := find_any U z.e.par wz hUz.any hsU.out
                  have tj : (j : Int) < U.N.length := by omega
                  have u0 := hBz.cell (i := 0) (v := .slice U.an U.N.length U.cn) rfl
                  have u1 := hBz.cell (i := 1) (v := .slice U.ag U.G.length U.cg) rfl
                  have u2 := hBz.cell (i := 2) (v := .int .i64 U.last) rfl
                  have u3 := hBz.cell (i := 3) (v := .int .i64 U.now) rfl
                  have y0 := hXz.cell (i := 0) (v := .int .i64 z.e.id) rfl
                  have y1 := hXz.cell (i := 1) (v := .int .i64 z.e.par) rfl
                  have y2 := hXz.cell (i := 2) (v := .int .i64 z.e.srv.k) rfl
                  have y3 := hXz.cell (i := 3) (v := .int .i64 z.e.srv.q) rfl
                  have y4 := hXz.cell (i := 4) (v := .int .i64 z.e.srv.t) rfl
                  have y5 := hXz.cell (i := 5) (v := .int .i64 z.e.pol) rfl
                  have y6 := hXz.cell (i := 6) (v := .slice z.a z.e.tasks.length z.c) rfl
                  replace hUp := Lib.hid hUp
                  replace hBp := Lib.hid hBp
                  replace hMp := Lib.hid hMp
                  replace hXz := Lib.hid hXz
                  replace hBz := Lib.hid hBz
                  replace hUz := Lib.hid hUz
                  replace hMz := Lib.hid hMz
                  replace hzx := Lib.hid hzx
                  replace hnb := Lib.hid hnb
                  replace hwz := Lib.hid hwz
                  replace hfi := Lib.hid hfi
                  go_upto_region 22 with fail
                  rw [← hnb.out, ← hwz.out]
                  replace hag := Lib.hid hag
                  go_wp2_with fail
                  refine hfi.out.mono ?_
                  rintro e wf ⟨nd, na, nc, hnd, rfl, gf⟩
                  clear u0 u1 u2 u3 y0 y1 y2 y3 y4 y5 y6 e0 e1 e2 e3 e4 e5 e6
                  obtain ⟨fb, hfb⟩ : ∃ fb, fb = wf.heap.size := ⟨_, rfl⟩
                  obtain ⟨wg, hwg⟩ : ∃ wg, wg = wf.alloc (.cells #[.int .i64 nd.id, .int .i64 nd.par, .int .i64 nd.srv.k, .int .i64 nd.srv.q, .int .i64 nd.srv.t, .int .i64 nd.pol, .slice na nd.tasks.length nc] 42) := ⟨_, rfl⟩
                  have gg : Gr wf wg := by rw [hwg]; exact (Gr.refl _).alloc _
                  have hXg := (hXz.out.gr gf).gr gg
                  have hMg := owns_mgr (owns_mgr hMz.out gf) gg
                  have hlk := look_no hMg hno (by omega)
                  obtain ⟨sb, hsb⟩ : ∃ sb, sb = (U.v.find z.e.par).isSome := ⟨_, rfl⟩
                  rw [← hsb]
                  rw [← hsb] at hzp
                  have ti1 : ¬ z.e.id < 1 := by omega
                  have ti1b : decide (z.e.id < 1) = false := decide_eq_false ti1
                  have ti2 : ¬ gi < z.e.id := by rw [hgv.out]; omega
                  have ti2b : decide (gi < z.e.id) = false := decide_eq_false ti2
                  have y0 := hXg.cell (i := 0) (v := .int .i64 z.e.id) rfl
                  have y1 := hXg.cell (i := 1) (v := .int .i64 z.e.par) rfl
                  have y2 := hXg.cell (i := 2) (v := .int .i64 z.e.srv.k) rfl
                  have y3 := hXg.cell (i := 3) (v := .int .i64 z.e.srv.q) rfl
                  have y4 := hXg.cell (i := 4) (v := .int .i64 z.e.srv.t) rfl
                  have y5 := hXg.cell (i := 5) (v := .int .i64 z.e.pol) rfl
                  have y6 := hXg.cell (i := 6) (v := .slice z.a z.e.tasks.length z.c) rfl
                  replace hXg := Lib.hid hXg
                  replace hMg := Lib.hid hMg
                  replace hfb := Lib.hid hfb
                  replace hwg := Lib.hid hwg
                  replace hnd := Lib.hid hnd
                  replace hsb := Lib.hid hsb
                  replace hno := Lib.hid hno
                  go_upto_region 23 with fail
                  rw [← hfb.out, ← hwg.out]
                  cases sb with
                  | true =>
                    clear hzp
                    go_wp2_with fail
                    go_roundw
                    case rel => exact ⟨j + 1, by omega, by go_num, ((hg2.trans gz).trans gf).trans gg⟩
                    case measure => simp [intOf]; omega
                  | false =>
                    have tp0 : (z.e.par != 0) = false := by
                      rcases hzp with h1 | h1
                      · simp [h1]
                      · cases h1
                    clear hzp
                    go_wp2_with fail
                    go_roundw
                    case rel => exact ⟨j + 1, by omega, by go_num, ((hg2.trans gz).trans gf).trans gg⟩
                    case measure => simp [intOf]; omega
                · have tj : ¬ (j : Int) < U.N.length := by omega
                  have tjb : decide ((j : Int) < U.N.length) = false := decide_eq_false tj
                  obtain ⟨w0, hrr, hrg0, hg0, hs0⟩ := hMp.range Tryd.keyedInt Tryd.underlying54
                  have gx0 : GrX [] wp w0 := ⟨hg0.os, hg0.tape, hg0.output, hg0.size, fun k hk _ => hg0.block k hk (by simp)⟩
                  have gl0 : Gr wp w0 := gx0.all (Gr.refl wp) (fun y hy => by cases hy)
                  obtain ⟨ib, hib⟩ : ∃ ib, ib = wp.heap.size := ⟨_, rfl⟩
                  rw [← hib] at hrr hrg0
                  have hib2 : wp.heap.size ≤ ib := by omega
                  replace hBp := Lib.hid hBp
                  replace hUp := Lib.hid hUp
                  replace hMp := Lib.hid hMp
                  replace hrg0 := Lib.hid hrg0
                  replace hg0 := Lib.hid hg0
                  replace hs0 := Lib.hid hs0
                  replace hib := Lib.hid hib
                  replace hib2 := Lib.hid hib2
                  go_wp2_with fail
                  go_loopw [14] (fun _ wr => ∃ (left : Lit → Bool) (cnt : Nat), Hid (wr.ranges Tryd.prog 3 (plainElem Tryd.prog 4) mb ib (k + 1) Dy left cnt ∧ (∀ kl, left kl = true → Maps.has Dy kl = true)) ∧ Gr wp wr) (fun _ wr => wr.rangeLeft mb ib)
                  case atStart => exact ⟨_, _, Lib.hid ⟨hrg0.out, fun _ h => h⟩, gl0⟩
                  case round =>
                    obtain ⟨left, cnt, hJ, hg3⟩ := hrel
                    obtain ⟨hrg, hleft⟩ := hJ.out
                    clear hJ
                    obtain ⟨wp3, rfl⟩ : ∃ wp3 : World, wp3 = wr := ⟨wr, rfl⟩
                    rcases hrg.next Tryd.keyedInt 0 with ⟨h0, hl, hrn⟩ | ⟨key, v, kl, y, wn, cnt2, hkey, hlk, hvv, hat, hrn, hrg1, hlt1, hgr, hsz, hen⟩
                    · have hBe := (hBy.out.gr hg2).gr hg3
                      have hTe := (hTy.out.gr hg2).gr hg3
                      have hUe := (hUy.out.gr hg2).gr hg3
                      have hMe := hrg.owns
                      have g2e := (g2y.trans hg2).trans hg3
                      have tf := fun i => hTe.free i
                      have t0 := hTe.cell (i := 0) (v := .slice T.an T.N.length T.cn) rfl
                      have t1 := hTe.cell (i := 1) (v := .slice T.ag T.G.length T.cg) rfl
                      have t2 := hTe.cell (i := 2) (v := .int .i64 T.last) rfl
                      have t3 := hTe.cell (i := 3) (v := .int .i64 T.now) rfl
                      have u0 := hBe.cell (i := 0) (v := .slice U.an U.N.length U.cn) rfl
                      have u1 := hBe.cell (i := 1) (v := .slice U.ag U.G.length U.cg) rfl
                      have u2 := hBe.cell (i := 2) (v := .int .i64 U.last) rfl
                      have u3 := hBe.cell (i := 3) (v := .int .i64 U.now) rfl
                      replace hBe := Lib.hid hBe
                      replace hTe := Lib.hid hTe
                      replace hUe := Lib.hid hUe
                      replace hMe := Lib.hid hMe
                      replace hrg := Lib.hid hrg
                      replace hleft := Lib.hid hleft
                      replace hl := Lib.hid hl
                      replace h0 := Lib.hid h0
                      go_wp2_with fail
                      go_roundw
                      case rel =>
                        obtain ⟨h1, h2⟩ := held_set (wf := _) (B := wa.heap.size) (by have := ztb.out; have := zua.out; omega) hTe.out rfl hUe.out rfl g2e h2z.out
                        exact ⟨k + 1, U, gi, by omega, by omega, rfl, by go_num, Lib.hid ⟨h1, by rw [hvn.out]; exact hU.out, hgv.out, Dy, owns_mgrx (S := [tb]) hMe.out (((((GrX.refl _ _).set (.inl (by simp)) _).set (.inl (by simp)) _).set (.inl (by simp)) _).set (.inl (by simp)) _) (by simp; omega), hgn.out⟩, h2⟩
                      case measure => simp [intOf]; omega
                    · obtain ⟨xk, rfl, rfl, hwf⟩ := Maps.keyOf_int_inv Tryd.underlying3 hkey
                      have hgo := hgn.out xk (hleft _ hlk)
                      obtain ⟨ho1, ho2, ho3⟩ := hgo
                      have gxn : GrX [ib] wp3 wn := ⟨hgr.os, hgr.tape, hgr.output, hgr.size, fun k hk hm => hgr.block k hk (fun e => hm (by injection e with e; rw [← e]; simp))⟩
                      have gn : Gr wp wn := gxn.all hg3 (fun y hy => by rw [List.mem_singleton.1 hy]; exact hib2.out)
                      have hBn := (hBy.out.gr hg2).gr gn
                      have hUn := (hUy.out.gr hg2).gr gn
                      have hfi := find_any U xk wn hUn.any hsU.out
                      have hxb : -9223372036854775808 ≤ xk ∧ xk ≤ 9223372036854775807 := by have h2 : xk ≤ U.last := ho2; omega
                      have u0 := hBn.cell (i := 0) (v := .slice U.an U.N.length U.cn) rfl
                      have u1 := hBn.cell (i := 1) (v := .slice U.ag U.G.length U.cg) rfl
                      have u2 := hBn.cell (i := 2) (v := .int .i64 U.last) rfl
                      have u3 := hBn.cell (i := 3) (v := .int .i64 U.now) rfl
                      replace hBn := Lib.hid hBn
                      replace hUn := Lib.hid hUn
                      replace hfi := Lib.hid hfi
                      replace hrg := Lib.hid hrg
                      replace hleft := Lib.hid hleft
                      replace hat := Lib.hid hat
                      replace hvv := Lib.hid hvv
                      replace hkey := Lib.hid hkey
                      replace hgr := Lib.hid hgr
                      go_wp2_with fail
                      refine hfi.out.mono ?_
                      rintro e wf ⟨nd, na, nc, hnd, rfl, gf⟩
                      rw [ho3]
                      clear u0 u1 u2 u3
                      obtain ⟨fb, hfb⟩ : ∃ fb, fb = wf.heap.size := ⟨_, rfl⟩
                      obtain ⟨wg, hwg⟩ : ∃ wg, wg = wf.alloc (.cells #[.int .i64 nd.id, .int .i64 nd.par, .int .i64 nd.srv.k, .int .i64 nd.srv.q, .int .i64 nd.srv.t, .int .i64 nd.pol, .slice na nd.tasks.length nc] 42) := ⟨_, rfl⟩
                      have gg : Gr wf wg := by rw [hwg]; exact (Gr.refl _).alloc _
                      have hBg := (hBn.out.gr gf).gr gg
                      have hUg := (hUn.out.gr gf).gr gg
                      have hdp : U.v.depth xk = -1 := depth_none (by omega) ho3 _ _
                      have hde := depth_any U xk wg hUg.any hsU.out hlow.out
                      rw [hdp] at hde
                      have u0 := hBg.cell (i := 0) (v := .slice U.an U.N.length U.cn) rfl
                      have u1 := hBg.cell (i := 1) (v := .slice U.ag U.G.length U.cg) rfl
                      have u2 := hBg.cell (i := 2) (v := .int .i64 U.last) rfl
                      have u3 := hBg.cell (i := 3) (v := .int .i64 U.now) rfl
                      replace hBg := Lib.hid hBg
                      replace hUg := Lib.hid hUg
                      replace hde := Lib.hid hde
                      replace hfb := Lib.hid hfb
                      replace hwg := Lib.hid hwg
                      replace hnd := Lib.hid hnd
                      replace hdp := Lib.hid hdp
                      go_upto_region 30 with fail
                      rw [← hfb.out, ← hwg.out]
                      go_wp2_with fail
                      refine hde.out.mono ?_
                      rintro e wd ⟨rfl, gd⟩
                      have hrg2 := ranges_gr (ranges_gr (ranges_gr hrg1 gf) gg) gd
                      replace hrg2 := Lib.hid hrg2
                      replace hrg1 := Lib.hid hrg1
                      go_wp2_with fail
                      go_roundw
                      case rel => exact ⟨_, cnt2, Lib.hid ⟨hrg2.out, fun kl h => hleft.out kl (by simp at h; exact h.1)⟩, ((gn.trans gf).trans gg).trans gd⟩
                      case measure => rw [hrg2.out.left_eq, hrg.out.left_eq]; omega
            · have tk3 : (x.e.kd == 3) = false := by simpa using hk3
              replace hl1v := Lib.hid hl1v
              replace hk1 := Lib.hid hk1
              replace hk3 := Lib.hid hk3
              replace hnc := Lib.hid hnc
              go_upto_region 17 with fail
              clear r0 r1 x0 x1 x2 x3 x4 x5 x6 x7 u0 u1 u2 u3
              have hTy := hTq.out.b
              have hBy := hBwq.out
              have hUy := hUq.out
              have gWy := gWq
              have g2y := g2q.out
              obtain ⟨Dy, hDy⟩ : ∃ Dy, Dy = D := ⟨_, rfl⟩
              have hMy : GoneW wq mb (k + 1) Dy := by rw [hDy]; exact hMq.out.mono (by omega)
              have hgn : ∀ y : Int, Maps.has Dy (.int .i64 y) = true → GoneP U.v y := fun y h => by rw [hU.out]; exact hgs.out y (hgn0.out y (by rw [← hDy]; exact h))
              replace hDy := Lib.hid hDy
              have hsU0 : Sane (k + 1) U.v := by rw [hU.out]; exact hsx.out
              have hfU : Fit U.v := by rw [hU.out]; exact hfx.out
              obtain ⟨hsU, hlow, hidl, hll0, hll1, _, _, _⟩ := sane_in hsU0 (by omega)
              have tg : (U.last != gi) = false := by rw [hgv.out]; simp
              have u0 := hBy.cell (i := 0) (v := .slice U.an U.N.length U.cn) rfl
              have u1 := hBy.cell (i := 1) (v := .slice U.ag U.G.length U.cg) rfl
              have u2 := hBy.cell (i := 2) (v := .int .i64 U.last) rfl
              have u3 := hBy.cell (i := 3) (v := .int .i64 U.now) rfl
              replace hBy := Lib.hid hBy
              replace hTy := Lib.hid hTy
              replace hUy := Lib.hid hUy
              replace hMy := Lib.hid hMy
              replace hgn := Lib.hid hgn
              replace hsU0 := Lib.hid hsU0
              replace hfU := Lib.hid hfU
              replace hsU := Lib.hid hsU
              replace hlow := Lib.hid hlow
              replace hidl := Lib.hid hidl
              go_wp2_with fail
              clear u0 u1 u2 u3
              have hNl := hUy.out.l1
              go_loopw [69] (fun iv wr => ∃ j : Nat, j ≤ U.N.length ∧ iv = .int .i64 j ∧ Gr wq wr) (fun iv _ => U.N.length - (intOf iv).toNat)
              case atStart => exact ⟨0, Nat.zero_le _, rfl, Gr.refl _⟩
              case round =>
                obtain ⟨j, hj, rfl, hg2⟩ := hrel
                obtain ⟨wp, rfl⟩ : ∃ wp : World, wp = wr := ⟨wr, rfl⟩
                have hUp := hUy.out.gr hg2
                have hBp := hBy.out.gr hg2
                have hMp := owns_mgr hMy.out hg2
                by_cases hlj : j < U.N.length
                · obtain ⟨z, hzx⟩ := get_some U.N j hlj
                  have hzm : z.e ∈ U.v.nodes := List.mem_map.2 ⟨z, get_mem hzx, rfl⟩
                  have hzl := hsU0.out.lw z.e hzm
                  have hzp := par_there hfU.out hzm
                  dsimp only at hzl
                  have hno : Maps.has Dy (.int .i64 z.e.id) = false := by
                    cases hh : Maps.has Dy (.int .i64 z.e.id) with
                    | false => rfl
                    | true => exact absurd rfl (find_none.1 (hgn.out _ hh).2.2 z.e hzm)
                  obtain ⟨b2, off2, hag, hb2, _, e0, e1, e2, e3, e4, e5, e6⟩ := NodM.get hUp.any.n hzx
                  obtain ⟨nb, hnb⟩ : ∃ nb, nb = wp.heap.size := ⟨_, rfl⟩
                  obtain ⟨wz, hwz⟩ : ∃ wz, wz = wp.alloc (.cells #[.int .i64 z.e.id, .int .i64 z.e.par, .int .i64 z.e.srv.k, .int .i64 z.e.srv.q, .int .i64 z.e.srv.t, .int .i64 z.e.pol, .slice z.a z.e.tasks.length z.c] 42) := ⟨_, rfl⟩
                  have gz : Gr wp wz := by rw [hwz]; exact (Gr.refl _).alloc _
                  have hXz : Blk wz nb #[.int .i64 z.e.id, .int .i64 z.e.par, .int .i64 z.e.srv.k, .int .i64 z.e.srv.q, .int .i64 z.e.srv.t, .int .i64 z.e.pol, .slice z.a z.e.tasks.length z.c] 42 := by rw [hwz, hnb]; exact Blk.new _ _ _
                  have hBz := hBp.gr gz
                  have hUz := hUp.gr gz
                  have hMz := owns_mgr hMp gz
                  have hfi := find_any U z.e.par wz hUz.any hsU.out
                  have tj : (j : Int) < U.N.length := by omega
                  have u0 := hBz.cell (i := 0) (v := .slice U.an U.N.length U.cn) rfl
                  have u1 := hBz.cell (i := 1) (v := .slice U.ag U.G.length U.cg) rfl
                  have u2 := hBz.cell (i := 2) (v := .int .i64 U.last) rfl
                  have u3 := hBz.cell (i := 3) (v := .int .i64 U.now) rfl
                  have y0 := hXz.cell (i := 0) (v := .int .i64 z.e.id) rfl
                  have y1 := hXz.cell (i := 1) (v := .int .i64 z.e.par) rfl
                  have y2 := hXz.cell (i := 2) (v := .int .i64 z.e.srv.k) rfl
                  have y3 := hXz.cell (i := 3) (v := .int .i64 z.e.srv.q) rfl
                  have y4 := hXz.cell (i := 4) (v := .int .i64 z.e.srv.t) rfl
                  have y5 := hXz.cell (i := 5) (v := .int .i64 z.e.pol) rfl
                  have y6 := hXz.cell (i := 6) (v := .slice z.a z.e.tasks.length z.c) rfl
                  replace hUp := Lib.hid hUp
                  replace hBp := Lib.hid hBp
                  replace hMp := Lib.hid hMp
                  replace hXz := Lib.hid hXz
                  replace hBz := Lib.hid hBz
                  replace hUz := Lib.hid hUz
                  replace hMz := Lib.hid hMz
                  replace hzx := Lib.hid hzx
                  replace hnb := Lib.hid hnb
                  replace hwz := Lib.hid hwz
                  replace hfi := Lib.hid hfi
                  go_upto_region 22 with fail
                  rw [← hnb.out, ← hwz.out]
                  replace hag := Lib.hid hag
                  go_wp2_with fail
                  refine hfi.out.mono ?_
                  rintro e wf ⟨nd, na, nc, hnd, rfl, gf⟩
                  clear u0 u1 u2 u3 y0 y1 y2 y3 y4 y5 y6 e0 e1 e2 e3 e4 e5 e6
                  obtain ⟨fb, hfb⟩ : ∃ fb, fb = wf.heap.size := ⟨_, rfl⟩
                  obtain ⟨wg, hwg⟩ : ∃ wg, wg = wf.alloc (.cells #[.int .i64 nd.id, .int .i64 nd.par, .int .i64 nd.srv.k, .int .i64 nd.srv.q, .int .i64 nd.srv.t, .int .i64 nd.pol, .slice na nd.tasks.length nc] 42) := ⟨_, rfl⟩
                  have gg : Gr wf wg := by rw [hwg]; exact (Gr.refl _).alloc _
                  have hXg := (hXz.out.gr gf).gr gg
                  have hMg := owns_mgr (owns_mgr hMz.out gf) gg
                  have hlk := look_no hMg hno (by omega)
                  obtain ⟨sb, hsb⟩ : ∃ sb, sb = (U.v.find z.e.par).isSome := ⟨_, rfl⟩
                  rw [← hsb]
                  rw [← hsb] at hzp
                  have ti1 : ¬ z.e.id < 1 := by omega
                  have ti1b : decide (z.e.id < 1) = false := decide_eq_false ti1
                  have ti2 : ¬ gi < z.e.id := by rw [hgv.out]; omega
                  have ti2b : decide (gi < z.e.id) = false := decide_eq_false ti2
                  have y0 := hXg.cell (i := 0) (v := .int .i64 z.e.id) rfl
                  have y1 := hXg.cell (i := 1) (v := .int .i64 z.e.par) rfl
                  have y2 := hXg.cell (i := 2) (v := .int .i64 z.e.srv.k) rfl
                  have y3 := hXg.cell (i := 3) (v := .int .i64 z.e.srv.q) rfl
                  have y4 := hXg.cell (i := 4) (v := .int .i64 z.e.srv.t) rfl
                  have y5 := hXg.cell (i := 5) (v := .int .i64 z.e.pol) rfl
                  have y6 := hXg.cell (i := 6) (v := .slice z.a z.e.tasks.length z.c) rfl
                  replace hXg := Lib.hid hXg
                  replace hMg := Lib.hid hMg
                  replace hfb := Lib.hid hfb
                  replace hwg := Lib.hid hwg
                  replace hnd := Lib.hid hnd
                  replace hsb := Lib.hid hsb
                  replace hno := Lib.hid hno
                  go_upto_region 23 with fail
                  rw [← hfb.out, ← hwg.out]
                  cases sb with
                  | true =>
                    clear hzp
                    go_wp2_with fail
                    go_roundw
                    case rel => exact ⟨j + 1, by omega, by go_num, ((hg2.trans gz).trans gf).trans gg⟩
                    case measure => simp [intOf]; omega
                  | false =>
                    have tp0 : (z.e.par != 0) = false := by
                      rcases hzp with h1 | h1
                      · simp [h1]
                      · cases h1
                    clear hzp
                    go_wp2_with fail
                    go_roundw
                    case rel => exact ⟨j + 1, by omega, by go_num, ((hg2.trans gz).trans gf).trans gg⟩
                    case measure => simp [intOf]; omega
                · have tj : ¬ (j : Int) < U.N.length := by omega
                  have tjb : decide ((j : Int) < U.N.length) = false := decide_eq_false tj
                  obtain ⟨w0, hrr, hrg0, hg0, hs0⟩ := hMp.range Tryd.keyedInt Tryd.underlying54
                  have gx0 : GrX [] wp w0 := ⟨hg0.os, hg0.tape, hg0.output, hg0.size, fun k hk _ => hg0.block k hk (by simp)⟩
                  have gl0 : Gr wp w0 := gx0.all (Gr.refl wp) (fun y hy => by cases hy)
                  obtain ⟨ib, hib⟩ : ∃ ib, ib = wp.heap.size := ⟨_, rfl⟩
                  rw [← hib] at hrr hrg0
                  have hib2 : wp.heap.size ≤ ib := by omega
                  replace hBp := Lib.hid hBp
                  replace hUp := Lib.hid hUp
                  replace hMp := Lib.hid hMp
                  replace hrg0 := Lib.hid hrg0
                  replace hg0 := Lib.hid hg0
                  replace hs0 := Lib.hid hs0
                  replace hib := Lib.hid hib
                  replace hib2 := Lib.hid hib2
                  go_wp2_with fail
                  go_loopw [14] (fun _ wr => ∃ (left : Lit → Bool) (cnt : Nat), Hid (wr.ranges Tryd.prog 3 (plainElem Tryd.prog 4) mb ib (k + 1) Dy left cnt ∧ (∀ kl, left kl = true → Maps.has Dy kl = true)) ∧ Gr wp wr) (fun _ wr => wr.rangeLeft mb ib)
                  case atStart => exact ⟨_, _, Lib.hid ⟨hrg0.out, fun _ h => h⟩, gl0⟩
                  case round =>
                    obtain ⟨left, cnt, hJ, hg3⟩ := hrel
                    obtain ⟨hrg, hleft⟩ := hJ.out
                    clear hJ
                    obtain ⟨wp3, rfl⟩ : ∃ wp3 : World, wp3 = wr := ⟨wr, rfl⟩
                    rcases hrg.next Tryd.keyedInt 0 with ⟨h0, hl, hrn⟩ | ⟨key, v, kl, y, wn, cnt2, hkey, hlk, hvv, hat, hrn, hrg1, hlt1, hgr, hsz, hen⟩
                    · have hBe := (hBy.out.gr hg2).gr hg3
                      have hTe := (hTy.out.gr hg2).gr hg3
                      have hUe := (hUy.out.gr hg2).gr hg3
                      have hMe := hrg.owns
                      have g2e := (g2y.trans hg2).trans hg3
                      have tf := fun i => hTe.free i
                      have t0 := hTe.cell (i := 0) (v := .slice T.an T.N.length T.cn) rfl
                      have t1 := hTe.cell (i := 1) (v := .slice T.ag T.G.length T.cg) rfl
                      have t2 := hTe.cell (i := 2) (v := .int .i64 T.last) rfl
                      have t3 := hTe.cell (i := 3) (v := .int .i64 T.now) rfl
                      have u0 := hBe.cell (i := 0) (v := .slice U.an U.N.length U.cn) rfl
                      have u1 := hBe.cell (i := 1) (v := .slice U.ag U.G.length U.cg) rfl
                      have u2 := hBe.cell (i := 2) (v := .int .i64 U.last) rfl
                      have u3 := hBe.cell (i := 3) (v := .int .i64 U.now) rfl
                      replace hBe := Lib.hid hBe
                      replace hTe := Lib.hid hTe
                      replace hUe := Lib.hid hUe
                      replace hMe := Lib.hid hMe
                      replace hrg := Lib.hid hrg
                      replace hleft := Lib.hid hleft
                      replace hl := Lib.hid hl
                      replace h0 := Lib.hid h0
                      go_wp2_with fail
                      go_roundw
                      case rel =>
                        obtain ⟨h1, h2⟩ := held_set (wf := _) (B := wa.heap.size) (by have := ztb.out; have := zua.out; omega) hTe.out rfl hUe.out rfl g2e h2z.out
                        exact ⟨k + 1, U, gi, by omega, by omega, rfl, by go_num, Lib.hid ⟨h1, by rw [hvn.out]; exact hU.out, hgv.out, Dy, owns_mgrx (S := [tb]) hMe.out (((((GrX.refl _ _).set (.inl (by simp)) _).set (.inl (by simp)) _).set (.inl (by simp)) _).set (.inl (by simp)) _) (by simp; omega), hgn.out⟩, h2⟩
                      case measure => simp [intOf]; omega
                    · obtain ⟨xk, rfl, rfl, hwf⟩ := Maps.keyOf_int_inv Tryd.underlying3 hkey
                      have hgo := hgn.out xk (hleft _ hlk)
                      obtain ⟨ho1, ho2, ho3⟩ := hgo
                      have gxn : GrX [ib] wp3 wn := ⟨hgr.os, hgr.tape, hgr.output, hgr.size, fun k hk hm => hgr.block k hk (fun e => hm (by injection e with e; rw [← e]; simp))⟩
                      have gn : Gr wp wn := gxn.all hg3 (fun y hy => by rw [List.mem_singleton.1 hy]; exact hib2.out)
                      have hBn := (hBy.out.gr hg2).gr gn
                      have hUn := (hUy.out.gr hg2).gr gn
                      have hfi := find_any U xk wn hUn.any hsU.out
                      have hxb : -9223372036854775808 ≤ xk ∧ xk ≤ 9223372036854775807 := by have h2 : xk ≤ U.last := ho2; omega
                      have u0 := hBn.cell (i := 0) (v := .slice U.an U.N.length U.cn) rfl
                      have u1 := hBn.cell (i := 1) (v := .slice U.ag U.G.length U.cg) rfl
                      have u2 := hBn.cell (i := 2) (v := .int .i64 U.last) rfl
                      have u3 := hBn.cell (i := 3) (v := .int .i64 U.now) rfl
                      replace hBn := Lib.hid hBn
                      replace hUn := Lib.hid hUn
                      replace hfi := Lib.hid hfi
                      replace hrg := Lib.hid hrg
                      replace hleft := Lib.hid hleft
                      replace hat := Lib.hid hat
                      replace hvv := Lib.hid hvv
                      replace hkey := Lib.hid hkey
                      replace hgr := Lib.hid hgr
                      go_wp2_with fail
                      refine hfi.out.mono ?_
                      rintro e wf ⟨nd, na, nc, hnd, rfl, gf⟩
                      rw [ho3]
                      clear u0 u1 u2 u3
                      obtain ⟨fb, hfb⟩ : ∃ fb, fb = wf.heap.size := ⟨_, rfl⟩
                      obtain ⟨wg, hwg⟩ : ∃ wg, wg = wf.alloc (.cells #[.int .i64 nd.id, .int .i64 nd.par, .int .i64 nd.srv.k, .int .i64 nd.srv.q, .int .i64 nd.srv.t, .int .i64 nd.pol, .slice na nd.tasks.length nc] 42) := ⟨_, rfl⟩
                      have gg : Gr wf wg := by rw [hwg]; exact (Gr.refl _).alloc _
                      have hBg := (hBn.out.gr gf).gr gg
                      have hUg := (hUn.out.gr gf).gr gg
                      have hdp : U.v.depth xk = -1 := depth_none (by omega) ho3 _ _
                      have hde := depth_any U xk wg hUg.any hsU.out hlow.out
                      rw [hdp] at hde
                      have u0 := hBg.cell (i := 0) (v := .slice U.an U.N.length U.cn) rfl
                      have u1 := hBg.cell (i := 1) (v := .slice U.ag U.G.length U.cg) rfl
                      have u2 := hBg.cell (i := 2) (v := .int .i64 U.last) rfl
                      have u3 := hBg.cell (i := 3) (v := .int .i64 U.now) rfl
                      replace hBg := Lib.hid hBg
                      replace hUg := Lib.hid hUg
                      replace hde := Lib.hid hde
                      replace hfb := Lib.hid hfb
                      replace hwg := Lib.hid hwg
                      replace hnd := Lib.hid hnd
                      replace hdp := Lib.hid hdp
                      go_upto_region 30 with fail
                      rw [← hfb.out, ← hwg.out]
                      go_wp2_with fail
                      refine hde.out.mono ?_
                      rintro e wd ⟨rfl, gd⟩
                      have hrg2 := ranges_gr (ranges_gr (ranges_gr hrg1 gf) gg) gd
                      replace hrg2 := Lib.hid hrg2
                      replace hrg1 := Lib.hid hrg1
                      go_wp2_with fail
                      go_roundw
                      case rel => exact ⟨_, cnt2, Lib.hid ⟨hrg2.out, fun kl h => hleft.out kl (by simp at h; exact h.1)⟩, ((gn.trans gf).trans gg).trans gd⟩
                      case measure => rw [hrg2.out.left_eq, hrg.out.left_eq]; omega
          · have tc : (vc == 0) = false := by simpa using hc0
            replace hl1v := Lib.hid hl1v
            replace hnc := Lib.hid hnc
            go_upto_region 17 with fail
            clear r0 r1 x0 x1 x2 x3 x4 x5 x6 x7 u0 u1 u2 u3
            have hTy := hTq.out.b
            have hBy := hBwq.out
            have hUy := hUq.out
            have gWy := gWq
            have g2y := g2q.out
            obtain ⟨Dy, hDy⟩ : ∃ Dy, Dy = D := ⟨_, rfl⟩
            have hMy : GoneW wq mb (k + 1) Dy := by rw [hDy]; exact hMq.out.mono (by omega)
            have hgn : ∀ y : Int, Maps.has Dy (.int .i64 y) = true → GoneP U.v y := fun y h => by rw [hU.out]; exact hgs.out y (hgn0.out y (by rw [← hDy]; exact h))
            replace hDy := Lib.hid hDy
            have hsU0 : Sane (k + 1) U.v := by rw [hU.out]; exact hsx.out
            have hfU : Fit U.v := by rw [hU.out]; exact hfx.out
            obtain ⟨hsU, hlow, hidl, hll0, hll1, _, _, _⟩ := sane_in hsU0 (by omega)
            have tg : (U.last != gi) = false := by rw [hgv.out]; simp
            have u0 := hBy.cell (i := 0) (v := .slice U.an U.N.length U.cn) rfl
            have u1 := hBy.cell (i := 1) (v := .slice U.ag U.G.length U.cg) rfl
            have u2 := hBy.cell (i := 2) (v := .int .i64 U.last) rfl
            have u3 := hBy.cell (i := 3) (v := .int .i64 U.now) rfl
            replace hBy := Lib.hid hBy
            replace hTy := Lib.hid hTy
            replace hUy := Lib.hid hUy
            replace hMy := Lib.hid hMy
            replace hgn := Lib.hid hgn
            replace hsU0 := Lib.hid hsU0
            replace hfU := Lib.hid hfU
            replace hsU := Lib.hid hsU
            replace hlow := Lib.hid hlow
            replace hidl := Lib.hid hidl
            go_wp2_with fail
            clear u0 u1 u2 u3
            have hNl := hUy.out.l1
            go_loopw [69] (fun iv wr => ∃ j : Nat, j ≤ U.N.length ∧ iv = .int .i64 j ∧ Gr wq wr) (fun iv _ => U.N.length - (intOf iv).toNat)
            case atStart => exact ⟨0, Nat.zero_le _, rfl, Gr.refl _⟩
            case round =>
              obtain ⟨j, hj, rfl, hg2⟩ := hrel
              obtain ⟨wp, rfl⟩ : ∃ wp : World, wp = wr := ⟨wr, rfl⟩
              have hUp := hUy.out.gr hg2
              have hBp := hBy.out.gr hg2
              have hMp := owns_mgr hMy.out hg2
              by_cases hlj : j < U.N.length
              · obtain ⟨z, hzx⟩ := get_some U.N j hlj
                have hzm : z.e ∈ U.v.nodes := List.mem_map.2 ⟨z, get_mem hzx, rfl⟩
                have hzl := hsU0.out.lw z.e hzm
                have hzp := par_there hfU.out hzm
                dsimp only at hzl
                have hno : Maps.has Dy (.int .i64 z.e.id) = false := by
                  cases hh : Maps.has Dy (.int .i64 z.e.id) with
                  | false => rfl
                  | true => exact absurd rfl (find_none.1 (hgn.out _ hh).2.2 z.e hzm)
                obtain ⟨b2, off2, hag, hb2, _, e0, e1, e2, e3, e4, e5, e6⟩ := NodM.get hUp.any.n hzx
                obtain ⟨nb, hnb⟩ : ∃ nb, nb = wp.heap.size := ⟨_, rfl⟩
                obtain ⟨wz, hwz⟩ : ∃ wz, wz = wp.alloc (.cells #[.int .i64 z.e.id, .int .i64 z.e.par, .int .i64 z.e.srv.k, .int .i64 z.e.srv.q, .int .i64 z.e.srv.t, .int .i64 z.e.pol, .slice z.a z.e.tasks.length z.c] 42) := ⟨_, rfl⟩
                have gz : Gr wp wz := by rw [hwz]; exact (Gr.refl _).alloc _
                have hXz : Blk wz nb #[.int .i64 z.e.id, .int .i64 z.e.par, .int .i64 z.e.srv.k, .int .i64 z.e.srv.q, .int .i64 z.e.srv.t, .int .i64 z.e.pol, .slice z.a z.e.tasks.length z.c] 42 := by rw [hwz, hnb]; exact Blk.new _ _ _
                have hBz := hBp.gr gz
                have hUz := hUp.gr gz
                have hMz := owns_mgr hMp gz
                have hfi := find_any U z.e.par wz hUz.any hsU.out
                have tj : (j : Int) < U.N.length := by omega
                have u0 := hBz.cell (i := 0) (v := .slice U.an U.N.length U.cn) rfl
                have u1 := hBz.cell (i := 1) (v := .slice U.ag U.G.length U.cg) rfl
                have u2 := hBz.cell (i := 2) (v := .int .i64 U.last) rfl
                have u3 := hBz.cell (i := 3) (v := .int .i64 U.now) rfl
                have y0 := hXz.cell (i := 0) (v := .int .i64 z.e.id) rfl
                have y1 := hXz.cell (i := 1) (v := .int .i64 z.e.par) rfl
                have y2 := hXz.cell (i := 2) (v := .int .i64 z.e.srv.k) rfl
                have y3 := hXz.cell (i := 3) (v := .int .i64 z.e.srv.q) rfl
                have y4 := hXz.cell (i := 4) (v := .int .i64 z.e.srv.t) rfl
                have y5 := hXz.cell (i := 5) (v := .int .i64 z.e.pol) rfl
                have y6 := hXz.cell (i := 6) (v := .slice z.a z.e.tasks.length z.c) rfl
                replace hUp := Lib.hid hUp
                replace hBp := Lib.hid hBp
                replace hMp := Lib.hid hMp
                replace hXz := Lib.hid hXz
                replace hBz := Lib.hid hBz
                replace hUz := Lib.hid hUz
                replace hMz := Lib.hid hMz
                replace hzx := Lib.hid hzx
                replace hnb := Lib.hid hnb
                replace hwz := Lib.hid hwz
                replace hfi := Lib.hid hfi
                go_upto_region 22 with fail
                rw [← hnb.out, ← hwz.out]
                replace hag := Lib.hid hag
                go_wp2_with fail
                refine hfi.out.mono ?_
                rintro e wf ⟨nd, na, nc, hnd, rfl, gf⟩
                clear u0 u1 u2 u3 y0 y1 y2 y3 y4 y5 y6 e0 e1 e2 e3 e4 e5 e6
                obtain ⟨fb, hfb⟩ : ∃ fb, fb = wf.heap.size := ⟨_, rfl⟩
                obtain ⟨wg, hwg⟩ : ∃ wg, wg = wf.alloc (.cells #[.int .i64 nd.id, .int .i64 nd.par, .int .i64 nd.srv.k, .int .i64 nd.srv.q, .int .i64 nd.srv.t, .int .i64 nd.pol, .slice na nd.tasks.length nc] 42) := ⟨_, rfl⟩
                have gg : Gr wf wg := by rw [hwg]; exact (Gr.refl _).alloc _
                have hXg := (hXz.out.gr gf).gr gg
                have hMg := owns_mgr (owns_mgr hMz.out gf) gg
                have hlk := look_no hMg hno (by omega)
                obtain ⟨sb, hsb⟩ : ∃ sb, sb = (U.v.find z.e.par).isSome := ⟨_, rfl⟩
                rw [← hsb]
                rw [← hsb] at hzp
                have ti1 : ¬ z.e.id < 1 := by omega
                have ti1b : decide (z.e.id < 1) = false := decide_eq_false ti1
                have ti2 : ¬ gi < z.e.id := by rw [hgv.out]; omega
                have ti2b : decide (gi < z.e.id) = false := decide_eq_false ti2
                have y0 := hXg.cell (i := 0) (v := .int .i64 z.e.id) rfl
                have y1 := hXg.cell (i := 1) (v := .int .i64 z.e.par) rfl
                have y2 := hXg.cell (i := 2) (v := .int .i64 z.e.srv.k) rfl
                have y3 := hXg.cell (i := 3) (v := .int .i64 z.e.srv.q) rfl
                have y4 := hXg.cell (i := 4) (v := .int .i64 z.e.srv.t) rfl
                have y5 := hXg.cell (i := 5) (v := .int .i64 z.e.pol) rfl
                have y6 := hXg.cell (i := 6) (v := .slice z.a z.e.tasks.length z.c) rfl
                replace hXg := Lib.hid hXg
                replace hMg := Lib.hid hMg
                replace hfb := Lib.hid hfb
                replace hwg := Lib.hid hwg
                replace hnd := Lib.hid hnd
                replace hsb := Lib.hid hsb
                replace hno := Lib.hid hno
                go_upto_region 23 with fail
                rw [← hfb.out, ← hwg.out]
                cases sb with
                | true =>
                  clear hzp
                  go_wp2_with fail
                  go_roundw
                  case rel => exact ⟨j + 1, by omega, by go_num, ((hg2.trans gz).trans gf).trans gg⟩
                  case measure => simp [intOf]; omega
                | false =>
                  have tp0 : (z.e.par != 0) = false := by
                    rcases hzp with h1 | h1
                    · simp [h1]
                    · cases h1
                  clear hzp
                  go_wp2_with fail
                  go_roundw
                  case rel => exact ⟨j + 1, by omega, by go_num, ((hg2.trans gz).trans gf).trans gg⟩
                  case measure => simp [intOf]; omega
              · have tj : ¬ (j : Int) < U.N.length := by omega
                have tjb : decide ((j : Int) < U.N.length) = false := decide_eq_false tj
                obtain ⟨w0, hrr, hrg0, hg0, hs0⟩ := hMp.range Tryd.keyedInt Tryd.underlying54
                have gx0 : GrX [] wp w0 := ⟨hg0.os, hg0.tape, hg0.output, hg0.size, fun k hk _ => hg0.block k hk (by simp)⟩
                have gl0 : Gr wp w0 := gx0.all (Gr.refl wp) (fun y hy => by cases hy)
                obtain ⟨ib, hib⟩ : ∃ ib, ib = wp.heap.size := ⟨_, rfl⟩
                rw [← hib] at hrr hrg0
                have hib2 : wp.heap.size ≤ ib := by omega
                replace hBp := Lib.hid hBp
                replace hUp := Lib.hid hUp
                replace hMp := Lib.hid hMp
                replace hrg0 := Lib.hid hrg0
                replace hg0 := Lib.hid hg0
                replace hs0 := Lib.hid hs0
                replace hib := Lib.hid hib
                replace hib2 := Lib.hid hib2
                go_wp2_with fail
                go_loopw [14] (fun _ wr => ∃ (left : Lit → Bool) (cnt : Nat), Hid (wr.ranges Tryd.prog 3 (plainElem Tryd.prog 4) mb ib (k + 1) Dy left cnt ∧ (∀ kl, left kl = true → Maps.has Dy kl = true)) ∧ Gr wp wr) (fun _ wr => wr.rangeLeft mb ib)
                case atStart => exact ⟨_, _, Lib.hid ⟨hrg0.out, fun _ h => h⟩, gl0⟩
                case round =>
                  obtain ⟨left, cnt, hJ, hg3⟩ := hrel
                  obtain ⟨hrg, hleft⟩ := hJ.out
                  clear hJ
                  obtain ⟨wp3, rfl⟩ : ∃ wp3 : World, wp3 = wr := ⟨wr, rfl⟩
                  rcases hrg.next Tryd.keyedInt 0 with ⟨h0, hl, hrn⟩ | ⟨key, v, kl, y, wn, cnt2, hkey, hlk, hvv, hat, hrn, hrg1, hlt1, hgr, hsz, hen⟩
                  · have hBe := (hBy.out.gr hg2).gr hg3
                    have hTe := (hTy.out.gr hg2).gr hg3
                    have hUe := (hUy.out.gr hg2).gr hg3
                    have hMe := hrg.owns
                    have g2e := (g2y.trans hg2).trans hg3
                    have tf := fun i => hTe.free i
                    have t0 := hTe.cell (i := 0) (v := .slice T.an T.N.length T.cn) rfl
                    have t1 := hTe.cell (i := 1) (v := .slice T.ag T.G.length T.cg) rfl
                    have t2 := hTe.cell (i := 2) (v := .int .i64 T.last) rfl
                    have t3 := hTe.cell (i := 3) (v := .int .i64 T.now) rfl
                    have u0 := hBe.cell (i := 0) (v := .slice U.an U.N.length U.cn) rfl
                    have u1 := hBe.cell (i := 1) (v := .slice U.ag U.G.length U.cg) rfl
                    have u2 := hBe.cell (i := 2) (v := .int .i64 U.last) rfl
                    have u3 := hBe.cell (i := 3) (v := .int .i64 U.now) rfl
                    replace hBe := Lib.hid hBe
                    replace hTe := Lib.hid hTe
                    replace hUe := Lib.hid hUe
                    replace hMe := Lib.hid hMe
                    replace hrg := Lib.hid hrg
                    replace hleft := Lib.hid hleft
                    replace hl := Lib.hid hl
                    replace h0 := Lib.hid h0
                    go_wp2_with fail
                    go_roundw
                    case rel =>
                      obtain ⟨h1, h2⟩ := held_set (wf := _) (B := wa.heap.size) (by have := ztb.out; have := zua.out; omega) hTe.out rfl hUe.out rfl g2e h2z.out
                      exact ⟨k + 1, U, gi, by omega, by omega, rfl, by go_num, Lib.hid ⟨h1, by rw [hvn.out]; exact hU.out, hgv.out, Dy, owns_mgrx (S := [tb]) hMe.out (((((GrX.refl _ _).set (.inl (by simp)) _).set (.inl (by simp)) _).set (.inl (by simp)) _).set (.inl (by simp)) _) (by simp; omega), hgn.out⟩, h2⟩
                    case measure => simp [intOf]; omega
                  · obtain ⟨xk, rfl, rfl, hwf⟩ := Maps.keyOf_int_inv Tryd.underlying3 hkey
                    have hgo := hgn.out xk (hleft _ hlk)
                    obtain ⟨ho1, ho2, ho3⟩ := hgo
                    have gxn : GrX [ib] wp3 wn := ⟨hgr.os, hgr.tape, hgr.output, hgr.size, fun k hk hm => hgr.block k hk (fun e => hm (by injection e with e; rw [← e]; simp))⟩
                    have gn : Gr wp wn := gxn.all hg3 (fun y hy => by rw [List.mem_singleton.1 hy]; exact hib2.out)
                    have hBn := (hBy.out.gr hg2).gr gn
                    have hUn := (hUy.out.gr hg2).gr gn
                    have hfi := find_any U xk wn hUn.any hsU.out
                    have hxb : -9223372036854775808 ≤ xk ∧ xk ≤ 9223372036854775807 := by have h2 : xk ≤ U.last := ho2; omega
                    have u0 := hBn.cell (i := 0) (v := .slice U.an U.N.length U.cn) rfl
                    have u1 := hBn.cell (i := 1) (v := .slice U.ag U.G.length U.cg) rfl
                    have u2 := hBn.cell (i := 2) (v := .int .i64 U.last) rfl
                    have u3 := hBn.cell (i := 3) (v := .int .i64 U.now) rfl
                    replace hBn := Lib.hid hBn
                    replace hUn := Lib.hid hUn
                    replace hfi := Lib.hid hfi
                    replace hrg := Lib.hid hrg
                    replace hleft := Lib.hid hleft
                    replace hat := Lib.hid hat
                    replace hvv := Lib.hid hvv
                    replace hkey := Lib.hid hkey
                    replace hgr := Lib.hid hgr
                    go_wp2_with fail
                    refine hfi.out.mono ?_
                    rintro e wf ⟨nd, na, nc, hnd, rfl, gf⟩
                    rw [ho3]
                    clear u0 u1 u2 u3
                    obtain ⟨fb, hfb⟩ : ∃ fb, fb = wf.heap.size := ⟨_, rfl⟩
                    obtain ⟨wg, hwg⟩ : ∃ wg, wg = wf.alloc (.cells #[.int .i64 nd.id, .int .i64 nd.par, .int .i64 nd.srv.k, .int .i64 nd.srv.q, .int .i64 nd.srv.t, .int .i64 nd.pol, .slice na nd.tasks.length nc] 42) := ⟨_, rfl⟩
                    have gg : Gr wf wg := by rw [hwg]; exact (Gr.refl _).alloc _
                    have hBg := (hBn.out.gr gf).gr gg
                    have hUg := (hUn.out.gr gf).gr gg
                    have hdp : U.v.depth xk = -1 := depth_none (by omega) ho3 _ _
                    have hde := depth_any U xk wg hUg.any hsU.out hlow.out
                    rw [hdp] at hde
                    have u0 := hBg.cell (i := 0) (v := .slice U.an U.N.length U.cn) rfl
                    have u1 := hBg.cell (i := 1) (v := .slice U.ag U.G.length U.cg) rfl
                    have u2 := hBg.cell (i := 2) (v := .int .i64 U.last) rfl
                    have u3 := hBg.cell (i := 3) (v := .int .i64 U.now) rfl
                    replace hBg := Lib.hid hBg
                    replace hUg := Lib.hid hUg
                    replace hde := Lib.hid hde
                    replace hfb := Lib.hid hfb
                    replace hwg := Lib.hid hwg
                    replace hnd := Lib.hid hnd
                    replace hdp := Lib.hid hdp
                    go_upto_region 30 with fail
                    rw [← hfb.out, ← hwg.out]
                    go_wp2_with fail
                    refine hde.out.mono ?_
                    rintro e wd ⟨rfl, gd⟩
                    have hrg2 := ranges_gr (ranges_gr (ranges_gr hrg1 gf) gg) gd
                    replace hrg2 := Lib.hid hrg2
                    replace hrg1 := Lib.hid hrg1
                    go_wp2_with fail
                    go_roundw
                    case rel => exact ⟨_, cnt2, Lib.hid ⟨hrg2.out, fun kl h => hleft.out kl (by simp at h; exact h.1)⟩, ((gn.trans gf).trans gg).trans gd⟩
                    case measure => rw [hrg2.out.left_eq, hrg.out.left_eq]; omega
      · have t60 : (60 : Int) ≤ (k : Int) := by omega
        have t60b : decide ((60 : Int) ≤ (k : Int)) = true := decide_eq_true t60
        obtain ⟨xb, hxb⟩ : ∃ xb, xb = wo.heap.size := ⟨_, rfl⟩
        obtain ⟨wa, hwa⟩ : ∃ wa, wa = wo.alloc (.cells #[.int .i64 x.e.kd, .int .i64 x.e.id, .int .i64 x.e.srv.k, .int .i64 x.e.srv.q, .int .i64 x.e.srv.t, .int .i64 x.e.pol, .slice x.a x.e.tasks.length x.c, .int .i64 x.e.at_] 27) := ⟨_, rfl⟩
        have ga : Gr wo wa := by rw [hwa]; exact (Gr.refl _).alloc _
        have hXa : Blk wa xb #[.int .i64 x.e.kd, .int .i64 x.e.id, .int .i64 x.e.srv.k, .int .i64 x.e.srv.q, .int .i64 x.e.srv.t, .int .i64 x.e.pol, .slice x.a x.e.tasks.length x.c, .int .i64 x.e.at_] 27 := by rw [hwa, hxb]; exact Blk.new _ _ _
        have hTa := hT.gr ga
        have gWa := gWr.trans ga
        replace hwa := Lib.hid hwa
        replace hxb := Lib.hid hxb
        replace hXa := Lib.hid hXa
        replace hTa := Lib.hid hTa
        replace hT := Lib.hid hT
        replace hv := Lib.hid hv
        replace hxi := Lib.hid hxi
        replace hxk := Lib.hid hxk
        replace hM := Lib.hid hM
        replace hgn0 := Lib.hid hgn0
        replace hgi := Lib.hid hgi
        go_wp2_with fail
        go_ret
        rw [← hwa.out]
        exact ⟨rfl, gWa⟩
    · have hti : ¬ (k : Int) < L.length := by omega
      have htib : decide ((k : Int) < L.length) = false := decide_eq_false hti
      replace hT := Lib.hid hT
      replace hv := Lib.hid hv
      replace hM := Lib.hid hM
      replace hgn0 := Lib.hid hgn0
      replace hgi := Lib.hid hgi
      go_wp2_with fail
      go_ret
      exact ⟨rfl, gWr⟩
end Go.Proofs.YtanfgipanfjcoaaDoor
