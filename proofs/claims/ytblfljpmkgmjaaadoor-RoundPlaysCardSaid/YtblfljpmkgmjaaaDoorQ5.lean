/- The reference's round: Accepted. Printed by gen_q5.py. -/
import Derived.Test.YtblfljpmkgmjaaaDoorQ4
namespace Go.Proofs.YtblfljpmkgmjaaaDoor
open Go.RowKit
variable {K0 : Nat → Prop}

theorem hears_yes {M : RnM} {st fr : Int} {b : Bal} (h : M.v.hears st fr b = true) : 0 ≤ fr ∧ fr < M.nd ∧ fr.toNat ∉ M.hs := by
  rw [hears_ref M.v M.nd M.hs rfl] at h
  simp only [Bool.and_eq_true, decide_eq_true_iff, Bool.not_eq_true', decide_eq_false_iff_not] at h
  exact ⟨h.1.1.2, h.1.2, h.2⟩
set_option maxRecDepth 100000 in
set_option maxHeartbeats 3200000 in
theorem raccepted_any (M : RnM) (fr : Int) (b : Bal) (w : World) (mb : Nat) (h : RnAt K0 w mb M) :
    Calls Tryd.prog 62 #[.pointer (some ⟨mb, 0, none⟩), .int .i64 fr, .agg #[.int .i64 b.r, .int .i64 b.n]] w (RnP K0 mb (M.own mb) (.bool (M.v.accepted fr b).1) (M.v.accepted fr b).2 w) := by
  have g1 : Gr w (w.alloc (.cells #[.int .i64 b.r, .int .i64 b.n] 39)) := (Gr.refl w).alloc _
  have hfit := rfits_any M 2 fr b _ mb (h.gr g1)
  have hM := h
  replace g1 := Lib.hid g1
  replace hM := Lib.hid hM
  clear h
  cases hh : M.v.hears 2 fr b with
  | false =>
    have hv : M.v.accepted fr b = (false, M.v) := by unfold RndV.accepted; rw [hh]; rfl
    rw [hv]
    rw [hh] at hfit
    replace hfit := Lib.hid hfit
    replace hh := Lib.hid hh
    go_enter Tryd.func62, Tryd.ntmps62
    go_wp2_with fail
    refine hfit.out.mono ?_
    rintro e w1 ⟨rfl, g2⟩
    go_wp2_with fail
    go_ret
    exact ⟨rfl, M, hM.out.gr (g1.out.trans g2), rfl, (g1.out.trans g2).x _, fun y hy => .inl hy⟩
  | true =>
    obtain ⟨hf4, hf5, hf6⟩ := hears_yes hh
    obtain ⟨V, hV⟩ : ∃ V, V = M.v.accepted fr b := ⟨_, rfl⟩
    rw [← hV]
    have hvp : V = (true, if (M.v.note fr).most then {M.v.note fr with st := 3} else M.v.note fr) := by rw [hV]; unfold RndV.accepted; rw [hh]; rfl
    rw [hh] at hfit
    replace hfit := Lib.hid hfit
    replace hh := Lib.hid hh
    replace hV := Lib.hid hV
    replace hvp := Lib.hid hvp
    go_enter Tryd.func62, Tryd.ntmps62
    obtain ⟨i5, hi, hz0, hz1, hz2⟩ := info_parts Tryd.infoI
    obtain ⟨f, rfl⟩ : ∃ f : Nat, fr = f := ⟨fr.toNat, by omega⟩
    have hfn : f < M.nd := by omega
    have hfm : f ∉ M.hs := by simpa using hf6
    go_wp2_with fail
    refine hfit.out.mono ?_
    rintro e w1 ⟨rfl, g2⟩
    have gw1 := g1.out.trans g2
    have h1 := hM.out.gr gw1
    have c15 : w1.cell? ⟨mb, 15, none⟩ = some (.slice M.ha M.hs.length M.hc) := h1.o.cell rfl
    have hz15 := h1.o.lt
    have h7 := h1.hs7
    obtain ⟨wz, hwz⟩ : ∃ wz, wz = w1.alloc (.cells #[.int .i64 (f : Int)] 3) := ⟨_, rfl⟩
    have gz : Gr w1 wz := by rw [hwz]; exact (Gr.refl w1).alloc _
    have hOz : wz.ownsRow (mb + 1) 3 1 (.slice M.ha M.hs.length M.hc) M.hs.length ((ints M.hs).flatMap inC) := by
      have := owns_gr h1.h gz
      rwa [List.length_map] at this
    have hnews : ∀ (j : Nat) (u : Value), [Value.int .i64 (f : Int)][j]? = some u → wz.cell? ((⟨w1.heap.size, 0, none⟩ : Addr).add j) = some u := by
      intro j u hj
      obtain rfl : j = 0 := by have := get_lt hj; simp at this; omega
      have hb : Blk wz w1.heap.size #[.int .i64 (f : Int)] 3 := by rw [hwz]; exact Blk.new w1 _ _
      have := hb.cell (i := 0) (v := .int .i64 (f : Int)) rfl
      simp at hj
      subst hj
      simpa [Addr.add] using this
    have hbase : mb + 1 ≤ wz.heap.size := by have := gz.size; omega
    have hnt := fun g c7 w7 hown hgr hat => h1.noted (wz := wz) (w7 := w7) f g c7 gz hfn hfm hown hgr hat
    have hblk : ∀ w7, wz.grownBy w7 (Value.slice M.ha M.hs.length M.hc).ownBlock → Blk w7 mb M.row 110 := fun w7 hgr => blk_grown (h1.o.gr gz) hgr (fun e => by
      have := owns_lt h1.h mb e.symm
      omega)
    replace hblk := Lib.hid hblk
    replace hnt := Lib.hid hnt
    replace h1 := Lib.hid h1
    replace hwz := Lib.hid hwz
    replace hOz := Lib.hid hOz
    replace hnews := Lib.hid hnews
    replace hM := Lib.hid hM.out
    replace hfm := Lib.hid hfm
    replace hf6 := Lib.hid hf6
    go_wp2_with (at_builtin; go_loud (rw [← hwz.out]; refine wpList_append_lies _ rfl _ _ 23 rfl (mb + 1) 3 i5 _ 1 8 Tryd.underlying23 hi hz0 hz1 hz2 rfl (by decide) (.slice M.ha M.hs.length M.hc) M.hs.length ((ints M.hs).flatMap inC) rfl hOz.out ⟨w1.heap.size, 0, none⟩ 1 1 [.int .i64 (f : Int)] rfl rfl hnews.out (by intro u hu; simp at hu; subst hu; rfl) (by decide) (by unfold maxLen; omega) (by omega) hbase wz.heap.size rfl ?_; intro g7 c7 w7 hown7 hgr7 hat7 hlt7; have hb7 := hblk.out w7 hgr7; obtain ⟨hM8, gx8, ho8⟩ := hnt.out g7 c7 w7 hown7 hgr7 hat7; have d15 := hb7.cell (i := 15) (v := .slice M.ha M.hs.length M.hc) rfl; have f15 := hb7.free 15; have z15 := hb7.lt; replace hb7 := Lib.hid hb7; replace hM8 := Lib.hid hM8; replace gx8 := Lib.hid gx8; replace ho8 := Lib.hid ho8; clear hown7 hgr7 hat7))
    go_upto_region 4 with fail
    obtain ⟨w8, hw8⟩ : ∃ w8, w8 = w7.setCell ⟨mb, 15, none⟩ (.slice (some ⟨g7, 0, none⟩) (M.hs.length + 1) c7) := ⟨_, rfl⟩
    rw [← hw8]
    replace hM8 := hM8.out
    replace gx8 := gx8.out
    rw [← hw8] at hM8 gx8
    have gX : GrX (M.own mb) w w8 := (gw1.x _).trans gx8
    have hmo := hM8.most
    rw [RnM.v_note] at hmo
    obtain ⟨q, hq⟩ : ∃ q, M.hs.length + 1 = q := ⟨_, rfl⟩
    have hql : (({M with hs := M.hs ++ [f], ha := some ⟨g7, 0, none⟩, hc := c7} : RnM).hs.length) = q := by rw [← hq]; simp
    rw [hql] at hmo
    have k15 := GrW.cell (hM8.o.cell (i := 15) (v := .slice (some ⟨g7, 0, none⟩) q c7) (by rw [← hq]; simp [RnM.row]))
    have k0 := GrW.cell (hM8.o.cell (i := 0) (v := .int .i64 M.nd) rfl)
    have hwr : IntKind.i64.wrap (2 * (q : Int)) = 2 * (q : Int) := by rw [IntKind.wrap_i64]; omega
    rw [hq]
    have e14 : w8.cell? ⟨mb, 14, none⟩ = some (.int .i64 M.st) := hM8.o.cell rfl
    replace hw8 := Lib.hid hw8
    replace hM8 := Lib.hid hM8
    replace gX := Lib.hid gX
    replace hq := Lib.hid hq
    replace hql := Lib.hid hql
    clear gx8
    by_cases hm : (M.nd : Int) < 2 * (q : Int)
    · rw [decide_eq_true hm] at hmo
      replace hmo := Lib.hid hmo
      refine wp_region_grows (by kernel_rfl) (by kernel_rfl) ?_
      repeat (any_goals (first | go_big_quiet_step (first | fail) | quiet_step (first | fail)))
      refine wpQuiet_nil ?_
      intro wy hwq
      have gy := GrW.of hwq
      clear hwq
      obtain ⟨cy, fy, sy⟩ := gy.cells
      try simp only [size_drewN] at cy fy sy
      try simp only [World.size_alloc] at cy fy sy
      try simp only [World.size_drew] at cy fy sy
      try simp only [World.size_setCell] at cy fy sy
      have h9 := hM8.out.gr gy
      have e14z : wy.cell? ⟨mb, 14, none⟩ = some (.int .i64 M.st) := h9.o.cell rfl
      have z14 := h9.o.lt
      have f14 := h9.o.free 14
      replace h9 := Lib.hid h9
      clear cy fy k15 k0 e14
      go_wp2_with fail
      go_ret
      refine ⟨by rw [hvp.out, hmo.out]; rfl, _, h9.out.stage 3, ?_, (gX.out.gr gy).set (.inl (List.mem_cons_self ..)) _, fun y hy => ?_⟩
      · rw [hvp.out, hmo.out]
        show (⟨ansOf M.nd (M.hs ++ [f]), M.x.e, M.reads, M.bal, 3, M.nw, M.led.map (·.e), M.begun⟩ : RndV) = _
        rw [ansOf_note]
        rfl
      · rcases ho8.out y hy with h1 | h1
        · exact .inl h1
        · exact .inr (by have := gw1.size; omega)
    · rw [decide_eq_false hm] at hmo
      replace hmo := Lib.hid hmo
      refine wp_region_grows (by kernel_rfl) (by kernel_rfl) ?_
      repeat (any_goals (first | go_big_quiet_step (first | fail) | quiet_step (first | fail)))
      refine wpQuiet_nil ?_
      intro wy hwq
      have gy := GrW.of hwq
      clear hwq
      obtain ⟨cy, fy, sy⟩ := gy.cells
      try simp only [size_drewN] at cy fy sy
      try simp only [World.size_alloc] at cy fy sy
      try simp only [World.size_drew] at cy fy sy
      try simp only [World.size_setCell] at cy fy sy
      clear cy fy k15 k0 e14
      go_wp2_with fail
      go_ret
      refine ⟨by rw [hvp.out, hmo.out]; rfl, _, hM8.out.gr gy, ?_, gX.out.gr gy, fun y hy => ?_⟩
      · rw [hvp.out, hmo.out, RnM.v_note]
        rfl
      · rcases ho8.out y hy with h1 | h1
        · exact .inl h1
        · exact .inr (by have := gw1.size; omega)
end Go.Proofs.YtblfljpmkgmjaaaDoor
