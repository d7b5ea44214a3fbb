/- The reference's round: Promise. Printed by gen_q8.py. -/
import Derived.Test.YtblfljpmkgmjaaaDoorQ7
namespace Go.Proofs.YtblfljpmkgmjaaaDoor
open Go.RowKit
variable {K0 : Nat → Prop}

theorem RnAt.newLed {w : World} {mb : Nat} {M : RnM} (h : RnAt K0 w mb M) {a : Option Addr} {c : Nat} {L : List EntM} (hl : LedM (fun b => b ∉ M.own mb ∧ K0 b) w a L) (hc : a = none → c = 0) (hm : L.length * 96 ≤ 140737488351232) :
    RnAt K0 (w.setCell ⟨mb, 18, none⟩ (.slice a L.length c)) mb {M with la := a, lc := c, led := L} := by
  have g : GrX [mb] w (w.setCell ⟨mb, 18, none⟩ (.slice a L.length c)) := (GrX.refl _ w).set (.inl (by simp)) _
  have hT : ∀ y, y ∈ [mb] → ¬ (y ∉ M.own mb ∧ K0 y) := by rintro y hy ⟨y1, _⟩; simp at hy; subst hy; exact y1 (List.mem_cons_self ..)
  exact ⟨h.o.set 18 _, h.n7, h.x.grx g hT, hl.grx g hT, hc, hm, owns_gx h.h g (fun x hx => by have := owns_lt h.h x hx; simp; omega), h.hn, h.ct⟩
theorem RnAt.newest {w : World} {mb : Nat} {M : RnM} (h : RnAt K0 w mb M) (b : Bal) : RnAt K0 ((w.setCell ⟨mb, 16, none⟩ (.int .i64 b.r)).setCell ⟨mb, 17, none⟩ (.int .i64 b.n)) mb {M with nw := b} :=
  (h.set (M' := {M with nw := ⟨b.r, M.nw.n⟩}) 16 (.int .i64 b.r) rfl rfl rfl rfl rfl rfl rfl rfl rfl).set (M' := {M with nw := b}) 17 (.int .i64 b.n) rfl rfl rfl rfl rfl rfl rfl rfl rfl
theorem RnAt.forget {w : World} {mb : Nat} {M : RnM} (h : RnAt K0 w mb M) : RnAt K0 (w.setCell ⟨mb, 15, none⟩ (.slice none 0 0)) mb {M with hs := [], ha := none, hc := 0} := by
  have g : GrX [mb] w (w.setCell ⟨mb, 15, none⟩ (.slice none 0 0)) := (GrX.refl _ w).set (.inl (by simp)) _
  have hK : ∀ b, b < w.heap.size → (b ∉ M.own mb ∧ K0 b) → (b ∉ [mb] ∧ K0 b) := fun b _ h1 => ⟨fun hm => h1.1 (by simp at hm; subst hm; exact List.mem_cons_self ..), h1.2⟩
  refine ⟨h.o.set 15 _, h.n7, (h.x.mono hK).grx g (fun y hy h1 => h1.1 hy), (h.l.mono hK).grx g (fun y hy h1 => h1.1 hy), h.lc, h.cap, World.ownsRow_nil _ _ _ _, (fun i hi => by cases hi), ?_⟩
  show (ansOf M.nd []).count true = 0
  rw [ansOf_nil, List.count_replicate]
  rfl
theorem RnM.own_sub {M : RnM} {mb y : Nat} (h : y ∈ [mb]) : y ∈ M.own mb := by simp at h; subst h; exact List.mem_cons_self ..
theorem RnM.v_clr (M : RnM) : ({M with hs := [], ha := none, hc := 0} : RnM).v = M.v.clr := by
  show (⟨ansOf M.nd [], M.x.e, M.reads, M.bal, M.st, M.nw, M.led.map (·.e), M.begun⟩ : RndV) = {M.v with an := List.replicate (ansOf M.nd M.hs).length false}
  rw [ansOf_nil, ansOf_len]
set_option maxRecDepth 100000 in
set_option maxHeartbeats 600000 in
theorem rpromise_any (M : RnM) (fr : Int) (b acc : Bal) (a : Option Addr) (c : Nat) (L : List EntM) (w : World) (mb : Nat) (hK : ∀ b, w.heap.size ≤ b → K0 b) (h : RnAt K0 w mb M) (hL : LedM (fun b => b ∉ M.own mb) w a L) (hcap : L.length * 96 ≤ 140737488351232) :
    Calls Tryd.prog 61 #[.pointer (some ⟨mb, 0, none⟩), .int .i64 fr, .agg #[.int .i64 b.r, .int .i64 b.n], .agg #[.int .i64 acc.r, .int .i64 acc.n], .slice a L.length c] w (RnP K0 mb (M.own mb) (.bool (M.v.promise fr b acc (L.map (·.e))).1) (M.v.promise fr b acc (L.map (·.e))).2 w) := by
  have g1 : Gr w ((w.alloc (.cells #[.int .i64 b.r, .int .i64 b.n] 39)).alloc (.cells #[.int .i64 acc.r, .int .i64 acc.n] 39)) := ((Gr.refl w).alloc _).alloc _
  have hfit := rfits_any M 1 fr b _ mb (h.gr g1)
  have hA0 : Blk ((w.alloc (.cells #[.int .i64 b.r, .int .i64 b.n] 39)).alloc (.cells #[.int .i64 acc.r, .int .i64 acc.n] 39)) (w.heap.size + 1) #[.int .i64 acc.r, .int .i64 acc.n] 39 := by
    have := Blk.new (w.alloc (.cells #[.int .i64 b.r, .int .i64 b.n] 39)) #[.int .i64 acc.r, .int .i64 acc.n] 39
    rwa [World.size_alloc] at this
  have hM := h
  have hml := h.o.lt
  have hol := fun y (hy : y ∈ M.own mb) => h.ltOwn hy
  replace hol := Lib.hid hol
  replace g1 := Lib.hid g1
  replace hM := Lib.hid hM
  replace hA0 := Lib.hid hA0
  replace hL := Lib.hid hL
  replace hK := Lib.hid hK
  clear h
  cases hh : M.v.hears 1 fr b with
  | false =>
    have hv : M.v.promise fr b acc (L.map (·.e)) = (false, M.v) := by unfold RndV.promise; rw [hh]; rfl
    rw [hv]
    rw [hh] at hfit
    replace hfit := Lib.hid hfit
    replace hh := Lib.hid hh
    go_enter Tryd.func61, Tryd.ntmps61
    go_wp2_with fail
    refine hfit.out.mono ?_
    rintro e w1 ⟨rfl, g2⟩
    go_wp2_with fail
    go_ret
    exact ⟨rfl, M, hM.out.gr (g1.out.trans g2), rfl, (g1.out.trans g2).x _, fun y hy => .inl hy⟩
  | true =>
    obtain ⟨hf4, hf5, hf6⟩ := hears_yes hh
    obtain ⟨V, hV⟩ : ∃ V, V = M.v.promise fr b acc (L.map (·.e)) := ⟨_, rfl⟩
    rw [← hV]
    have hvp : V = (true, if (M.v.hearNew fr acc (L.map (·.e))).most then (M.v.hearNew fr acc (L.map (·.e))).tell else M.v.hearNew fr acc (L.map (·.e))) := by rw [hV]; unfold RndV.promise; rw [hh]; rfl
    rw [hh] at hfit
    replace hfit := Lib.hid hfit
    replace hh := Lib.hid hh
    replace hV := Lib.hid hV
    replace hvp := Lib.hid hvp
    go_enter Tryd.func61, Tryd.ntmps61
    obtain ⟨i5, hi, hz0, hz1, hz2⟩ := info_parts Tryd.infoI
    obtain ⟨f, rfl⟩ : ∃ f : Nat, fr = f := ⟨fr.toNat, by omega⟩
    have hfn : f < M.nd := by omega
    have hfm : f ∉ M.hs := by simpa using hf6
    go_wp2_with fail
    refine hfit.out.mono ?_
    rintro e w1 ⟨rfl, g2⟩
    have gw1 := g1.out.trans g2
    have h1 := hM.out.gr gw1
    have c15 : w1.cell? ⟨mb, 15, none⟩ = some (.slice M.ha M.hs.length M.hc) := h1.o.cell rfl
    have hz15 := h1.o.lt
    have h7 := h1.hs7
    obtain ⟨wz, hwz⟩ : ∃ wz, wz = w1.alloc (.cells #[.int .i64 (f : Int)] 3) := ⟨_, rfl⟩
    have gz : Gr w1 wz := by rw [hwz]; exact (Gr.refl w1).alloc _
    have hOz : wz.ownsRow (mb + 1) 3 1 (.slice M.ha M.hs.length M.hc) M.hs.length ((ints M.hs).flatMap inC) := by
      have := owns_gr h1.h gz
      rwa [List.length_map] at this
    have hnews : ∀ (j : Nat) (u : Value), [Value.int .i64 (f : Int)][j]? = some u → wz.cell? ((⟨w1.heap.size, 0, none⟩ : Addr).add j) = some u := by
      intro j u hj
      obtain rfl : j = 0 := by have := get_lt hj; simp at this; omega
      have hb : Blk wz w1.heap.size #[.int .i64 (f : Int)] 3 := by rw [hwz]; exact Blk.new w1 _ _
      have := hb.cell (i := 0) (v := .int .i64 (f : Int)) rfl
      simp at hj
      subst hj
      simpa [Addr.add] using this
    have hbase : mb + 1 ≤ wz.heap.size := by have := gz.size; omega
    have hnt := fun g c7 w7 hown hgr hat => h1.noted (wz := wz) (w7 := w7) f g c7 gz hfn hfm hown hgr hat
    have hblk : ∀ w7, wz.grownBy w7 (Value.slice M.ha M.hs.length M.hc).ownBlock → Blk w7 mb M.row 110 := fun w7 hgr => blk_grown (h1.o.gr gz) hgr (fun e => by
      have := owns_lt h1.h mb e.symm
      omega)
    replace hblk := Lib.hid hblk
    replace hnt := Lib.hid hnt
    replace h1 := Lib.hid h1
    replace hwz := Lib.hid hwz
    replace hOz := Lib.hid hOz
    replace hnews := Lib.hid hnews
    replace hM := Lib.hid hM.out
    replace hfm := Lib.hid hfm
    replace hf6 := Lib.hid hf6
    go_wp2_with (at_builtin; go_loud (rw [← hwz.out]; refine wpList_append_lies _ rfl _ _ 23 rfl (mb + 1) 3 i5 _ 1 8 Tryd.underlying23 hi hz0 hz1 hz2 rfl (by decide) (.slice M.ha M.hs.length M.hc) M.hs.length ((ints M.hs).flatMap inC) rfl hOz.out ⟨w1.heap.size, 0, none⟩ 1 1 [.int .i64 (f : Int)] rfl rfl hnews.out (by intro u hu; simp at hu; subst hu; rfl) (by decide) (by unfold maxLen; omega) (by omega) hbase wz.heap.size rfl ?_; intro g7 c7 w7 hown7 hgr7 hat7 hlt7; have hb7 := hblk.out w7 hgr7; obtain ⟨hM8, gx8, ho8⟩ := hnt.out g7 c7 w7 hown7 hgr7 hat7; have d15 := hb7.cell (i := 15) (v := .slice M.ha M.hs.length M.hc) rfl; have f15 := hb7.free 15; have z15 := hb7.lt; replace hb7 := Lib.hid hb7; replace hM8 := Lib.hid hM8; replace gx8 := Lib.hid gx8; replace ho8 := Lib.hid ho8; clear hown7 hgr7 hat7))
    go_upto_region 4 with fail
    obtain ⟨w8, hw8⟩ : ∃ w8, w8 = w7.setCell ⟨mb, 15, none⟩ (.slice (some ⟨g7, 0, none⟩) (M.hs.length + 1) c7) := ⟨_, rfl⟩
    rw [← hw8]
    replace hM8 := hM8.out
    replace gx8 := gx8.out
    rw [← hw8] at hM8 gx8
    have gX : GrX (M.own mb) w w8 := (gw1.x _).trans gx8
    have hA8 : Blk w8 (w.heap.size + 1) #[.int .i64 acc.r, .int .i64 acc.n] 39 := (hA0.out.gr g2).grx (S := M.own mb) gx8 (fun hm => by have := hol.out _ hm; omega)
    obtain ⟨M1, hM1⟩ : ∃ M1, M1 = ({M with hs := M.hs ++ [f], ha := some ⟨g7, 0, none⟩, hc := c7} : RnM) := ⟨_, rfl⟩
    rw [← hM1] at hM8
    have hv1 : M1.v = M.v.note f := by rw [hM1]; exact RnM.v_note M f _ _
    have ho1 : ∀ y, y ∈ M1.own mb → y ∈ M.own mb ∨ w1.heap.size ≤ y := by rw [hM1]; exact ho8.out
    have k16 := GrW.cell (hM8.o.cell (i := 16) (v := .int .i64 M1.nw.r) rfl)
    have k17 := GrW.cell (hM8.o.cell (i := 17) (v := .int .i64 M1.nw.n) rfl)
    have a0 := GrW.cell (hA8.cell (i := 0) (v := .int .i64 acc.r) rfl)
    have a1_ := GrW.cell (hA8.cell (i := 1) (v := .int .i64 acc.n) rfl)
    have hab := fun x : GrW w8 => rabove_any acc M1.nw x.to
    have hnw : M1.nw = M.nw := by rw [hM1]
    replace hw8 := Lib.hid hw8
    replace hM8 := Lib.hid hM8
    replace gX := Lib.hid gX
    replace hA8 := Lib.hid hA8
    replace hM1 := Lib.hid hM1
    replace hnw := Lib.hid hnw
    replace hv1 := Lib.hid hv1
    replace ho1 := Lib.hid ho1
    clear gx8 ho8
    cases hcase : aboveB acc M1.nw with
    | true =>
      rw [hcase] at hab
      replace hab := Lib.hid hab
      replace hcase := Lib.hid hcase
      refine wp_region_grows (by kernel_rfl) (by kernel_rfl) ?_
      repeat (any_goals (first | go_big_quiet_step (first | (exact Calls.grows (hab.out _)) | fail) | quiet_step (first | (exact Calls.grows (hab.out _)) | fail)))
      refine wpQuiet_nil ?_
      intro wy hwq
      have gy := GrW.of hwq
      clear hwq
      obtain ⟨cy, fy, sy⟩ := gy.cells
      try simp only [size_drewN] at cy fy sy
      try simp only [World.size_alloc] at cy fy sy
      try simp only [World.size_drew] at cy fy sy
      try simp only [World.size_setCell] at cy fy sy
      have hMy := hM8.out.gr gy
      have gXy := gX.out.gr gy
      have hAy := hA8.out.gr gy
      have hcp := fun w' (g : GrX (M.own mb) w w') => rcopy_any a c L w' ((hL.out.grx g (fun y hy h1 => h1 hy)).any) hcap
      have b0 := hAy.cell (i := 0) (v := .int .i64 acc.r) rfl
      have b1 := hAy.cell (i := 1) (v := .int .i64 acc.n) rfl
      have hgd : GrX (M.own mb) w wy.drew := gXy.gr ((Gr.refl wy).drew)
      have hMw := fun w' (g : Gr wy w') => hMy.gr g
      have hAw := fun w' (g : Gr wy w') => hAy.gr g
      replace hMy := Lib.hid hMy
      replace gXy := Lib.hid gXy
      replace hAy := Lib.hid hAy
      replace hcp := Lib.hid hcp
      replace hgd := Lib.hid hgd
      replace hMw := Lib.hid hMw
      replace hAw := Lib.hid hAw
      clear cy fy k16 k17 a0 a1_
      go_upto_region 5 with fail
      go_region_held3 (fun w' => w'.cell? ⟨w.heap.size + 1, 0, none⟩ = some (.int .i64 acc.r) ∧ w'.cell? ⟨w.heap.size + 1, 1, none⟩ = some (.int .i64 acc.n)) (simp (maxDischargeDepth := 8) [go_sem, *])
        (first
          | (go_at_call 20; (with_reducible refine (hcp.out _ hgd.out).mono ?_); rintro e w10 ⟨a10, c10, L10, rfl, m10, l10, n10, p10, q10, g10, -, -⟩; have gy10 : Gr wy w10 := (Gr.refl wy).drew.trans g10; have hM10 := hMw.out w10 gy10; have hA10 := hAw.out w10 gy10; have d0 := hA10.cell (i := 0) (v := .int .i64 acc.r) rfl; have d1 := hA10.cell (i := 1) (v := .int .i64 acc.n) rfl; have m16 := hM10.o.cell (i := 16) (v := .int .i64 M1.nw.r) rfl; have m17 := hM10.o.cell (i := 17) (v := .int .i64 M1.nw.n) rfl; have m18 := hM10.o.cell (i := 18) (v := .slice M1.la M1.led.length M1.lc) rfl; have f16 := hM10.o.free 16; have f17 := hM10.o.free 17; have f18 := hM10.o.free 18; have z10 := hM10.o.lt; have z11 := hA10.lt; replace hM10 := Lib.hid hM10; replace hA10 := Lib.hid hA10; replace l10 := Lib.hid l10; replace m10 := Lib.hid m10)
          | fail)
      go_upto_region 6 with fail
      obtain ⟨w9, hw9⟩ : ∃ w9, w9 = ((w10.setCell ⟨mb, 16, none⟩ (.int .i64 acc.r)).setCell ⟨mb, 17, none⟩ (.int .i64 acc.n)).setCell ⟨mb, 18, none⟩ (.slice a10 L.length c10) := ⟨_, rfl⟩
      rw [← hw9]
      have hL10 : L10.length = L.length := by simpa using congrArg List.length m10.out
      obtain ⟨M2, hM2⟩ : ∃ M2, M2 = ({M1 with nw := acc, la := a10, lc := c10, led := L10} : RnM) := ⟨_, rfl⟩
      have hM9 : RnAt K0 w9 mb M2 := by
        have hsz := hgd.out.size
        have h1 : LedM (fun b => b ∉ M1.own mb ∧ K0 b) w10 a10 L10 := l10.out.mono (fun b _ hb => ⟨fun hm => by have := hMy.out.ltOwn hm; simp at hb; omega, hK.out b (by simp at hb hsz; omega)⟩)
        have h2 := (hM10.out.newest acc).newLed (a := a10) (c := c10) (L := L10) (h1.grx (T := [mb]) (((GrX.refl _ _).set (p := ⟨mb, 16, none⟩) (.inl (by simp)) _).set (p := ⟨mb, 17, none⟩) (.inl (by simp)) _) (fun y hy h3 => h3.1 (RnM.own_sub hy))) n10 (by rw [hL10]; exact hcap)
        rw [hL10] at h2
        rw [hw9, hM2]
        exact h2
      have hv2 : M2.v = M.v.hearNew f acc (L.map (·.e)) := by
        unfold RndV.hearNew
        rw [show aboveB acc M.v.nw = true by have := hcase.out; rw [hnw.out] at this; exact this, ← hv1.out, hM2]
        show (⟨ansOf M1.nd M1.hs, M1.x.e, M1.reads, M1.bal, M1.st, acc, L10.map (·.e), M1.begun⟩ : RndV) = _
        rw [m10.out]
        rfl
      have ho2 : ∀ y, y ∈ M2.own mb → y ∈ M.own mb ∨ w.heap.size ≤ y := by
        rw [hM2]
        intro y hy
        rcases ho1.out y hy with h1 | h1
        · exact .inl h1
        · exact .inr (by have := gw1.size; omega)
      have gX9 : GrX (M.own mb) w w9 := by rw [hw9]; exact (((hgd.out.gr g10).set (p := ⟨mb, 16, none⟩) (.inl (List.mem_cons_self ..)) _).set (p := ⟨mb, 17, none⟩) (.inl (List.mem_cons_self ..)) _).set (p := ⟨mb, 18, none⟩) (.inl (List.mem_cons_self ..)) _
      clear m16 m17 m18 f16 f17 f18 d0 d1 b0 b1 z10 z11
      replace hw9 := Lib.hid hw9
      replace hM2 := Lib.hid hM2
      have hmo := hM9.most
      have h92 := hM9.hs7
      have h97 := hM9.n7
      obtain ⟨q, hq⟩ : ∃ q, M2.hs.length = q := ⟨_, rfl⟩
      have k15 := GrW.cell (hM9.o.cell (i := 15) (v := .slice M2.ha M2.hs.length M2.hc) rfl)
      have k0 := GrW.cell (hM9.o.cell (i := 0) (v := .int .i64 M2.nd) rfl)
      rw [hq] at hmo h92 k15
      have hwr : IntKind.i64.wrap (2 * (q : Int)) = 2 * (q : Int) := by rw [IntKind.wrap_i64]; omega
      have hvq : V = (true, if M2.v.most then M2.v.tell else M2.v) := by rw [hv2]; exact hvp.out
      replace hM9 := Lib.hid hM9
      replace hv2 := Lib.hid hv2
      replace hvq := Lib.hid hvq
      replace gX9 := Lib.hid gX9
      replace ho2 := Lib.hid ho2
      replace hq := Lib.hid hq
      replace h97 := Lib.hid h97
      by_cases hm : 2 * (q : Int) ≤ (M2.nd : Int)
      · rw [decide_eq_false (show ¬ (M2.nd : Int) < 2 * (q : Int) by omega)] at hmo
        replace hmo := Lib.hid hmo
        refine wp_region_grows (by kernel_rfl) (by kernel_rfl) ?_
        repeat (any_goals (first | go_big_quiet_step (first | fail) | quiet_step (first | fail)))
        refine wpQuiet_nil ?_
        intro wt hwq
        have gt := GrW.of hwq
        clear hwq
        obtain ⟨ct, ft, st⟩ := gt.cells
        try simp only [size_drewN] at ct ft st
        try simp only [World.size_alloc] at ct ft st
        try simp only [World.size_drew] at ct ft st
        try simp only [World.size_setCell] at ct ft st
        clear ct ft k15 k0
        go_wp2_with fail
        go_ret
        exact ⟨by rw [hvq.out, hmo.out]; rfl, M2, hM9.out.gr gt, by rw [hvq.out, hmo.out]; rfl, gX9.out.gr gt, ho2.out⟩
      · rw [decide_eq_true (show (M2.nd : Int) < 2 * (q : Int) by omega)] at hmo
        replace hmo := Lib.hid hmo
        refine wp_region_grows (by kernel_rfl) (by kernel_rfl) ?_
        repeat (any_goals (first | go_big_quiet_step (first | fail) | quiet_step (first | fail)))
        refine wpQuiet_nil ?_
        intro wt hwq
        have gt := GrW.of hwq
        clear hwq
        obtain ⟨ct, ft, st⟩ := gt.cells
        try simp only [size_drewN] at ct ft st
        try simp only [World.size_alloc] at ct ft st
        try simp only [World.size_drew] at ct ft st
        try simp only [World.size_setCell] at ct ft st
        have hMt := hM9.out.gr gt
        have gXt := gX9.out.gr gt
        have c14 := hMt.o.cell (i := 14) (v := .int .i64 M2.st) rfl
        have c15_ := hMt.o.cell (i := 15) (v := .slice M2.ha M2.hs.length M2.hc) rfl
        have f14 := hMt.o.free 14
        have f15_ := hMt.o.free 15
        have zt := hMt.o.lt
        obtain ⟨w11, hw11⟩ : ∃ w11, w11 = (wt.setCell ⟨mb, 15, none⟩ (.slice none 0 0)).setCell ⟨mb, 14, none⟩ (.int .i64 2) := ⟨_, rfl⟩
        obtain ⟨M3, hM3⟩ : ∃ M3, M3 = ({({M2 with hs := [], ha := none, hc := 0} : RnM) with st := 2} : RnM) := ⟨_, rfl⟩
        have h11 : RnAt K0 w11 mb M3 := by rw [hw11, hM3]; exact (hMt.forget).stage 2
        have hv3 : M3.v = {M2.v.clr with st := 2} := by
          rw [hM3, ← RnM.v_clr]
        have hown3 : M3.own mb = [mb] := by rw [hM3]; rfl
        have gX11 : GrX (M.own mb) w w11 := by rw [hw11]; exact (gXt.set (p := ⟨mb, 15, none⟩) (.inl (List.mem_cons_self ..)) _).set (p := ⟨mb, 14, none⟩) (.inl (List.mem_cons_self ..)) _
        have ho3 : ∀ y, y ∈ M3.own mb → y ∈ M.own mb ∨ w.heap.size ≤ y := by rw [hown3]; exact fun y hy => .inl (RnM.own_sub hy)
        have hr3 : M3.reads = M2.reads := by rw [hM3]
        have e11 := h11.o.cell (i := 11) (v := .bool M3.reads) rfl
        rw [hr3] at e11
        replace hMt := Lib.hid hMt
        replace hw11 := Lib.hid hw11
        replace hM3 := Lib.hid hM3
        replace h11 := Lib.hid h11
        replace hv3 := Lib.hid hv3
        replace gX11 := Lib.hid gX11
        replace ho3 := Lib.hid ho3
        replace hr3 := Lib.hid hr3
        replace hown3 := Lib.hid hown3
        clear ct ft k15 k0 gXt
        go_upto_region 9 with fail
        rw [← hw11.out]
        cases hrd : M2.reads with
        | true =>
          rw [hrd] at e11
          replace hrd := Lib.hid hrd
          go_wp2_with fail
          go_ret
          refine ⟨by rw [hvq.out, hmo.out]; rfl, M3, h11.out, ?_, gX11.out, ho3.out⟩
          rw [hvq.out, hmo.out, hv3.out]
          show _ = M2.v.tell
          unfold RndV.tell
          rw [show M2.v.reads = true from hrd.out]
          rfl
        | false =>
          rw [hrd] at e11
          have htl : M2.v.tell = if plE M2.v.led M2.v.x.cl M2.v.x.nu = -1 then (if M2.v.led.length < 64 then {M2.v.clr with st := 2, led := M2.v.led ++ [M2.v.x]} else {M2.v.clr with st := 4}) else {M2.v.clr with st := 2} := by
            unfold RndV.tell
            rw [show M2.v.reads = false from hrd]
            rfl
          replace hrd := Lib.hid hrd
          replace htl := Lib.hid htl
          have hpl : plIx M3.led M3.x.e.cl M3.x.e.nu = plE M2.v.led M2.v.x.cl M2.v.x.nu := by
            rw [plIx_map]
            have := hM3.out
            rw [this]
          have hln : M3.led.length = M2.v.led.length := by
            rw [hM3.out]
            show M2.led.length = (M2.led.map (·.e)).length
            rw [List.length_map]
          have hcap3 := h11.out.cap
          have hmx : M3.led.length ≤ maxLen := by unfold maxLen; omega
          have g11d : Gr w11 w11.drew := (Gr.refl w11).drew
          have hl3 := h11.out.l.gr g11d
          have hx3 := h11.out.x.gr g11d
          have v1 := h11.out.o.cell (i := 1) (v := .int .i64 M3.x.e.cl) rfl
          have v2 := h11.out.o.cell (i := 2) (v := .int .i64 M3.x.e.nu) rfl
          have v3 := h11.out.o.cell (i := 3) (v := .int .i64 M3.x.e.kd) rfl
          have v4 := h11.out.o.cell (i := 4) (v := .int .i64 M3.x.e.id) rfl
          have v5 := h11.out.o.cell (i := 5) (v := .int .i64 M3.x.e.srv.k) rfl
          have v6 := h11.out.o.cell (i := 6) (v := .int .i64 M3.x.e.srv.q) rfl
          have v7 := h11.out.o.cell (i := 7) (v := .int .i64 M3.x.e.srv.t) rfl
          have v8 := h11.out.o.cell (i := 8) (v := .int .i64 M3.x.e.po) rfl
          have v9 := h11.out.o.cell (i := 9) (v := .slice M3.x.a M3.x.e.tasks.length M3.x.c) rfl
          have v10 := h11.out.o.cell (i := 10) (v := .int .i64 M3.x.e.at_) rfl
          have v18 := h11.out.o.cell (i := 18) (v := .slice M3.la M3.led.length M3.lc) rfl
          have hcel : ∀ W, Gr w11 W → Blk W mb M3.row 110 := fun W g => h11.out.o.gr g
          replace hcel := Lib.hid hcel
          replace g11d := Lib.hid g11d
          replace hl3 := Lib.hid hl3
          replace hx3 := Lib.hid hx3
          replace hmx := Lib.hid hmx
          clear c14 c15_ f14 f15_ zt
          rcases plE_cases M2.v.led M2.v.x.cl M2.v.x.nu with hno | ⟨k, hk, hkl⟩
          · rw [hno] at hpl
            by_cases h64 : M2.v.led.length < 64
            · have hadd := radd_new M3.la M3.lc M3.led M3.x w11.drew (fun b => b ∉ M3.own mb ∧ K0 b) hl3.out.any hx3.out hpl (by omega)
              have hvt : M2.v.tell = {M2.v.clr with st := 2, led := M2.v.led ++ [M2.v.x]} := by rw [htl.out, if_pos hno, if_pos h64]
              replace hadd := Lib.hid hadd
              replace hpl := Lib.hid hpl
              replace hvt := Lib.hid hvt
              replace hno := Lib.hid hno
              replace hln := Lib.hid hln
              go_upto_region 10 with fail
              go_region_held3 (fun w' => w'.cell? ⟨mb, 1, none⟩ = some (.int .i64 M3.x.e.cl) ∧ w'.cell? ⟨mb, 2, none⟩ = some (.int .i64 M3.x.e.nu) ∧ w'.cell? ⟨mb, 3, none⟩ = some (.int .i64 M3.x.e.kd) ∧ w'.cell? ⟨mb, 4, none⟩ = some (.int .i64 M3.x.e.id) ∧ w'.cell? ⟨mb, 5, none⟩ = some (.int .i64 M3.x.e.srv.k) ∧ w'.cell? ⟨mb, 6, none⟩ = some (.int .i64 M3.x.e.srv.q) ∧ w'.cell? ⟨mb, 7, none⟩ = some (.int .i64 M3.x.e.srv.t) ∧ w'.cell? ⟨mb, 8, none⟩ = some (.int .i64 M3.x.e.po) ∧ w'.cell? ⟨mb, 9, none⟩ = some (.slice M3.x.a M3.x.e.tasks.length M3.x.c) ∧ w'.cell? ⟨mb, 10, none⟩ = some (.int .i64 M3.x.e.at_) ∧ w'.cell? ⟨mb, 18, none⟩ = some (.slice M3.la M3.led.length M3.lc)) (simp (maxDischargeDepth := 8) [go_sem, *])
                (first
                  | (go_at_call 96; (with_reducible refine hadd.out.mono ?_); rintro e w12 ⟨a12, c12, L12, rfl, m12, l12, n12, g12⟩; have hb12 := hcel.out w12 (g11d.out.trans g12); have s1 := hb12.cell (i := 1) (v := .int .i64 M3.x.e.cl) rfl; have s2 := hb12.cell (i := 2) (v := .int .i64 M3.x.e.nu) rfl; have s3 := hb12.cell (i := 3) (v := .int .i64 M3.x.e.kd) rfl; have s4 := hb12.cell (i := 4) (v := .int .i64 M3.x.e.id) rfl; have s5 := hb12.cell (i := 5) (v := .int .i64 M3.x.e.srv.k) rfl; have s6 := hb12.cell (i := 6) (v := .int .i64 M3.x.e.srv.q) rfl; have s7 := hb12.cell (i := 7) (v := .int .i64 M3.x.e.srv.t) rfl; have s8 := hb12.cell (i := 8) (v := .int .i64 M3.x.e.po) rfl; have s9 := hb12.cell (i := 9) (v := .slice M3.x.a M3.x.e.tasks.length M3.x.c) rfl; have s10 := hb12.cell (i := 10) (v := .int .i64 M3.x.e.at_) rfl; have s18 := hb12.cell (i := 18) (v := .slice M3.la M3.led.length M3.lc) rfl; have f18_ := hb12.free 18; have z12 := hb12.lt; replace hb12 := Lib.hid hb12; replace l12 := Lib.hid l12; replace m12 := Lib.hid m12)
                  | fail)
              go_wp2_with fail
              go_ret
              have h12 := h11.out.gr (g11d.out.trans g12)
              have hl12 : L12.length = M3.led.length + 1 := by
                have := congrArg List.length m12.out
                simpa using this
              have hK3 : ∀ b, w11.drew.heap.size ≤ b → b ∉ M3.own mb ∧ K0 b := fun b hb => ⟨fun hm => by have := h11.out.ltOwn hm; simp at hb; omega, hK.out b (by have := gX11.out.size; simp at hb; omega)⟩
              refine ⟨by rw [hvq.out, hmo.out]; rfl, _, h12.newLed (l12.out.mono (fun b _ hb => by rcases hb with hb | hb; exact hK3 b hb; exact hb)) n12 (by rw [hl12]; have := hln.out; omega), ?_, (gX11.out.gr (g11d.out.trans g12)).set (.inl (List.mem_cons_self ..)) _, ho3.out⟩
              rw [hvq.out, hmo.out]
              show (⟨ansOf M3.nd M3.hs, M3.x.e, M3.reads, M3.bal, M3.st, M3.nw, L12.map (·.e), M3.begun⟩ : RndV) = M2.v.tell
              rw [m12.out, hvt.out]
              have hxx : M3.x.e = M2.v.x := by have := hv3.out; exact congrArg RndV.x this
              have h3 := hv3.out
              have : (⟨ansOf M3.nd M3.hs, M3.x.e, M3.reads, M3.bal, M3.st, M3.nw, M3.led.map (·.e) ++ [M3.x.e], M3.begun⟩ : RndV) = {M3.v with led := M3.v.led ++ [M3.x.e]} := rfl
              rw [this, h3, hxx]
              rfl
            · have hadd := radd_full M3.la M3.lc M3.led M3.x w11.drew hl3.out.any hmx.out hpl (by omega)
              have hvt : M2.v.tell = {M2.v.clr with st := 4} := by rw [htl.out, if_pos hno, if_neg h64]
              replace hadd := Lib.hid hadd
              replace hpl := Lib.hid hpl
              replace hvt := Lib.hid hvt
              replace hno := Lib.hid hno
              replace hln := Lib.hid hln
              go_upto_region 10 with fail
              go_region_held3 (fun w' => w'.cell? ⟨mb, 1, none⟩ = some (.int .i64 M3.x.e.cl) ∧ w'.cell? ⟨mb, 2, none⟩ = some (.int .i64 M3.x.e.nu) ∧ w'.cell? ⟨mb, 3, none⟩ = some (.int .i64 M3.x.e.kd) ∧ w'.cell? ⟨mb, 4, none⟩ = some (.int .i64 M3.x.e.id) ∧ w'.cell? ⟨mb, 5, none⟩ = some (.int .i64 M3.x.e.srv.k) ∧ w'.cell? ⟨mb, 6, none⟩ = some (.int .i64 M3.x.e.srv.q) ∧ w'.cell? ⟨mb, 7, none⟩ = some (.int .i64 M3.x.e.srv.t) ∧ w'.cell? ⟨mb, 8, none⟩ = some (.int .i64 M3.x.e.po) ∧ w'.cell? ⟨mb, 9, none⟩ = some (.slice M3.x.a M3.x.e.tasks.length M3.x.c) ∧ w'.cell? ⟨mb, 10, none⟩ = some (.int .i64 M3.x.e.at_) ∧ w'.cell? ⟨mb, 18, none⟩ = some (.slice M3.la M3.led.length M3.lc)) (simp (maxDischargeDepth := 8) [go_sem, *])
                (first
                  | (go_at_call 96; (with_reducible refine hadd.out.mono ?_); rintro e w12 ⟨rfl, g12⟩; have hb12 := hcel.out w12 (g11d.out.trans g12); have s1 := hb12.cell (i := 1) (v := .int .i64 M3.x.e.cl) rfl; have s2 := hb12.cell (i := 2) (v := .int .i64 M3.x.e.nu) rfl; have s3 := hb12.cell (i := 3) (v := .int .i64 M3.x.e.kd) rfl; have s4 := hb12.cell (i := 4) (v := .int .i64 M3.x.e.id) rfl; have s5 := hb12.cell (i := 5) (v := .int .i64 M3.x.e.srv.k) rfl; have s6 := hb12.cell (i := 6) (v := .int .i64 M3.x.e.srv.q) rfl; have s7 := hb12.cell (i := 7) (v := .int .i64 M3.x.e.srv.t) rfl; have s8 := hb12.cell (i := 8) (v := .int .i64 M3.x.e.po) rfl; have s9 := hb12.cell (i := 9) (v := .slice M3.x.a M3.x.e.tasks.length M3.x.c) rfl; have s10 := hb12.cell (i := 10) (v := .int .i64 M3.x.e.at_) rfl; have s18 := hb12.cell (i := 18) (v := .slice M3.la M3.led.length M3.lc) rfl; have s14 := hb12.cell (i := 14) (v := .int .i64 M3.st) rfl; have f14_ := hb12.free 14; have z12 := hb12.lt; replace hb12 := Lib.hid hb12)
                  | fail)
              go_wp2_with fail
              go_ret
              have h12 := (h11.out.gr (g11d.out.trans g12)).stage 4
              refine ⟨by rw [hvq.out, hmo.out]; rfl, _, h12, ?_, (gX11.out.gr (g11d.out.trans g12)).set (.inl (List.mem_cons_self ..)) _, ho3.out⟩
              rw [hvq.out, hmo.out]
              show {M3.v with st := 4} = M2.v.tell
              rw [hvt.out, hv3.out]
          · have hne : ¬ plE M2.v.led M2.v.x.cl M2.v.x.nu = -1 := by rw [hk]; omega
            rw [hk] at hpl
            have hadd := radd_found M3.la M3.lc M3.led M3.x w11.drew hl3.out.any hmx.out k hpl
            have hvt : M2.v.tell = {M2.v.clr with st := 2} := by rw [htl.out, if_neg hne]
            replace hadd := Lib.hid hadd
            replace hpl := Lib.hid hpl
            replace hvt := Lib.hid hvt
            replace hk := Lib.hid hk
            replace hkl := Lib.hid hkl
            replace hne := Lib.hid hne
            replace hln := Lib.hid hln
            go_upto_region 10 with fail
            go_region_held3 (fun w' => w'.cell? ⟨mb, 1, none⟩ = some (.int .i64 M3.x.e.cl) ∧ w'.cell? ⟨mb, 2, none⟩ = some (.int .i64 M3.x.e.nu) ∧ w'.cell? ⟨mb, 3, none⟩ = some (.int .i64 M3.x.e.kd) ∧ w'.cell? ⟨mb, 4, none⟩ = some (.int .i64 M3.x.e.id) ∧ w'.cell? ⟨mb, 5, none⟩ = some (.int .i64 M3.x.e.srv.k) ∧ w'.cell? ⟨mb, 6, none⟩ = some (.int .i64 M3.x.e.srv.q) ∧ w'.cell? ⟨mb, 7, none⟩ = some (.int .i64 M3.x.e.srv.t) ∧ w'.cell? ⟨mb, 8, none⟩ = some (.int .i64 M3.x.e.po) ∧ w'.cell? ⟨mb, 9, none⟩ = some (.slice M3.x.a M3.x.e.tasks.length M3.x.c) ∧ w'.cell? ⟨mb, 10, none⟩ = some (.int .i64 M3.x.e.at_) ∧ w'.cell? ⟨mb, 18, none⟩ = some (.slice M3.la M3.led.length M3.lc)) (simp (maxDischargeDepth := 8) [go_sem, *])
              (first
                | (go_at_call 96; (with_reducible refine hadd.out.mono ?_); rintro e w12 ⟨rfl, g12⟩; have hb12 := hcel.out w12 (g11d.out.trans g12); have s1 := hb12.cell (i := 1) (v := .int .i64 M3.x.e.cl) rfl; have s2 := hb12.cell (i := 2) (v := .int .i64 M3.x.e.nu) rfl; have s3 := hb12.cell (i := 3) (v := .int .i64 M3.x.e.kd) rfl; have s4 := hb12.cell (i := 4) (v := .int .i64 M3.x.e.id) rfl; have s5 := hb12.cell (i := 5) (v := .int .i64 M3.x.e.srv.k) rfl; have s6 := hb12.cell (i := 6) (v := .int .i64 M3.x.e.srv.q) rfl; have s7 := hb12.cell (i := 7) (v := .int .i64 M3.x.e.srv.t) rfl; have s8 := hb12.cell (i := 8) (v := .int .i64 M3.x.e.po) rfl; have s9 := hb12.cell (i := 9) (v := .slice M3.x.a M3.x.e.tasks.length M3.x.c) rfl; have s10 := hb12.cell (i := 10) (v := .int .i64 M3.x.e.at_) rfl; have s18 := hb12.cell (i := 18) (v := .slice M3.la M3.led.length M3.lc) rfl; have f18_ := hb12.free 18; have z12 := hb12.lt; replace hb12 := Lib.hid hb12)
                | fail)
            go_wp2_with fail
            go_ret
            have h12 := h11.out.gr (g11d.out.trans g12)
            refine ⟨by rw [hvq.out, hmo.out]; rfl, _, h12.newLed h12.l h12.lc h12.cap, ?_, (gX11.out.gr (g11d.out.trans g12)).set (.inl (List.mem_cons_self ..)) _, ho3.out⟩
            rw [hvq.out, hmo.out]
            show M3.v = M2.v.tell
            rw [hvt.out, hv3.out]
    | false =>
      rw [hcase] at hab
      replace hab := Lib.hid hab
      replace hcase := Lib.hid hcase
      refine wp_region_grows (by kernel_rfl) (by kernel_rfl) ?_
      repeat (any_goals (first | go_big_quiet_step (first | (exact Calls.grows (hab.out _)) | fail) | quiet_step (first | (exact Calls.grows (hab.out _)) | fail)))
      refine wpQuiet_nil ?_
      intro wy hwq
      have gy := GrW.of hwq
      clear hwq
      obtain ⟨cy, fy, sy⟩ := gy.cells
      try simp only [size_drewN] at cy fy sy
      try simp only [World.size_alloc] at cy fy sy
      try simp only [World.size_drew] at cy fy sy
      try simp only [World.size_setCell] at cy fy sy
      obtain ⟨w9, hw9⟩ : ∃ w9, w9 = wy := ⟨_, rfl⟩
      rw [← hw9] at gy ⊢
      obtain ⟨M2, hM2⟩ : ∃ M2, M2 = M1 := ⟨_, rfl⟩
      have hM9 : RnAt K0 w9 mb M2 := by rw [hM2]; exact hM8.out.gr gy
      have hv2 : M2.v = M.v.hearNew f acc (L.map (·.e)) := by
        unfold RndV.hearNew
        rw [show aboveB acc M.v.nw = false by have := hcase.out; rw [hnw.out] at this; exact this, ← hv1.out, hM2]
        rfl
      have ho2 : ∀ y, y ∈ M2.own mb → y ∈ M.own mb ∨ w.heap.size ≤ y := by
        rw [hM2]
        intro y hy
        rcases ho1.out y hy with h1 | h1
        · exact .inl h1
        · exact .inr (by have := gw1.size; omega)
      have gX9 : GrX (M.own mb) w w9 := gX.out.gr gy
      clear cy fy k16 k17 a0 a1_
      replace hw9 := Lib.hid hw9
      replace hM2 := Lib.hid hM2
      go_upto_region 6 with fail
      have hmo := hM9.most
      have h92 := hM9.hs7
      have h97 := hM9.n7
      obtain ⟨q, hq⟩ : ∃ q, M2.hs.length = q := ⟨_, rfl⟩
      have k15 := GrW.cell (hM9.o.cell (i := 15) (v := .slice M2.ha M2.hs.length M2.hc) rfl)
      have k0 := GrW.cell (hM9.o.cell (i := 0) (v := .int .i64 M2.nd) rfl)
      rw [hq] at hmo h92 k15
      have hwr : IntKind.i64.wrap (2 * (q : Int)) = 2 * (q : Int) := by rw [IntKind.wrap_i64]; omega
      have hvq : V = (true, if M2.v.most then M2.v.tell else M2.v) := by rw [hv2]; exact hvp.out
      replace hM9 := Lib.hid hM9
      replace hv2 := Lib.hid hv2
      replace hvq := Lib.hid hvq
      replace gX9 := Lib.hid gX9
      replace ho2 := Lib.hid ho2
      replace hq := Lib.hid hq
      replace h97 := Lib.hid h97
      by_cases hm : 2 * (q : Int) ≤ (M2.nd : Int)
      · rw [decide_eq_false (show ¬ (M2.nd : Int) < 2 * (q : Int) by omega)] at hmo
        replace hmo := Lib.hid hmo
        refine wp_region_grows (by kernel_rfl) (by kernel_rfl) ?_
        repeat (any_goals (first | go_big_quiet_step (first | fail) | quiet_step (first | fail)))
        refine wpQuiet_nil ?_
        intro wt hwq
        have gt := GrW.of hwq
        clear hwq
        obtain ⟨ct, ft, st⟩ := gt.cells
        try simp only [size_drewN] at ct ft st
        try simp only [World.size_alloc] at ct ft st
        try simp only [World.size_drew] at ct ft st
        try simp only [World.size_setCell] at ct ft st
        clear ct ft k15 k0
        go_wp2_with fail
        go_ret
        exact ⟨by rw [hvq.out, hmo.out]; rfl, M2, hM9.out.gr gt, by rw [hvq.out, hmo.out]; rfl, gX9.out.gr gt, ho2.out⟩
      · rw [decide_eq_true (show (M2.nd : Int) < 2 * (q : Int) by omega)] at hmo
        replace hmo := Lib.hid hmo
        refine wp_region_grows (by kernel_rfl) (by kernel_rfl) ?_
        repeat (any_goals (first | go_big_quiet_step (first | fail) | quiet_step (first | fail)))
        refine wpQuiet_nil ?_
        intro wt hwq
        have gt := GrW.of hwq
        clear hwq
        obtain ⟨ct, ft, st⟩ := gt.cells
        try simp only [size_drewN] at ct ft st
        try simp only [World.size_alloc] at ct ft st
        try simp only [World.size_drew] at ct ft st
        try simp only [World.size_setCell] at ct ft st
        have hMt := hM9.out.gr gt
        have gXt := gX9.out.gr gt
        have c14 := hMt.o.cell (i := 14) (v := .int .i64 M2.st) rfl
        have c15_ := hMt.o.cell (i := 15) (v := .slice M2.ha M2.hs.length M2.hc) rfl
        have f14 := hMt.o.free 14
        have f15_ := hMt.o.free 15
        have zt := hMt.o.lt
        obtain ⟨w11, hw11⟩ : ∃ w11, w11 = (wt.setCell ⟨mb, 15, none⟩ (.slice none 0 0)).setCell ⟨mb, 14, none⟩ (.int .i64 2) := ⟨_, rfl⟩
        obtain ⟨M3, hM3⟩ : ∃ M3, M3 = ({({M2 with hs := [], ha := none, hc := 0} : RnM) with st := 2} : RnM) := ⟨_, rfl⟩
        have h11 : RnAt K0 w11 mb M3 := by rw [hw11, hM3]; exact (hMt.forget).stage 2
        have hv3 : M3.v = {M2.v.clr with st := 2} := by
          rw [hM3, ← RnM.v_clr]
        have hown3 : M3.own mb = [mb] := by rw [hM3]; rfl
        have gX11 : GrX (M.own mb) w w11 := by rw [hw11]; exact (gXt.set (p := ⟨mb, 15, none⟩) (.inl (List.mem_cons_self ..)) _).set (p := ⟨mb, 14, none⟩) (.inl (List.mem_cons_self ..)) _
        have ho3 : ∀ y, y ∈ M3.own mb → y ∈ M.own mb ∨ w.heap.size ≤ y := by rw [hown3]; exact fun y hy => .inl (RnM.own_sub hy)
        have hr3 : M3.reads = M2.reads := by rw [hM3]
        have e11 := h11.o.cell (i := 11) (v := .bool M3.reads) rfl
        rw [hr3] at e11
        replace hMt := Lib.hid hMt
        replace hw11 := Lib.hid hw11
        replace hM3 := Lib.hid hM3
        replace h11 := Lib.hid h11
        replace hv3 := Lib.hid hv3
        replace gX11 := Lib.hid gX11
        replace ho3 := Lib.hid ho3
        replace hr3 := Lib.hid hr3
        replace hown3 := Lib.hid hown3
        clear ct ft k15 k0 gXt
        go_upto_region 9 with fail
        rw [← hw11.out]
        cases hrd : M2.reads with
        | true =>
          rw [hrd] at e11
          replace hrd := Lib.hid hrd
          go_wp2_with fail
          go_ret
          refine ⟨by rw [hvq.out, hmo.out]; rfl, M3, h11.out, ?_, gX11.out, ho3.out⟩
          rw [hvq.out, hmo.out, hv3.out]
          show _ = M2.v.tell
          unfold RndV.tell
          rw [show M2.v.reads = true from hrd.out]
          rfl
        | false =>
          rw [hrd] at e11
          have htl : M2.v.tell = if plE M2.v.led M2.v.x.cl M2.v.x.nu = -1 then (if M2.v.led.length < 64 then {M2.v.clr with st := 2, led := M2.v.led ++ [M2.v.x]} else {M2.v.clr with st := 4}) else {M2.v.clr with st := 2} := by
            unfold RndV.tell
            rw [show M2.v.reads = false from hrd]
            rfl
          replace hrd := Lib.hid hrd
          replace htl := Lib.hid htl
          have hpl : plIx M3.led M3.x.e.cl M3.x.e.nu = plE M2.v.led M2.v.x.cl M2.v.x.nu := by
            rw [plIx_map]
            have := hM3.out
            rw [this]
          have hln : M3.led.length = M2.v.led.length := by
            rw [hM3.out]
            show M2.led.length = (M2.led.map (·.e)).length
            rw [List.length_map]
          have hcap3 := h11.out.cap
          have hmx : M3.led.length ≤ maxLen := by unfold maxLen; omega
          have g11d : Gr w11 w11.drew := (Gr.refl w11).drew
          have hl3 := h11.out.l.gr g11d
          have hx3 := h11.out.x.gr g11d
          have v1 := h11.out.o.cell (i := 1) (v := .int .i64 M3.x.e.cl) rfl
          have v2 := h11.out.o.cell (i := 2) (v := .int .i64 M3.x.e.nu) rfl
          have v3 := h11.out.o.cell (i := 3) (v := .int .i64 M3.x.e.kd) rfl
          have v4 := h11.out.o.cell (i := 4) (v := .int .i64 M3.x.e.id) rfl
          have v5 := h11.out.o.cell (i := 5) (v := .int .i64 M3.x.e.srv.k) rfl
          have v6 := h11.out.o.cell (i := 6) (v := .int .i64 M3.x.e.srv.q) rfl
          have v7 := h11.out.o.cell (i := 7) (v := .int .i64 M3.x.e.srv.t) rfl
          have v8 := h11.out.o.cell (i := 8) (v := .int .i64 M3.x.e.po) rfl
          have v9 := h11.out.o.cell (i := 9) (v := .slice M3.x.a M3.x.e.tasks.length M3.x.c) rfl
          have v10 := h11.out.o.cell (i := 10) (v := .int .i64 M3.x.e.at_) rfl
          have v18 := h11.out.o.cell (i := 18) (v := .slice M3.la M3.led.length M3.lc) rfl
          have hcel : ∀ W, Gr w11 W → Blk W mb M3.row 110 := fun W g => h11.out.o.gr g
          replace hcel := Lib.hid hcel
          replace g11d := Lib.hid g11d
          replace hl3 := Lib.hid hl3
          replace hx3 := Lib.hid hx3
          replace hmx := Lib.hid hmx
          clear c14 c15_ f14 f15_ zt
          rcases plE_cases M2.v.led M2.v.x.cl M2.v.x.nu with hno | ⟨k, hk, hkl⟩
          · rw [hno] at hpl
            by_cases h64 : M2.v.led.length < 64
            · have hadd := radd_new M3.la M3.lc M3.led M3.x w11.drew (fun b => b ∉ M3.own mb ∧ K0 b) hl3.out.any hx3.out hpl (by omega)
              have hvt : M2.v.tell = {M2.v.clr with st := 2, led := M2.v.led ++ [M2.v.x]} := by rw [htl.out, if_pos hno, if_pos h64]
              replace hadd := Lib.hid hadd
              replace hpl := Lib.hid hpl
              replace hvt := Lib.hid hvt
              replace hno := Lib.hid hno
              replace hln := Lib.hid hln
              go_upto_region 10 with fail
              go_region_held3 (fun w' => w'.cell? ⟨mb, 1, none⟩ = some (.int .i64 M3.x.e.cl) ∧ w'.cell? ⟨mb, 2, none⟩ = some (.int .i64 M3.x.e.nu) ∧ w'.cell? ⟨mb, 3, none⟩ = some (.int .i64 M3.x.e.kd) ∧ w'.cell? ⟨mb, 4, none⟩ = some (.int .i64 M3.x.e.id) ∧ w'.cell? ⟨mb, 5, none⟩ = some (.int .i64 M3.x.e.srv.k) ∧ w'.cell? ⟨mb, 6, none⟩ = some (.int .i64 M3.x.e.srv.q) ∧ w'.cell? ⟨mb, 7, none⟩ = some (.int .i64 M3.x.e.srv.t) ∧ w'.cell? ⟨mb, 8, none⟩ = some (.int .i64 M3.x.e.po) ∧ w'.cell? ⟨mb, 9, none⟩ = some (.slice M3.x.a M3.x.e.tasks.length M3.x.c) ∧ w'.cell? ⟨mb, 10, none⟩ = some (.int .i64 M3.x.e.at_) ∧ w'.cell? ⟨mb, 18, none⟩ = some (.slice M3.la M3.led.length M3.lc)) (simp (maxDischargeDepth := 8) [go_sem, *])
                (first
                  | (go_at_call 96; (with_reducible refine hadd.out.mono ?_); rintro e w12 ⟨a12, c12, L12, rfl, m12, l12, n12, g12⟩; have hb12 := hcel.out w12 (g11d.out.trans g12); have s1 := hb12.cell (i := 1) (v := .int .i64 M3.x.e.cl) rfl; have s2 := hb12.cell (i := 2) (v := .int .i64 M3.x.e.nu) rfl; have s3 := hb12.cell (i := 3) (v := .int .i64 M3.x.e.kd) rfl; have s4 := hb12.cell (i := 4) (v := .int .i64 M3.x.e.id) rfl; have s5 := hb12.cell (i := 5) (v := .int .i64 M3.x.e.srv.k) rfl; have s6 := hb12.cell (i := 6) (v := .int .i64 M3.x.e.srv.q) rfl; have s7 := hb12.cell (i := 7) (v := .int .i64 M3.x.e.srv.t) rfl; have s8 := hb12.cell (i := 8) (v := .int .i64 M3.x.e.po) rfl; have s9 := hb12.cell (i := 9) (v := .slice M3.x.a M3.x.e.tasks.length M3.x.c) rfl; have s10 := hb12.cell (i := 10) (v := .int .i64 M3.x.e.at_) rfl; have s18 := hb12.cell (i := 18) (v := .slice M3.la M3.led.length M3.lc) rfl; have f18_ := hb12.free 18; have z12 := hb12.lt; replace hb12 := Lib.hid hb12; replace l12 := Lib.hid l12; replace m12 := Lib.hid m12)
                  | fail)
              go_wp2_with fail
              go_ret
              have h12 := h11.out.gr (g11d.out.trans g12)
              have hl12 : L12.length = M3.led.length + 1 := by
                have := congrArg List.length m12.out
                simpa using this
              have hK3 : ∀ b, w11.drew.heap.size ≤ b → b ∉ M3.own mb ∧ K0 b := fun b hb => ⟨fun hm => by have := h11.out.ltOwn hm; simp at hb; omega, hK.out b (by have := gX11.out.size; simp at hb; omega)⟩
              refine ⟨by rw [hvq.out, hmo.out]; rfl, _, h12.newLed (l12.out.mono (fun b _ hb => by rcases hb with hb | hb; exact hK3 b hb; exact hb)) n12 (by rw [hl12]; have := hln.out; omega), ?_, (gX11.out.gr (g11d.out.trans g12)).set (.inl (List.mem_cons_self ..)) _, ho3.out⟩
              rw [hvq.out, hmo.out]
              show (⟨ansOf M3.nd M3.hs, M3.x.e, M3.reads, M3.bal, M3.st, M3.nw, L12.map (·.e), M3.begun⟩ : RndV) = M2.v.tell
              rw [m12.out, hvt.out]
              have hxx : M3.x.e = M2.v.x := by have := hv3.out; exact congrArg RndV.x this
              have h3 := hv3.out
              have : (⟨ansOf M3.nd M3.hs, M3.x.e, M3.reads, M3.bal, M3.st, M3.nw, M3.led.map (·.e) ++ [M3.x.e], M3.begun⟩ : RndV) = {M3.v with led := M3.v.led ++ [M3.x.e]} := rfl
              rw [this, h3, hxx]
              rfl
            · have hadd := radd_full M3.la M3.lc M3.led M3.x w11.drew hl3.out.any hmx.out hpl (by omega)
              have hvt : M2.v.tell = {M2.v.clr with st := 4} := by rw [htl.out, if_pos hno, if_neg h64]
              replace hadd := Lib.hid hadd
              replace hpl := Lib.hid hpl
              replace hvt := Lib.hid hvt
              replace hno := Lib.hid hno
              replace hln := Lib.hid hln
              go_upto_region 10 with fail
              go_region_held3 (fun w' => w'.cell? ⟨mb, 1, none⟩ = some (.int .i64 M3.x.e.cl) ∧ w'.cell? ⟨mb, 2, none⟩ = some (.int .i64 M3.x.e.nu) ∧ w'.cell? ⟨mb, 3, none⟩ = some (.int .i64 M3.x.e.kd) ∧ w'.cell? ⟨mb, 4, none⟩ = some (.int .i64 M3.x.e.id) ∧ w'.cell? ⟨mb, 5, none⟩ = some (.int .i64 M3.x.e.srv.k) ∧ w'.cell? ⟨mb, 6, none⟩ = some (.int .i64 M3.x.e.srv.q) ∧ w'.cell? ⟨mb, 7, none⟩ = some (.int .i64 M3.x.e.srv.t) ∧ w'.cell? ⟨mb, 8, none⟩ = some (.int .i64 M3.x.e.po) ∧ w'.cell? ⟨mb, 9, none⟩ = some (.slice M3.x.a M3.x.e.tasks.length M3.x.c) ∧ w'.cell? ⟨mb, 10, none⟩ = some (.int .i64 M3.x.e.at_) ∧ w'.cell? ⟨mb, 18, none⟩ = some (.slice M3.la M3.led.length M3.lc)) (simp (maxDischargeDepth := 8) [go_sem, *])
                (first
                  | (go_at_call 96; (with_reducible refine hadd.out.mono ?_); rintro e w12 ⟨rfl, g12⟩; have hb12 := hcel.out w12 (g11d.out.trans g12); have s1 := hb12.cell (i := 1) (v := .int .i64 M3.x.e.cl) rfl; have s2 := hb12.cell (i := 2) (v := .int .i64 M3.x.e.nu) rfl; have s3 := hb12.cell (i := 3) (v := .int .i64 M3.x.e.kd) rfl; have s4 := hb12.cell (i := 4) (v := .int .i64 M3.x.e.id) rfl; have s5 := hb12.cell (i := 5) (v := .int .i64 M3.x.e.srv.k) rfl; have s6 := hb12.cell (i := 6) (v := .int .i64 M3.x.e.srv.q) rfl; have s7 := hb12.cell (i := 7) (v := .int .i64 M3.x.e.srv.t) rfl; have s8 := hb12.cell (i := 8) (v := .int .i64 M3.x.e.po) rfl; have s9 := hb12.cell (i := 9) (v := .slice M3.x.a M3.x.e.tasks.length M3.x.c) rfl; have s10 := hb12.cell (i := 10) (v := .int .i64 M3.x.e.at_) rfl; have s18 := hb12.cell (i := 18) (v := .slice M3.la M3.led.length M3.lc) rfl; have s14 := hb12.cell (i := 14) (v := .int .i64 M3.st) rfl; have f14_ := hb12.free 14; have z12 := hb12.lt; replace hb12 := Lib.hid hb12)
                  | fail)
              go_wp2_with fail
              go_ret
              have h12 := (h11.out.gr (g11d.out.trans g12)).stage 4
              refine ⟨by rw [hvq.out, hmo.out]; rfl, _, h12, ?_, (gX11.out.gr (g11d.out.trans g12)).set (.inl (List.mem_cons_self ..)) _, ho3.out⟩
              rw [hvq.out, hmo.out]
              show {M3.v with st := 4} = M2.v.tell
              rw [hvt.out, hv3.out]
          · have hne : ¬ plE M2.v.led M2.v.x.cl M2.v.x.nu = -1 := by rw [hk]; omega
            rw [hk] at hpl
            have hadd := radd_found M3.la M3.lc M3.led M3.x w11.drew hl3.out.any hmx.out k hpl
            have hvt : M2.v.tell = {M2.v.clr with st := 2} := by rw [htl.out, if_neg hne]
            replace hadd := Lib.hid hadd
            replace hpl := Lib.hid hpl
            replace hvt := Lib.hid hvt
            replace hk := Lib.hid hk
            replace hkl := Lib.hid hkl
            replace hne := Lib.hid hne
            replace hln := Lib.hid hln
            go_upto_region 10 with fail
            go_region_held3 (fun w' => w'.cell? ⟨mb, 1, none⟩ = some (.int .i64 M3.x.e.cl) ∧ w'.cell? ⟨mb, 2, none⟩ = some (.int .i64 M3.x.e.nu) ∧ w'.cell? ⟨mb, 3, none⟩ = some (.int .i64 M3.x.e.kd) ∧ w'.cell? ⟨mb, 4, none⟩ = some (.int .i64 M3.x.e.id) ∧ w'.cell? ⟨mb, 5, none⟩ = some (.int .i64 M3.x.e.srv.k) ∧ w'.cell? ⟨mb, 6, none⟩ = some (.int .i64 M3.x.e.srv.q) ∧ w'.cell? ⟨mb, 7, none⟩ = some (.int .i64 M3.x.e.srv.t) ∧ w'.cell? ⟨mb, 8, none⟩ = some (.int .i64 M3.x.e.po) ∧ w'.cell? ⟨mb, 9, none⟩ = some (.slice M3.x.a M3.x.e.tasks.length M3.x.c) ∧ w'.cell? ⟨mb, 10, none⟩ = some (.int .i64 M3.x.e.at_) ∧ w'.cell? ⟨mb, 18, none⟩ = some (.slice M3.la M3.led.length M3.lc)) (simp (maxDischargeDepth := 8) [go_sem, *])
              (first
                | (go_at_call 96; (with_reducible refine hadd.out.mono ?_); rintro e w12 ⟨rfl, g12⟩; have hb12 := hcel.out w12 (g11d.out.trans g12); have s1 := hb12.cell (i := 1) (v := .int .i64 M3.x.e.cl) rfl; have s2 := hb12.cell (i := 2) (v := .int .i64 M3.x.e.nu) rfl; have s3 := hb12.cell (i := 3) (v := .int .i64 M3.x.e.kd) rfl; have s4 := hb12.cell (i := 4) (v := .int .i64 M3.x.e.id) rfl; have s5 := hb12.cell (i := 5) (v := .int .i64 M3.x.e.srv.k) rfl; have s6 := hb12.cell (i := 6) (v := .int .i64 M3.x.e.srv.q) rfl; have s7 := hb12.cell (i := 7) (v := .int .i64 M3.x.e.srv.t) rfl; have s8 := hb12.cell (i := 8) (v := .int .i64 M3.x.e.po) rfl; have s9 := hb12.cell (i := 9) (v := .slice M3.x.a M3.x.e.tasks.length M3.x.c) rfl; have s10 := hb12.cell (i := 10) (v := .int .i64 M3.x.e.at_) rfl; have s18 := hb12.cell (i := 18) (v := .slice M3.la M3.led.length M3.lc) rfl; have f18_ := hb12.free 18; have z12 := hb12.lt; replace hb12 := Lib.hid hb12)
                | fail)
            go_wp2_with fail
            go_ret
            have h12 := h11.out.gr (g11d.out.trans g12)
            refine ⟨by rw [hvq.out, hmo.out]; rfl, _, h12.newLed h12.l h12.lc h12.cap, ?_, (gX11.out.gr (g11d.out.trans g12)).set (.inl (List.mem_cons_self ..)) _, ho3.out⟩
            rw [hvq.out, hmo.out]
            show M3.v = M2.v.tell
            rw [hvt.out, hv3.out]
end Go.Proofs.YtblfljpmkgmjaaaDoor
