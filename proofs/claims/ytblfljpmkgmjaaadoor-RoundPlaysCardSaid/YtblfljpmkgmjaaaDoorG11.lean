/- A round: Promise. Printed by gen_g11.py. -/
import Derived.Test.YtblfljpmkgmjaaaDoorG10
namespace Go.Proofs.YtblfljpmkgmjaaaDoor
open Go.RowKit
variable {K0 : Nat → Prop}

def RndV.hearNew (r : RndV) (fr : Int) (acc : Bal) (l : List Ent) : RndV := if aboveB acc r.nw then {r.note fr with nw := acc, led := l} else r.note fr
def RndV.promise (r : RndV) (fr : Int) (b acc : Bal) (l : List Ent) : Bool × RndV :=
  if r.hears 1 fr b then (true, if (r.hearNew fr acc l).most then (r.hearNew fr acc l).tell else r.hearNew fr acc l) else (false, r)

set_option maxHeartbeats 800000 in
theorem RndAt.newest {w : World} {rb ab : Nat} {R : Rnd} (h : RndAt K0 w rb ab R) (b : Bal) : RndAt K0 ((w.setCell ⟨rb, 15, none⟩ (.int .i64 b.r)).setCell ⟨rb, 16, none⟩ (.int .i64 b.n)) rb ab {R with nw := b} :=
  (h.set (R' := {R with nw := ⟨b.r, R.nw.n⟩}) 15 (.int .i64 b.r) rfl rfl rfl rfl rfl rfl).set (R' := {R with nw := b}) 16 (.int .i64 b.n) rfl rfl rfl rfl rfl rfl

set_option maxRecDepth 100000 in
set_option maxHeartbeats 6400000 in
theorem promise_any {G : List Nat} {E : Nat → Addr} (W0 : World) (hE : EAt G E W0) (i6 : 6 ∈ G) (i8 : 8 ∈ G) (R : Rnd) (fr : Int) (b acc : Bal) (a : Option Addr) (c : Nat) (L : List EntM) (w : World) (rb ab : Nat) (hK : ∀ b, w.heap.size ≤ b → K0 b) (h : RndAt K0 w rb ab R) (g0 : Gr W0 w) (hrb : W0.heap.size ≤ rb) (hab : W0.heap.size ≤ ab) (hL : LedM (fun b => b ≠ rb ∧ b ≠ ab) w a L) (hcap : L.length * 96 ≤ 140737488351232) :
    Calls Tryd.prog 18 #[.pointer (some ⟨rb, 0, none⟩), .int .i64 fr, .agg #[.int .i64 b.r, .int .i64 b.n], .agg #[.int .i64 acc.r, .int .i64 acc.n], .slice a L.length c] w (RndP K0 rb ab (.bool (R.v.promise fr b acc (L.map (·.e))).1) (R.v.promise fr b acc (L.map (·.e))).2 w) := by
  have gw : Gr w ((w.alloc (.cells #[.int .i64 b.r, .int .i64 b.n] 39)).alloc (.cells #[.int .i64 acc.r, .int .i64 acc.n] 39)) := ((Gr.refl w).alloc _).alloc _
  have h1 := h.gr gw
  have z0 := h.o.lt
  have z1 := h.b.lt
  have hT : ∀ y, y ∈ [rb, ab] → ¬ (y ≠ rb ∧ y ≠ ab) := by intro y hy; simp at hy; omega
  have hB : ∀ x, x ∈ [rb, ab] → W0.heap.size ≤ x := by intro y hy; simp at hy; omega
  have hgx : GrX [rb, ab] w ((w.alloc (.cells #[.int .i64 b.r, .int .i64 b.n] 39)).alloc (.cells #[.int .i64 acc.r, .int .i64 acc.n] 39)) := gw.x _
  have hLw := fun w' (g : GrX [rb, ab] w w') => hL.grx g hT
  have hmost := @most_any K0
  have htell := fun (R : Rnd) w' (h' : RndAt K0 w' rb ab R) (g : GrX [rb, ab] w w') => tell_any W0 hE i6 i8 R w' rb ab (fun b hb => hK b (Nat.le_trans g.size hb)) h' (GrX.all g0 g hB) hrb hab
  have hcp := fun w' (g : GrX [rb, ab] w w') => copied19_any a c L w' (hLw w' g).any hcap
  replace hcp := Lib.hid hcp
  replace hmost := Lib.hid hmost
  replace htell := Lib.hid htell
  clear hL hLw gw hE
  cases hh : R.hears 1 fr b with
  | false =>
    have hv : R.v.promise fr b acc (L.map (·.e)) = (false, R.v) := by unfold RndV.promise; rw [show R.v.hears 1 fr b = false from hh]; rfl
    rw [hv]
    have hno := hear_no R 1 fr b _ rb ab h1 hh
    replace hno := Lib.hid hno
    replace h1 := Lib.hid h1
    replace hgx := Lib.hid hgx
    replace hh := Lib.hid hh
    clear h hB hT g0
    go_enter Tryd.func18, Tryd.ntmps18
    go_wp2_with fail
    refine hno.out.mono ?_
    rintro e w1 ⟨rfl, g1⟩
    go_wp2_with fail
    go_ret
    exact ⟨rfl, R, h1.out.gr g1, rfl, hgx.out.gr g1⟩
  | true =>
    have hyes := hear_yes R 1 fr b _ rb ab h1 hh
    have hab' := above_any acc R.nw
    have hvp : R.v.promise fr b acc (L.map (·.e)) = (true, if (R.v.hearNew fr acc (L.map (·.e))).most then (R.v.hearNew fr acc (L.map (·.e))).tell else R.v.hearNew fr acc (L.map (·.e))) := by unfold RndV.promise; rw [show R.v.hears 1 fr b = true from hh]; rfl
    rw [hvp]
    clear hvp
    replace hyes := Lib.hid hyes
    replace hh := Lib.hid hh
    obtain ⟨V, hV⟩ : ∃ V, V = R.v.hearNew fr acc (L.map (·.e)) := ⟨_, rfl⟩
    rw [← hV]
    obtain ⟨F, hF⟩ : ∃ F, F = if V.most then V.tell else V := ⟨_, rfl⟩
    rw [← hF]
    replace hF := Lib.hid hF
    clear h hB hT g0
    cases ha : aboveB acc R.nw with
    | false =>
      have hV1 : V = R.v.note fr := by rw [hV]; unfold RndV.hearNew; rw [show aboveB acc R.v.nw = false from ha]; rfl
      rw [ha] at hab'
      replace hab' := Lib.hid hab'
      replace ha := Lib.hid ha
      clear hV
      replace hV1 := Lib.hid hV1
      go_enter Tryd.func18, Tryd.ntmps18
      go_wp2_with fail
      refine hyes.out.mono ?_
      rintro e w1 ⟨rfl, h2, g1⟩
      have q15 := GrW.cell (show w1.cell? ⟨rb, 15, none⟩ = some (.int .i64 R.nw.r) from h2.o.cell rfl)
      have q16 := GrW.cell (show w1.cell? ⟨rb, 16, none⟩ = some (.int .i64 R.nw.n) from h2.o.cell rfl)
      have hnb : w.heap.size + 1 ∉ [rb, ab] := by simp; omega
      have b0 : w1.cell? ⟨w.heap.size + 1, 0, none⟩ = some (.int .i64 acc.r) := by rw [g1.cell (by simp) hnb]; simp [go_sem]
      have b1 : w1.cell? ⟨w.heap.size + 1, 1, none⟩ = some (.int .i64 acc.n) := by rw [g1.cell (by simp) hnb]; simp [go_sem]
      have qb0 := GrW.cell b0
      have qb1 := GrW.cell b1
      have sz1 := g1.size
      simp only [World.size_alloc] at sz1
      have z2 := h2.o.lt
      have f1 := fun i => h2.o.free i
      have c15 : w1.cell? ⟨rb, 15, none⟩ = some (.int .i64 R.nw.r) := h2.o.cell rfl
      have c16 : w1.cell? ⟨rb, 16, none⟩ = some (.int .i64 R.nw.n) := h2.o.cell rfl
      have c17 : w1.cell? ⟨rb, 17, none⟩ = some (.slice R.la R.led.length R.lc) := h2.o.cell rfl
      clear hnb
      replace h2 := Lib.hid h2
      replace g1 := Lib.hid g1
      replace hgx := Lib.hid hgx
      go_wp2_with fail
      refine wp_region_grows (by kernel_rfl) (by kernel_rfl) ?_
      repeat (any_goals (first | go_big_quiet_step (first | (exact Calls.grows (hab'.out _))) | quiet_step (first | (exact Calls.grows (hab'.out _)))))
      refine wpQuiet_nil ?_
      intro wp hwq
      have gp := GrW.of hwq
      clear hwq
      obtain ⟨cp, fp, sp⟩ := gp.cells
      try simp only [size_drewN] at cp fp sp
      try simp only [World.size_alloc] at cp fp sp
      try simp only [World.size_drew] at cp fp sp
      try simp only [World.size_setCell] at cp fp sp
      clear q15 q16 qb0 qb1
      have h3 := h2.out.gr gp
      have g3 := (hgx.out.trans g1.out).gr gp
      have hmm := hmost.out _ _ rb ab h3
      rw [show ({R with an := R.an.set fr.toNat true} : Rnd).v = V from hV1.out.symm] at hmm
      cases hm : V.most with
      | false =>
        rw [hm] at hmm
        have hF1 := hF.out
        rw [hm, if_neg (by decide)] at hF1
        replace hF1 := Lib.hid hF1
        replace hm := Lib.hid hm
        replace h3 := Lib.hid h3
        replace g3 := Lib.hid g3
        replace hmm := Lib.hid hmm
        go_wp2_with fail
        refine hmm.out.mono ?_
        rintro e w2 ⟨rfl, rfl⟩
        go_wp2_with fail
        go_ret
        exact ⟨rfl, _, h3.out, hV1.out.symm.trans hF1.out.symm, g3.out⟩
      | true =>
        rw [hm] at hmm
        have hF1 := hF.out
        rw [hm, if_pos rfl] at hF1
        replace hF1 := Lib.hid hF1
        have htt := htell.out _ _ h3 g3
        rw [show ({R with an := R.an.set fr.toNat true} : Rnd).v = V from hV1.out.symm] at htt
        replace hm := Lib.hid hm
        replace h3 := Lib.hid h3
        replace g3 := Lib.hid g3
        replace hmm := Lib.hid hmm
        replace htt := Lib.hid htt
        go_wp2_with fail
        refine hmm.out.mono ?_
        rintro e w2 ⟨rfl, rfl⟩
        go_wp2_with fail
        refine htt.out.mono ?_
        rintro e w2 ⟨rfl, R3, h4, h5, g4⟩
        go_wp2_with fail
        go_ret
        exact ⟨rfl, R3, h4, h5.trans hF1.out.symm, g3.out.trans g4⟩
    | true =>
      have hV1 : V = {R.v.note fr with nw := acc, led := L.map (·.e)} := by rw [hV]; unfold RndV.hearNew; rw [show aboveB acc R.v.nw = true from ha]; rfl
      rw [ha] at hab'
      replace hab' := Lib.hid hab'
      replace ha := Lib.hid ha
      clear hV
      replace hV1 := Lib.hid hV1
      go_enter Tryd.func18, Tryd.ntmps18
      go_wp2_with fail
      refine hyes.out.mono ?_
      rintro e w1 ⟨rfl, h2, g1⟩
      have q15 := GrW.cell (show w1.cell? ⟨rb, 15, none⟩ = some (.int .i64 R.nw.r) from h2.o.cell rfl)
      have q16 := GrW.cell (show w1.cell? ⟨rb, 16, none⟩ = some (.int .i64 R.nw.n) from h2.o.cell rfl)
      have hnb : w.heap.size + 1 ∉ [rb, ab] := by simp; omega
      have b0 : w1.cell? ⟨w.heap.size + 1, 0, none⟩ = some (.int .i64 acc.r) := by rw [g1.cell (by simp) hnb]; simp [go_sem]
      have b1 : w1.cell? ⟨w.heap.size + 1, 1, none⟩ = some (.int .i64 acc.n) := by rw [g1.cell (by simp) hnb]; simp [go_sem]
      have qb0 := GrW.cell b0
      have qb1 := GrW.cell b1
      have sz1 := g1.size
      simp only [World.size_alloc] at sz1
      have z2 := h2.o.lt
      have f1 := fun i => h2.o.free i
      have c15 : w1.cell? ⟨rb, 15, none⟩ = some (.int .i64 R.nw.r) := h2.o.cell rfl
      have c16 : w1.cell? ⟨rb, 16, none⟩ = some (.int .i64 R.nw.n) := h2.o.cell rfl
      have c17 : w1.cell? ⟨rb, 17, none⟩ = some (.slice R.la R.led.length R.lc) := h2.o.cell rfl
      clear hnb
      replace h2 := Lib.hid h2
      replace g1 := Lib.hid g1
      replace hgx := Lib.hid hgx
      go_wp2_with fail
      refine wp_region_grows (by kernel_rfl) (by kernel_rfl) ?_
      repeat (any_goals (first | go_big_quiet_step (first | (exact Calls.grows (hab'.out _))) | quiet_step (first | (exact Calls.grows (hab'.out _)))))
      refine wpQuiet_nil ?_
      intro wp hwq
      have gp := GrW.of hwq
      clear hwq
      obtain ⟨cp, fp, sp⟩ := gp.cells
      try simp only [size_drewN] at cp fp sp
      try simp only [World.size_alloc] at cp fp sp
      try simp only [World.size_drew] at cp fp sp
      try simp only [World.size_setCell] at cp fp sp
      clear q15 q16 qb0 qb1
      have sp0 := gp.size
      have e0 := fun o => cp (w.heap.size + 1) o (by omega)
      have e1 := fun o => cp rb o (by omega)
      have e2 := fun o => fp rb o (by omega)
      have zp := Nat.lt_of_lt_of_le z2 sp0
      clear cp fp
      have hcc := hcp.out wp.drew ((hgx.out.trans g1.out).gr (gp.drew))
      replace hcc := Lib.hid hcc
      go_wp2_with fail
      go_region_held3 (fun w' => w'.cell? ⟨w.heap.size + 1, 0, none⟩ = some (.int .i64 acc.r) ∧ w'.cell? ⟨w.heap.size + 1, 1, none⟩ = some (.int .i64 acc.n)) (simp (maxDischargeDepth := 8) [go_sem, *])
        (first
          | (go_at_call 53; (with_reducible refine hcc.out.mono ?_); rintro e w2 ⟨a1, c1, L1, rfl, m1, l1, n1, y1, y2, g2, o1, d1⟩; obtain ⟨k1, j1, s1⟩ := g2.cells; simp only [World.size_drew] at k1 j1 s1; have kk1 := fun o => k1 rb o (by omega); have kk2 := fun o => k1 (w.heap.size + 1) o (by omega); have jj1 := fun o => j1 rb o (by omega); clear k1 j1 o1 d1; replace m1 := Lib.hid m1)
          | fail)
      have g5 : Gr w1 w2 := (gp.drew).trans g2
      have hL1 : L1.length = L.length := by simpa using congrArg List.length m1.out
      have hl2 := (l1.mono (K' := fun b => b ≠ rb ∧ b ≠ ab ∧ K0 b) (fun b _ hb => by simp at hb; exact ⟨by omega, by omega, hK b (by have := hgx.out.size; simp at this; omega)⟩))
      have h3 := ((h2.out.gr g5).newest acc).newLed (hl2.grx (T := [rb, ab]) (((GrX.refl _ w2).set (p := ⟨rb, 15, none⟩) (.inl (by simp)) (.int .i64 acc.r)).set (p := ⟨rb, 16, none⟩) (.inl (by simp)) (.int .i64 acc.n)) (by rintro y hy ⟨y1, y2, _⟩; simp at hy; omega)) n1 (by omega)
      have g3 := ((((hgx.out.trans g1.out).gr g5).set (p := ⟨rb, 15, none⟩) (.inl (by simp)) (.int .i64 acc.r)).set (p := ⟨rb, 16, none⟩) (.inl (by simp)) (.int .i64 acc.n)).set (p := ⟨rb, 17, none⟩) (.inl (by simp)) (.slice a1 L.length c1)
      have hVe : ({R with an := R.an.set fr.toNat true, nw := acc, la := a1, lc := c1, led := L1} : Rnd).v = V := by rw [hV1.out]; show RndV.mk _ _ _ _ _ _ (L1.map (·.e)) _ = _; rw [m1.out]; rfl
      rw [hL1] at h3
      have hmm := hmost.out _ _ rb ab h3
      clear hl2 l1 g5 g2 kk1 kk2 jj1 b0 b1 e0 e1 e2 c15 c16 c17 f1 hL1 hcc
      rw [show ({R with an := R.an.set fr.toNat true, nw := acc, la := a1, lc := c1, led := L1} : Rnd).v = V from hVe] at hmm
      cases hm : V.most with
      | false =>
        rw [hm] at hmm
        have hF1 := hF.out
        rw [hm, if_neg (by decide)] at hF1
        replace hF1 := Lib.hid hF1
        replace hm := Lib.hid hm
        replace h3 := Lib.hid h3
        replace g3 := Lib.hid g3
        replace hmm := Lib.hid hmm
        go_wp2_with fail
        refine hmm.out.mono ?_
        rintro e w2 ⟨rfl, rfl⟩
        go_wp2_with fail
        go_ret
        exact ⟨rfl, _, h3.out, hVe.trans hF1.out.symm, g3.out⟩
      | true =>
        rw [hm] at hmm
        have hF1 := hF.out
        rw [hm, if_pos rfl] at hF1
        replace hF1 := Lib.hid hF1
        have htt := htell.out _ _ h3 g3
        rw [show ({R with an := R.an.set fr.toNat true, nw := acc, la := a1, lc := c1, led := L1} : Rnd).v = V from hVe] at htt
        replace hm := Lib.hid hm
        replace h3 := Lib.hid h3
        replace g3 := Lib.hid g3
        replace hmm := Lib.hid hmm
        replace htt := Lib.hid htt
        go_wp2_with fail
        refine hmm.out.mono ?_
        rintro e w2 ⟨rfl, rfl⟩
        go_wp2_with fail
        refine htt.out.mono ?_
        rintro e w2 ⟨rfl, R3, h4, h5, g4⟩
        go_wp2_with fail
        go_ret
        exact ⟨rfl, R3, h4, h5.trans hF1.out.symm, g3.out.trans g4⟩
end Go.Proofs.YtblfljpmkgmjaaaDoor
