/- RoundPlays: the walk. Printed by gen_q31.py. -/
import Derived.Test.YtblfljpmkgmjaaaDoorQ30
namespace Go.Proofs.YtblfljpmkgmjaaaDoor
open Go.RowKit

set_option maxRecDepth 100000 in
set_option maxHeartbeats 6400000 in
theorem plays_no {G : List Nat} {E : Nat → Addr} (W : World) (hE : EAt G E W) (hG : ∀ g ∈ sentG, g ∈ G) (n : Int) (x : EntM) (hx : x.ok Any W) (aS : Option Addr) (cS nS : Nat) (hR : ∀ U, Gr W U → Refused E U n x) :
    Calls Tryd.prog 6 #[.int .i64 n, .agg #[.int .i64 x.e.cl, .int .i64 x.e.nu, .int .i64 x.e.kd, .int .i64 x.e.id, .int .i64 x.e.srv.k, .int .i64 x.e.srv.q, .int .i64 x.e.srv.t, .int .i64 x.e.po, .slice x.a x.e.tasks.length x.c, .int .i64 x.e.at_], .slice aS nS cS] W fun e w' => e = .returned (.bool true) ∧ Gr W w' := by
  obtain ⟨U, hU⟩ : ∃ U, U = W.alloc (.cells #[.int .i64 x.e.cl, .int .i64 x.e.nu, .int .i64 x.e.kd, .int .i64 x.e.id, .int .i64 x.e.srv.k, .int .i64 x.e.srv.q, .int .i64 x.e.srv.t, .int .i64 x.e.po, .slice x.a x.e.tasks.length x.c, .int .i64 x.e.at_] 36) := ⟨_, rfl⟩
  have gU : Gr W U := by rw [hU]; exact (Gr.refl W).alloc _
  have hX : Blk U W.heap.size #[.int .i64 x.e.cl, .int .i64 x.e.nu, .int .i64 x.e.kd, .int .i64 x.e.id, .int .i64 x.e.srv.k, .int .i64 x.e.srv.q, .int .i64 x.e.srv.t, .int .i64 x.e.po, .slice x.a x.e.tasks.length x.c, .int .i64 x.e.at_] 36 := by rw [hU]; exact Blk.new W _ _
  have hUz : U.heap.size = W.heap.size + 1 := by rw [hU]; simp
  have hxU := hx.gr gU
  have hal := alive19_any U (hE.gr gU) (hG _ (by decide)) (hG _ (by decide))
  replace hU := Lib.hid hU
  replace hX := Lib.hid hX
  replace hxU := Lib.hid hxU
  replace hal := Lib.hid hal
  replace hx := Lib.hid hx
  replace hUz := Lib.hid hUz
  obtain ⟨k, g0, hk, hr1, hr2⟩ := hR U gU
  have hnum := fun w (g : Gr U w) => num_err w ((hE.gr gU).gr g) hG k g0 hk
  replace hr1 := Lib.hid hr1
  replace hr2 := Lib.hid hr2
  replace hnum := Lib.hid hnum
  replace hk := Lib.hid hk
  clear hR
  go_enter Tryd.func6, Tryd.ntmps6
  go_wp2_with fail
  rw [← hU.out]
  refine hal.out.mono ?_
  rintro e w1 ⟨rfl, g1⟩
  go_wp2_with fail
  go_loopw [21] (fun iv wr => iv = .int .i64 0 ∧ Gr U wr) (fun _ _ => 0)
  case atStart => exact ⟨rfl, (g1.alloc _).alloc _⟩
  case round =>
    obtain ⟨rfl, gw⟩ := hrel
    have hXr := hX.out.gr gw
    have x0 := hXr.cell (i := 0) (v := .int .i64 x.e.cl) rfl
    have x1 := hXr.cell (i := 1) (v := .int .i64 x.e.nu) rfl
    have x2 := hXr.cell (i := 2) (v := .int .i64 x.e.kd) rfl
    have x3 := hXr.cell (i := 3) (v := .int .i64 x.e.id) rfl
    have x4 := hXr.cell (i := 4) (v := .int .i64 x.e.srv.k) rfl
    have x5 := hXr.cell (i := 5) (v := .int .i64 x.e.srv.q) rfl
    have x6 := hXr.cell (i := 6) (v := .int .i64 x.e.srv.t) rfl
    have x7 := hXr.cell (i := 7) (v := .int .i64 x.e.po) rfl
    have x8 := hXr.cell (i := 8) (v := .slice x.a x.e.tasks.length x.c) rfl
    have x9 := hXr.cell (i := 9) (v := .int .i64 x.e.at_) rfl
    obtain ⟨wa, hwa⟩ : ∃ wa, wa = wr.alloc (.cells #[.int .i64 x.e.cl, .int .i64 x.e.nu, .int .i64 x.e.kd, .int .i64 x.e.id, .int .i64 x.e.srv.k, .int .i64 x.e.srv.q, .int .i64 x.e.srv.t, .int .i64 x.e.po, .slice x.a x.e.tasks.length x.c, .int .i64 x.e.at_] 36) := ⟨_, rfl⟩
    have ga : Gr wr wa := by rw [hwa]; exact (Gr.refl wr).alloc _
    have hza : wa.heap.size = wr.heap.size + 1 := by rw [hwa]; simp
    have hled : LedM Any wa (some ⟨wr.heap.size, 0, none⟩) [x] := by
      refine ⟨⟨?_, fun _ _ _ => trivial⟩, fun y hy => by rw [List.mem_singleton.1 hy]; exact (hxU.out.gr gw).gr ga⟩
      rw [hwa]
      exact recs_alloc EntM.cells_len wr [x] _ _ (by simp)
    have hcp := rcopyW_any (some ⟨wr.heap.size, 0, none⟩) 1 [x] wa hled (by simp)
    simp only [List.length_cons, List.length_nil, Nat.zero_add, List.map_cons, List.map_nil] at hcp
    have hXb := hX.out.lt
    have hgwz := gw.size
    replace hXr := Lib.hid hXr
    replace hwa := Lib.hid hwa
    replace hled := Lib.hid hled
    replace hcp := Lib.hid hcp
    replace hza := Lib.hid hza
    go_wp2_with fail
    rw [← hwa.out]
    refine hcp.out.mono ?_
    rintro e w2 ⟨a2, c2, L2, rfl, m2, wl2, n2, q2, q3, g2⟩
    obtain ⟨ay, cy, rfl⟩ := one_ent m2
    obtain ⟨g, off, rfl, hscr⟩ := wl2.scr (by simp)
    have hy2 := wl2.1.2 ⟨x.e, ay, cy⟩ (by simp)
    obtain ⟨g', off', eg, hgl, hgB, y0, y1, y2, y3, y4, y5, y6, y7, y8, y9⟩ := wl2.1.get (i := 0) (x := ⟨x.e, ay, cy⟩) rfl
    cases eg
    simp only [Nat.zero_mul, Nat.add_zero] at y0 y1 y2 y3 y4 y5 y6 y7 y8 y9
    have gU2 : Gr U w2 := (gw.trans ga).trans g2
    have gwr2 : Gr wr w2 := ga.trans g2
    have i01 : (0 : Int) < 1 := by decide
    have i02 : 0 < 1 := by decide
    replace hscr := Lib.hid hscr
    replace hy2 := Lib.hid hy2
    replace m2 := Lib.hid m2
    replace wl2 := Lib.hid wl2
    replace n2 := Lib.hid n2
    replace q2 := Lib.hid q2
    replace q3 := Lib.hid q3
    clear hgl hgB
    simp only [List.length_cons, List.length_nil, Nat.zero_add]
    have hyI := Blk.new w2 #[.int .i64 x.e.cl, .int .i64 x.e.nu, .int .i64 x.e.kd, .int .i64 x.e.id, .int .i64 x.e.srv.k, .int .i64 x.e.srv.q, .int .i64 x.e.srv.t, .int .i64 x.e.po, .slice ay x.e.tasks.length cy, .int .i64 x.e.at_] 36
    obtain ⟨w3, hw3⟩ : ∃ w3, w3 = w2.alloc (.cells #[.int .i64 x.e.cl, .int .i64 x.e.nu, .int .i64 x.e.kd, .int .i64 x.e.id, .int .i64 x.e.srv.k, .int .i64 x.e.srv.q, .int .i64 x.e.srv.t, .int .i64 x.e.po, .slice ay x.e.tasks.length cy, .int .i64 x.e.at_] 36) := ⟨_, rfl⟩
    rw [← hw3] at hyI
    have g3 : Gr w2 w3 := by rw [hw3]; exact (Gr.refl w2).alloc _
    have hz3 : w3.heap.size = w2.heap.size + 1 := by rw [hw3]; simp
    replace hw3 := Lib.hid hw3
    replace hyI := Lib.hid hyI
    replace hz3 := Lib.hid hz3
    clear x0 x1 x2 x3 x4 x5 x6 x7 x8 x9
    go_wp2_with fail
    rw [← hw3.out]
    clear y0 y1 y2 y3 y4 y5 y6 y7 y8 y9
    have gU3 : Gr U w3 := gU2.trans g3
    have hy3 := hy2.out.gr g3
    refine (hr1.out w3 ay cy (hy3.mono (fun _ _ _ => trivial)) gU3).mono ?_
    rintro e w4 ⟨rfl, g4⟩
    have gU4 : Gr U w4 := gU3.trans g4
    have hXk := hX.out.gr gU4
    have x0 := hXk.cell (i := 0) (v := .int .i64 x.e.cl) rfl
    have x1 := hXk.cell (i := 1) (v := .int .i64 x.e.nu) rfl
    have x2 := hXk.cell (i := 2) (v := .int .i64 x.e.kd) rfl
    have x3 := hXk.cell (i := 3) (v := .int .i64 x.e.id) rfl
    have x4 := hXk.cell (i := 4) (v := .int .i64 x.e.srv.k) rfl
    have x5 := hXk.cell (i := 5) (v := .int .i64 x.e.srv.q) rfl
    have x6 := hXk.cell (i := 6) (v := .int .i64 x.e.srv.t) rfl
    have x7 := hXk.cell (i := 7) (v := .int .i64 x.e.po) rfl
    have x8 := hXk.cell (i := 8) (v := .slice x.a x.e.tasks.length x.c) rfl
    have x9 := hXk.cell (i := 9) (v := .int .i64 x.e.at_) rfl
    replace hXk := Lib.hid hXk
    go_wp2_with fail
    refine (hr2.out w4 gU4).mono ?_
    rintro e w5 ⟨rfl, g5⟩
    have gU5 : Gr U w5 := gU4.trans g5
    clear x0 x1 x2 x3 x4 x5 x6 x7 x8 x9
    go_wp2_with fail
    refine (hnum.out w5 gU5).mono ?_
    rintro e w6 ⟨rfl, g6⟩
    go_wp2_with fail
    go_ret
    exact ⟨rfl, gU.trans (gU5.trans g6)⟩
theorem inv1_of {U w2 : World} {s m n rb ab mb B0 : Nat} {x : EntM} {R : Rnd} (h1 : Blk w2 s #[.pointer none, .pointer none] 58) (h2 : Blk w2 m #[.pointer none, .pointer none] 60) (hsm : s ≠ m) (hp : Pair (fun b => b < U.heap.size ∨ B0 ≤ b) w2 rb ab mb R (RnM.new n x false)) (hl : ∀ y ∈ pairT rb ab mb (RnM.new n x false), B0 ≤ y) (hu : U.heap.size ≤ s) (hu2 : U.heap.size ≤ m) (hs : s < B0) (hm : m < B0) (g : Gr U w2) (hb : R.begun = 0) :
    Inv1 U s m n x ((w2.setCell ⟨s, 0, none⟩ (.pointer (some ⟨rb, 0, none⟩))).setCell ⟨m, 0, none⟩ (.pointer (some ⟨mb, 0, none⟩))) := by
  have gx : GrX [s, m] w2 ((w2.setCell ⟨s, 0, none⟩ (.pointer (some ⟨rb, 0, none⟩))).setCell ⟨m, 0, none⟩ (.pointer (some ⟨mb, 0, none⟩))) := ((GrX.refl _ _).set (.inl (by simp)) _).set (.inl (by simp)) _
  have hy2 : ∀ y, y ∈ [s, m] → U.heap.size ≤ y ∧ y < B0 := fun y hy => by
    simp at hy
    rcases hy with rfl | rfl <;> constructor <;> assumption
  exact ⟨rb, ab, mb, R, B0, (h1.set 0 _).other hsm _, (h2.other (Ne.symm hsm) _).set 0 _, gx.all g (fun y hy => (hy2 y hy).1), hp.away gx (fun y hy hm => by have := (hy2 y hy).2; have := hl y hm; omega) (fun y hy hk => by have := hy2 y hy; rcases hk with hk | hk <;> omega), hl, by omega, hs, hm, hb⟩
theorem inv2_of {U w2 : World} {s m r0 a0 m0 r1 a1 m1 B0 S B1 : Nat} {R0 R1 : Rnd} {M0 M1 : RnM} (h1 : Blk w2 s #[.pointer (some ⟨r0, 0, none⟩), .pointer none] 58) (h2 : Blk w2 m #[.pointer (some ⟨m0, 0, none⟩), .pointer none] 60) (hsm : s ≠ m) (hp : Pair (fun b => (b < U.heap.size ∨ B0 ≤ b) ∧ b < S) w2 r0 a0 m0 R0 M0) (hq : Pair (fun b => b < U.heap.size ∨ B1 ≤ b) w2 r1 a1 m1 R1 M1) (l0 : ∀ y ∈ pairT r0 a0 m0 M0, B0 ≤ y ∧ y < S) (l1 : ∀ y ∈ pairT r1 a1 m1 M1, B1 ≤ y) (hS : S ≤ B1) (h0 : U.heap.size ≤ B0) (hu : U.heap.size ≤ s) (hu2 : U.heap.size ≤ m) (hs : s < B0) (hm : m < B0) (g : Gr U w2) (b0 : R0.begun = 0) (b1 : R1.begun = 0) :
    Inv2 U s m 0 ((w2.setCell ⟨s, 1, none⟩ (.pointer (some ⟨r1, 0, none⟩))).setCell ⟨m, 1, none⟩ (.pointer (some ⟨m1, 0, none⟩))) := by
  have gx : GrX [s, m] w2 ((w2.setCell ⟨s, 1, none⟩ (.pointer (some ⟨r1, 0, none⟩))).setCell ⟨m, 1, none⟩ (.pointer (some ⟨m1, 0, none⟩))) := ((GrX.refl _ _).set (.inl (by simp)) _).set (.inl (by simp)) _
  have hy2 : ∀ y, y ∈ [s, m] → U.heap.size ≤ y ∧ y < B0 := fun y hy => by
    simp at hy
    rcases hy with rfl | rfl <;> constructor <;> assumption
  have hB : B0 ≤ B1 := by have := l0 r0 (List.mem_cons_self ..); omega
  refine ⟨r0, a0, m0, R0, M0, r1, a1, m1, R1, M1, (h1.set 1 _).other hsm _, (h2.other (Ne.symm hsm) _).set 1 _, ?_, by omega, by omega⟩
  exact two_of (hp.away gx (fun y hy hm => by have := (hy2 y hy).2; have := l0 y hm; omega) (fun y hy hk => by have := hy2 y hy; rcases hk.1 with hk | hk <;> omega)) (hq.away gx (fun y hy hm => by have := (hy2 y hy).2; have := l1 y hm; omega) (fun y hy hk => by have := hy2 y hy; rcases hk with hk | hk <;> omega)) l0 l1 hS h0 (fun y hy => (hy2 y hy).2) (gx.all g (fun y hy => (hy2 y hy).1))
set_option maxRecDepth 100000 in
set_option maxHeartbeats 6400000 in
theorem plays_ok {G : List Nat} {E : Nat → Addr} (W : World) (hE : EAt G E W) (hG : ∀ g ∈ sentG, g ∈ G) (n : Nat) (x : EntM) (hx : x.ok Any W) (hn1 : 1 ≤ n) (hn7 : n ≤ 7) (hf : entF x.e = true) (aS : Option Addr) (cS : Nat) (S : List OpM) (hS : RecsIn Any 8 OpM.cells W aS S) (hS8 : S.length ≤ 2000000000000) (hSx : ∀ y ∈ S, y.ok W) :
    Calls Tryd.prog 6 #[.int .i64 n, .agg #[.int .i64 x.e.cl, .int .i64 x.e.nu, .int .i64 x.e.kd, .int .i64 x.e.id, .int .i64 x.e.srv.k, .int .i64 x.e.srv.q, .int .i64 x.e.srv.t, .int .i64 x.e.po, .slice x.a x.e.tasks.length x.c, .int .i64 x.e.at_], .slice aS S.length cS] W fun e w' => e = .returned (.bool true) ∧ Gr W w' := by
  obtain ⟨U, hU⟩ : ∃ U, U = W.alloc (.cells #[.int .i64 x.e.cl, .int .i64 x.e.nu, .int .i64 x.e.kd, .int .i64 x.e.id, .int .i64 x.e.srv.k, .int .i64 x.e.srv.q, .int .i64 x.e.srv.t, .int .i64 x.e.po, .slice x.a x.e.tasks.length x.c, .int .i64 x.e.at_] 36) := ⟨_, rfl⟩
  have gU : Gr W U := by rw [hU]; exact (Gr.refl W).alloc _
  have hX : Blk U W.heap.size #[.int .i64 x.e.cl, .int .i64 x.e.nu, .int .i64 x.e.kd, .int .i64 x.e.id, .int .i64 x.e.srv.k, .int .i64 x.e.srv.q, .int .i64 x.e.srv.t, .int .i64 x.e.po, .slice x.a x.e.tasks.length x.c, .int .i64 x.e.at_] 36 := by rw [hU]; exact Blk.new W _ _
  have hUz : U.heap.size = W.heap.size + 1 := by rw [hU]; simp
  have hxU := hx.gr gU
  have hal := alive19_any U (hE.gr gU) (hG _ (by decide)) (hG _ (by decide))
  replace hU := Lib.hid hU
  replace hX := Lib.hid hX
  replace hxU := Lib.hid hxU
  replace hal := Lib.hid hal
  replace hx := Lib.hid hx
  replace hUz := Lib.hid hUz
  replace hS := Lib.hid hS
  replace hSx := Lib.hid hSx
  go_enter Tryd.func6, Tryd.ntmps6
  go_wp2_with fail
  rw [← hU.out]
  refine hal.out.mono ?_
  rintro e w1 ⟨rfl, g1⟩
  go_wp2_with fail
  go_loopw [21] (fun iv wr => (iv = .int .i64 0 ∧ Hid (Blk wr w1.heap.size #[.pointer none, .pointer none] 58 ∧ Blk wr (w1.heap.size + 1) #[.pointer none, .pointer none] 60 ∧ Gr U wr)) ∨ (iv = .int .i64 1 ∧ Hid (Inv1 U w1.heap.size (w1.heap.size + 1) n x wr)) ∨ (iv = .int .i64 2 ∧ Hid (Inv2 U w1.heap.size (w1.heap.size + 1) 0 wr))) (fun iv _ => 2 - (intOf iv).toNat)
  case atStart => exact .inl ⟨rfl, Lib.hid ⟨(Blk.new w1 _ _).alloc _, by have := Blk.new (w1.alloc (.cells #[.pointer none, .pointer none] 58)) #[.pointer none, .pointer none] 60; rw [World.size_alloc] at this; exact this, (g1.alloc _).alloc _⟩⟩
  case round =>
    obtain ⟨rfl, hI⟩ | ⟨rfl, hI⟩ | ⟨rfl, hI⟩ := hrel
    · obtain ⟨hB1, hB2, gw⟩ := hI.out
      clear hI
      have ls1 := hB1.lt
      have ls2 := hB2.lt
      replace hB1 := Lib.hid hB1
      replace hB2 := Lib.hid hB2
      have hXr := hX.out.gr gw
      have x0 := hXr.cell (i := 0) (v := .int .i64 x.e.cl) rfl
      have x1 := hXr.cell (i := 1) (v := .int .i64 x.e.nu) rfl
      have x2 := hXr.cell (i := 2) (v := .int .i64 x.e.kd) rfl
      have x3 := hXr.cell (i := 3) (v := .int .i64 x.e.id) rfl
      have x4 := hXr.cell (i := 4) (v := .int .i64 x.e.srv.k) rfl
      have x5 := hXr.cell (i := 5) (v := .int .i64 x.e.srv.q) rfl
      have x6 := hXr.cell (i := 6) (v := .int .i64 x.e.srv.t) rfl
      have x7 := hXr.cell (i := 7) (v := .int .i64 x.e.po) rfl
      have x8 := hXr.cell (i := 8) (v := .slice x.a x.e.tasks.length x.c) rfl
      have x9 := hXr.cell (i := 9) (v := .int .i64 x.e.at_) rfl
      obtain ⟨wa, hwa⟩ : ∃ wa, wa = wr.alloc (.cells #[.int .i64 x.e.cl, .int .i64 x.e.nu, .int .i64 x.e.kd, .int .i64 x.e.id, .int .i64 x.e.srv.k, .int .i64 x.e.srv.q, .int .i64 x.e.srv.t, .int .i64 x.e.po, .slice x.a x.e.tasks.length x.c, .int .i64 x.e.at_] 36) := ⟨_, rfl⟩
      have ga : Gr wr wa := by rw [hwa]; exact (Gr.refl wr).alloc _
      have hza : wa.heap.size = wr.heap.size + 1 := by rw [hwa]; simp
      have hled : LedM Any wa (some ⟨wr.heap.size, 0, none⟩) [x] := by
        refine ⟨⟨?_, fun _ _ _ => trivial⟩, fun y hy => by rw [List.mem_singleton.1 hy]; exact (hxU.out.gr gw).gr ga⟩
        rw [hwa]
        exact recs_alloc EntM.cells_len wr [x] _ _ (by simp)
      have hcp := rcopyW_any (some ⟨wr.heap.size, 0, none⟩) 1 [x] wa hled (by simp)
      simp only [List.length_cons, List.length_nil, Nat.zero_add, List.map_cons, List.map_nil] at hcp
      have hXb := hX.out.lt
      have hgwz := gw.size
      replace hXr := Lib.hid hXr
      replace hwa := Lib.hid hwa
      replace hled := Lib.hid hled
      replace hcp := Lib.hid hcp
      replace hza := Lib.hid hza
      go_wp2_with fail
      rw [← hwa.out]
      refine hcp.out.mono ?_
      rintro e w2 ⟨a2, c2, L2, rfl, m2, wl2, n2, q2, q3, g2⟩
      obtain ⟨ay, cy, rfl⟩ := one_ent m2
      obtain ⟨g, off, rfl, hscr⟩ := wl2.scr (by simp)
      have hy2 := wl2.1.2 ⟨x.e, ay, cy⟩ (by simp)
      obtain ⟨g', off', eg, hgl, hgB, y0, y1, y2, y3, y4, y5, y6, y7, y8, y9⟩ := wl2.1.get (i := 0) (x := ⟨x.e, ay, cy⟩) rfl
      cases eg
      simp only [Nat.zero_mul, Nat.add_zero] at y0 y1 y2 y3 y4 y5 y6 y7 y8 y9
      have gU2 : Gr U w2 := (gw.trans ga).trans g2
      have gwr2 : Gr wr w2 := ga.trans g2
      have i01 : (0 : Int) < 1 := by decide
      have i02 : 0 < 1 := by decide
      replace hscr := Lib.hid hscr
      replace hy2 := Lib.hid hy2
      replace m2 := Lib.hid m2
      replace wl2 := Lib.hid wl2
      replace n2 := Lib.hid n2
      replace q2 := Lib.hid q2
      replace q3 := Lib.hid q3
      clear hgl hgB
      simp only [List.length_cons, List.length_nil, Nat.zero_add]
      have hyI := Blk.new w2 #[.int .i64 x.e.cl, .int .i64 x.e.nu, .int .i64 x.e.kd, .int .i64 x.e.id, .int .i64 x.e.srv.k, .int .i64 x.e.srv.q, .int .i64 x.e.srv.t, .int .i64 x.e.po, .slice ay x.e.tasks.length cy, .int .i64 x.e.at_] 36
      obtain ⟨w3, hw3⟩ : ∃ w3, w3 = w2.alloc (.cells #[.int .i64 x.e.cl, .int .i64 x.e.nu, .int .i64 x.e.kd, .int .i64 x.e.id, .int .i64 x.e.srv.k, .int .i64 x.e.srv.q, .int .i64 x.e.srv.t, .int .i64 x.e.po, .slice ay x.e.tasks.length cy, .int .i64 x.e.at_] 36) := ⟨_, rfl⟩
      rw [← hw3] at hyI
      have g3 : Gr w2 w3 := by rw [hw3]; exact (Gr.refl w2).alloc _
      have hz3 : w3.heap.size = w2.heap.size + 1 := by rw [hw3]; simp
      replace hw3 := Lib.hid hw3
      replace hyI := Lib.hid hyI
      replace hz3 := Lib.hid hz3
      clear x0 x1 x2 x3 x4 x5 x6 x7 x8 x9
      go_wp2_with fail
      rw [← hw3.out]
      clear y0 y1 y2 y3 y4 y5 y6 y7 y8 y9
      have gU3 : Gr U w3 := gU2.trans g3
      have hy3 := hy2.out.gr g3
      have hnw := new_ok n ⟨x.e, ay, cy⟩ false w3 ((hE.gr gU).gr gU3) (hG _ (by decide)) (hy3.mono (fun _ _ _ => trivial)) hn1 hn7 (fun _ => hf)
      refine hnw.mono ?_
      clear hnw
      rintro e w4 ⟨rb, ab, R, rfl, hR, hv, hr1, hr2, g4⟩
      have gU4 : Gr U w4 := gU3.trans g4
      have hg3z := gU3.size
      have hx4 : x.ok (fun b => b ≠ rb ∧ b ≠ ab ∧ (b < U.heap.size ∨ w3.heap.size ≤ b)) w4 := (hxU.out.mono (fun b hb _ => ⟨by omega, by omega, .inl hb⟩)).gr gU4
      have hrw := rnew_any n x false w4 hx4 hn1 hn7 (fun _ => hf)
      replace hR := Lib.hid hR
      replace hv := Lib.hid hv
      replace hx4 := Lib.hid hx4
      replace hrw := Lib.hid hrw
      have hXk := hX.out.gr gU4
      have x0 := hXk.cell (i := 0) (v := .int .i64 x.e.cl) rfl
      have x1 := hXk.cell (i := 1) (v := .int .i64 x.e.nu) rfl
      have x2 := hXk.cell (i := 2) (v := .int .i64 x.e.kd) rfl
      have x3 := hXk.cell (i := 3) (v := .int .i64 x.e.id) rfl
      have x4 := hXk.cell (i := 4) (v := .int .i64 x.e.srv.k) rfl
      have x5 := hXk.cell (i := 5) (v := .int .i64 x.e.srv.q) rfl
      have x6 := hXk.cell (i := 6) (v := .int .i64 x.e.srv.t) rfl
      have x7 := hXk.cell (i := 7) (v := .int .i64 x.e.po) rfl
      have x8 := hXk.cell (i := 8) (v := .slice x.a x.e.tasks.length x.c) rfl
      have x9 := hXk.cell (i := 9) (v := .int .i64 x.e.at_) rfl
      replace hXk := Lib.hid hXk
      go_wp2_with fail
      refine hrw.out.mono ?_
      rintro e w5 ⟨mb, rfl, hM, hm5, g5⟩
      have gU5 : Gr U w5 := gU4.trans g5
      clear x0 x1 x2 x3 x4 x5 x6 x7 x8 x9
      obtain ⟨hpn, hln⟩ := pair_new (W := U) hR.out hv.out hr1 hr2 g5 hM hm5
      have hbn : R.begun = 0 := by rw [show R.begun = R.v.begun from rfl, hv.out]; rfl
      replace hpn := Lib.hid hpn
      replace hln := Lib.hid hln
      replace hM := Lib.hid hM
      replace hbn := Lib.hid hbn
      go_wp2_with fail
      refine (num_nil w5).mono ?_
      rintro e w6 ⟨rfl, g6⟩
      have gU6 : Gr U w6 := gU5.trans g6
      have g36 : Gr w3 w6 := (g4.trans g5).trans g6
      have hyJ := hyI.out.gr g36
      have j8 := hyJ.cell (i := 8) (v := .slice ay x.e.tasks.length cy) rfl
      obtain ⟨B, hB⟩ : ∃ B, wa.heap.size = B := ⟨_, rfl⟩
      obtain ⟨C, hC⟩ : ∃ C, w2.heap.size = C := ⟨_, rfl⟩
      have hzw := gw.size
      have hz2 := g2.size
      have hz36 := g36.size
      have hzz := hza.out
      have hzz3 := hz3.out
      have hzg1 := g1.size
      have hs6 : Scr B C w6 g off [⟨x.e, ay, cy⟩] := by
        have h1 := hscr.out
        rw [hB, hC] at h1
        exact h1.grx (T := []) (by omega) (fun y hy => by cases hy) ((g3.trans g36).x [])
      have hnT : C ∉ upTo B C := fun hm => by have := mem_upTo.1 hm; omega
      rw [hC] at hyJ j8
      replace hyJ := Lib.hid hyJ
      have hxm := ent_cap hy2.out
      have gw6 : Gr wr w6 := (gwr2.trans g3).trans g36
      have hA1 := hB1.out.gr gw6
      have hA2 := hB2.out.gr gw6
      have hBC : B ≤ C := by omega
      have hBz : wr.heap.size < B := by omega
      have hCz : C < w3.heap.size := by omega
      have hwz6 : C < w6.heap.size := by omega
      replace hA1 := Lib.hid hA1
      replace hA2 := Lib.hid hA2
      replace hs6 := Lib.hid hs6
      replace hnT := Lib.hid hnT
      replace hB := Lib.hid hB
      replace hC := Lib.hid hC
      replace gw6 := Lib.hid gw6
      clear hzz hzz3 hz2 hz36
      rw [hC.out]
      go_wp2_with fail
      clear j8
      obtain ⟨wo6, hwo6⟩ : ∃ wo6 : World, wo6 = wr := ⟨wr, rfl⟩
      rw [← hwo6] at gw6 hBz ls1 ls2
      replace hwo6 := Lib.hid hwo6
      go_loopw [62] (fun jv wr => ∃ j : Nat, j ≤ x.e.tasks.length ∧ jv = .int .i64 j ∧ Hid (Scr B C wr g off [⟨x.e, ay, cy⟩]) ∧ GrX (upTo B C) w6 wr) (fun jv _ => x.e.tasks.length - (intOf jv).toNat)
      case atStart => exact ⟨0, Nat.zero_le _, rfl, hs6, GrX.refl _ _⟩
      case round =>
        obtain ⟨j, hj, rfl, hs2, hgs2⟩ := hrel
        have hyK := hyJ.out.grx hgs2 hnT.out
        have l8 := hyK.cell (i := 8) (v := .slice ay x.e.tasks.length cy) rfl
        replace hyK := Lib.hid hyK
        by_cases hjl : j < x.e.tasks.length
        · obtain ⟨bb, oo, v, hxa, hbg, hbB, hcv, hfr⟩ := hs2.out.tk ⟨x.e, ay, cy⟩ (by simp) j hjl
          have tj : (j : Int) < x.e.tasks.length := by omega
          have hxa2 : ay = some ⟨bb, oo, none⟩ := hxa
          rw [hxa2] at l8
          clear hxa
          replace hxa2 := Lib.hid hxa2
          replace hbg := Lib.hid hbg
          replace hbB := Lib.hid hbB
          go_wp2_with fail
          go_roundw
          case rel => exact ⟨j + 1, by omega, by go_num, Lib.hid (hs2.out.set _ _ (.inl hbg.out)), hgs2.set (.inl (mem_upTo.2 hbB.out)) _⟩
          case measure => simp [intOf]; omega
        · have tj : ¬ (j : Int) < x.e.tasks.length := by omega
          have tj2 : decide ((j : Int) < x.e.tasks.length) = false := decide_eq_false tj
          have hns : ∀ y, y < wo6.heap.size → y ∉ upTo B C := fun y hy hm => by have := mem_upTo.1 hm; omega
          have hD1 := hA1.out.grx hgs2 (hns _ ls1)
          have hD2 := hA2.out.grx hgs2 (hns _ ls2)
          have e1 := hD1.cell (i := 0) (v := .pointer none) rfl
          have e2 := hD2.cell (i := 0) (v := .pointer none) rfl
          have f1 := hD1.free 0
          have f2 := hD2.free 0
          have t0 : (0 : Int) < 2 := by decide
          have t1 : 0 < 2 := by decide
          have hne : w1.heap.size ≠ w1.heap.size + 1 := by omega
          replace hD1 := Lib.hid hD1
          replace hD2 := Lib.hid hD2
          replace hns := Lib.hid hns
          go_wp2_with fail
          go_roundw
          case rel =>
            refine .inr (.inl ⟨by first | rfl | go_num, Lib.hid ?_⟩)
            have gUr : Gr U wr := hgs2.all gU6 (fun y hy => by have := mem_upTo.1 hy; omega)
            exact inv1_of hD1.out hD2.out hne ((hpn.out.gr g6).away hgs2 (fun y hy hm => by have := mem_upTo.1 hy; have := hln.out y hm; omega) (fun y hy hk => by have := mem_upTo.1 hy; rcases hk with hk | hk <;> omega)) hln.out (by omega) (by omega) (by omega) (by omega) gUr hbn.out
          case measure => simp [intOf]
    · obtain ⟨rb0, ab0, mb0, R0, B00, hB1, hB2, gw, hp0, hl0, hu0, hs0, hm0, hb0⟩ := hI.out
      clear hI
      have hlt0 := fun y (hy : y ∈ pairT rb0 ab0 mb0 (RnM.new n x false)) => hp0.ltT hy
      replace hp0 := Lib.hid hp0
      replace hl0 := Lib.hid hl0
      replace hlt0 := Lib.hid hlt0
      replace hb0 := Lib.hid hb0
      obtain ⟨wo, hwo⟩ : ∃ wo : World, wo = wr := ⟨wr, rfl⟩
      replace hwo := Lib.hid hwo
      have ls1 := hB1.lt
      have ls2 := hB2.lt
      replace hB1 := Lib.hid hB1
      replace hB2 := Lib.hid hB2
      have hXr := hX.out.gr gw
      have x0 := hXr.cell (i := 0) (v := .int .i64 x.e.cl) rfl
      have x1 := hXr.cell (i := 1) (v := .int .i64 x.e.nu) rfl
      have x2 := hXr.cell (i := 2) (v := .int .i64 x.e.kd) rfl
      have x3 := hXr.cell (i := 3) (v := .int .i64 x.e.id) rfl
      have x4 := hXr.cell (i := 4) (v := .int .i64 x.e.srv.k) rfl
      have x5 := hXr.cell (i := 5) (v := .int .i64 x.e.srv.q) rfl
      have x6 := hXr.cell (i := 6) (v := .int .i64 x.e.srv.t) rfl
      have x7 := hXr.cell (i := 7) (v := .int .i64 x.e.po) rfl
      have x8 := hXr.cell (i := 8) (v := .slice x.a x.e.tasks.length x.c) rfl
      have x9 := hXr.cell (i := 9) (v := .int .i64 x.e.at_) rfl
      obtain ⟨wa, hwa⟩ : ∃ wa, wa = wr.alloc (.cells #[.int .i64 x.e.cl, .int .i64 x.e.nu, .int .i64 x.e.kd, .int .i64 x.e.id, .int .i64 x.e.srv.k, .int .i64 x.e.srv.q, .int .i64 x.e.srv.t, .int .i64 x.e.po, .slice x.a x.e.tasks.length x.c, .int .i64 x.e.at_] 36) := ⟨_, rfl⟩
      have ga : Gr wr wa := by rw [hwa]; exact (Gr.refl wr).alloc _
      have hza : wa.heap.size = wr.heap.size + 1 := by rw [hwa]; simp
      have hled : LedM Any wa (some ⟨wr.heap.size, 0, none⟩) [x] := by
        refine ⟨⟨?_, fun _ _ _ => trivial⟩, fun y hy => by rw [List.mem_singleton.1 hy]; exact (hxU.out.gr gw).gr ga⟩
        rw [hwa]
        exact recs_alloc EntM.cells_len wr [x] _ _ (by simp)
      have hcp := rcopyW_any (some ⟨wr.heap.size, 0, none⟩) 1 [x] wa hled (by simp)
      simp only [List.length_cons, List.length_nil, Nat.zero_add, List.map_cons, List.map_nil] at hcp
      have hXb := hX.out.lt
      have hgwz := gw.size
      replace hXr := Lib.hid hXr
      replace hwa := Lib.hid hwa
      replace hled := Lib.hid hled
      replace hcp := Lib.hid hcp
      replace hza := Lib.hid hza
      go_wp2_with fail
      rw [← hwa.out]
      refine hcp.out.mono ?_
      rintro e w2 ⟨a2, c2, L2, rfl, m2, wl2, n2, q2, q3, g2⟩
      obtain ⟨ay, cy, rfl⟩ := one_ent m2
      obtain ⟨g, off, rfl, hscr⟩ := wl2.scr (by simp)
      have hy2 := wl2.1.2 ⟨x.e, ay, cy⟩ (by simp)
      obtain ⟨g', off', eg, hgl, hgB, y0, y1, y2, y3, y4, y5, y6, y7, y8, y9⟩ := wl2.1.get (i := 0) (x := ⟨x.e, ay, cy⟩) rfl
      cases eg
      simp only [Nat.zero_mul, Nat.add_zero] at y0 y1 y2 y3 y4 y5 y6 y7 y8 y9
      have gU2 : Gr U w2 := (gw.trans ga).trans g2
      have gwr2 : Gr wr w2 := ga.trans g2
      have i01 : (0 : Int) < 1 := by decide
      have i02 : 0 < 1 := by decide
      replace hscr := Lib.hid hscr
      replace hy2 := Lib.hid hy2
      replace m2 := Lib.hid m2
      replace wl2 := Lib.hid wl2
      replace n2 := Lib.hid n2
      replace q2 := Lib.hid q2
      replace q3 := Lib.hid q3
      clear hgl hgB
      simp only [List.length_cons, List.length_nil, Nat.zero_add]
      have hyI := Blk.new w2 #[.int .i64 x.e.cl, .int .i64 x.e.nu, .int .i64 x.e.kd, .int .i64 x.e.id, .int .i64 x.e.srv.k, .int .i64 x.e.srv.q, .int .i64 x.e.srv.t, .int .i64 x.e.po, .slice ay x.e.tasks.length cy, .int .i64 x.e.at_] 36
      obtain ⟨w3, hw3⟩ : ∃ w3, w3 = w2.alloc (.cells #[.int .i64 x.e.cl, .int .i64 x.e.nu, .int .i64 x.e.kd, .int .i64 x.e.id, .int .i64 x.e.srv.k, .int .i64 x.e.srv.q, .int .i64 x.e.srv.t, .int .i64 x.e.po, .slice ay x.e.tasks.length cy, .int .i64 x.e.at_] 36) := ⟨_, rfl⟩
      rw [← hw3] at hyI
      have g3 : Gr w2 w3 := by rw [hw3]; exact (Gr.refl w2).alloc _
      have hz3 : w3.heap.size = w2.heap.size + 1 := by rw [hw3]; simp
      replace hw3 := Lib.hid hw3
      replace hyI := Lib.hid hyI
      replace hz3 := Lib.hid hz3
      clear x0 x1 x2 x3 x4 x5 x6 x7 x8 x9
      go_wp2_with fail
      rw [← hw3.out]
      clear y0 y1 y2 y3 y4 y5 y6 y7 y8 y9
      have gU3 : Gr U w3 := gU2.trans g3
      have hy3 := hy2.out.gr g3
      have hnw := new_ok n ⟨x.e, ay, cy⟩ true w3 ((hE.gr gU).gr gU3) (hG _ (by decide)) (hy3.mono (fun _ _ _ => trivial)) hn1 hn7 (fun _ => hf)
      refine hnw.mono ?_
      clear hnw
      rintro e w4 ⟨rb, ab, R, rfl, hR, hv, hr1, hr2, g4⟩
      have gU4 : Gr U w4 := gU3.trans g4
      have hg3z := gU3.size
      have hx4 : x.ok (fun b => b ≠ rb ∧ b ≠ ab ∧ (b < U.heap.size ∨ w3.heap.size ≤ b)) w4 := (hxU.out.mono (fun b hb _ => ⟨by omega, by omega, .inl hb⟩)).gr gU4
      have hrw := rnew_any n x true w4 hx4 hn1 hn7 (fun _ => hf)
      replace hR := Lib.hid hR
      replace hv := Lib.hid hv
      replace hx4 := Lib.hid hx4
      replace hrw := Lib.hid hrw
      have hXk := hX.out.gr gU4
      have x0 := hXk.cell (i := 0) (v := .int .i64 x.e.cl) rfl
      have x1 := hXk.cell (i := 1) (v := .int .i64 x.e.nu) rfl
      have x2 := hXk.cell (i := 2) (v := .int .i64 x.e.kd) rfl
      have x3 := hXk.cell (i := 3) (v := .int .i64 x.e.id) rfl
      have x4 := hXk.cell (i := 4) (v := .int .i64 x.e.srv.k) rfl
      have x5 := hXk.cell (i := 5) (v := .int .i64 x.e.srv.q) rfl
      have x6 := hXk.cell (i := 6) (v := .int .i64 x.e.srv.t) rfl
      have x7 := hXk.cell (i := 7) (v := .int .i64 x.e.po) rfl
      have x8 := hXk.cell (i := 8) (v := .slice x.a x.e.tasks.length x.c) rfl
      have x9 := hXk.cell (i := 9) (v := .int .i64 x.e.at_) rfl
      replace hXk := Lib.hid hXk
      go_wp2_with fail
      refine hrw.out.mono ?_
      rintro e w5 ⟨mb, rfl, hM, hm5, g5⟩
      have gU5 : Gr U w5 := gU4.trans g5
      clear x0 x1 x2 x3 x4 x5 x6 x7 x8 x9
      obtain ⟨hpn, hln⟩ := pair_new (W := U) hR.out hv.out hr1 hr2 g5 hM hm5
      have hbn : R.begun = 0 := by rw [show R.begun = R.v.begun from rfl, hv.out]; rfl
      replace hpn := Lib.hid hpn
      replace hln := Lib.hid hln
      replace hM := Lib.hid hM
      replace hbn := Lib.hid hbn
      go_wp2_with fail
      refine (num_nil w5).mono ?_
      rintro e w6 ⟨rfl, g6⟩
      have gU6 : Gr U w6 := gU5.trans g6
      have g36 : Gr w3 w6 := (g4.trans g5).trans g6
      have hyJ := hyI.out.gr g36
      have j8 := hyJ.cell (i := 8) (v := .slice ay x.e.tasks.length cy) rfl
      obtain ⟨B, hB⟩ : ∃ B, wa.heap.size = B := ⟨_, rfl⟩
      obtain ⟨C, hC⟩ : ∃ C, w2.heap.size = C := ⟨_, rfl⟩
      have hzw := gw.size
      have hz2 := g2.size
      have hz36 := g36.size
      have hzz := hza.out
      have hzz3 := hz3.out
      have hzg1 := g1.size
      have hs6 : Scr B C w6 g off [⟨x.e, ay, cy⟩] := by
        have h1 := hscr.out
        rw [hB, hC] at h1
        exact h1.grx (T := []) (by omega) (fun y hy => by cases hy) ((g3.trans g36).x [])
      have hnT : C ∉ upTo B C := fun hm => by have := mem_upTo.1 hm; omega
      rw [hC] at hyJ j8
      replace hyJ := Lib.hid hyJ
      have hxm := ent_cap hy2.out
      have gw6 : Gr wr w6 := (gwr2.trans g3).trans g36
      have hA1 := hB1.out.gr gw6
      have hA2 := hB2.out.gr gw6
      have hBC : B ≤ C := by omega
      have hBz : wr.heap.size < B := by omega
      have hCz : C < w3.heap.size := by omega
      have hwz6 : C < w6.heap.size := by omega
      replace hA1 := Lib.hid hA1
      replace hA2 := Lib.hid hA2
      replace hs6 := Lib.hid hs6
      replace hnT := Lib.hid hnT
      replace hB := Lib.hid hB
      replace hC := Lib.hid hC
      replace gw6 := Lib.hid gw6
      clear hzz hzz3 hz2 hz36
      rw [hC.out]
      go_wp2_with fail
      clear j8
      obtain ⟨wo6, hwo6⟩ : ∃ wo6 : World, wo6 = wr := ⟨wr, rfl⟩
      rw [← hwo6] at gw6 hBz ls1 ls2 hlt0 hwo
      replace hwo6 := Lib.hid hwo6
      go_loopw [62] (fun jv wr => ∃ j : Nat, j ≤ x.e.tasks.length ∧ jv = .int .i64 j ∧ Hid (Scr B C wr g off [⟨x.e, ay, cy⟩]) ∧ GrX (upTo B C) w6 wr) (fun jv _ => x.e.tasks.length - (intOf jv).toNat)
      case atStart => exact ⟨0, Nat.zero_le _, rfl, hs6, GrX.refl _ _⟩
      case round =>
        obtain ⟨j, hj, rfl, hs2, hgs2⟩ := hrel
        have hyK := hyJ.out.grx hgs2 hnT.out
        have l8 := hyK.cell (i := 8) (v := .slice ay x.e.tasks.length cy) rfl
        replace hyK := Lib.hid hyK
        by_cases hjl : j < x.e.tasks.length
        · obtain ⟨bb, oo, v, hxa, hbg, hbB, hcv, hfr⟩ := hs2.out.tk ⟨x.e, ay, cy⟩ (by simp) j hjl
          have tj : (j : Int) < x.e.tasks.length := by omega
          have hxa2 : ay = some ⟨bb, oo, none⟩ := hxa
          rw [hxa2] at l8
          clear hxa
          replace hxa2 := Lib.hid hxa2
          replace hbg := Lib.hid hbg
          replace hbB := Lib.hid hbB
          go_wp2_with fail
          go_roundw
          case rel => exact ⟨j + 1, by omega, by go_num, Lib.hid (hs2.out.set _ _ (.inl hbg.out)), hgs2.set (.inl (mem_upTo.2 hbB.out)) _⟩
          case measure => simp [intOf]; omega
        · have tj : ¬ (j : Int) < x.e.tasks.length := by omega
          have tj2 : decide ((j : Int) < x.e.tasks.length) = false := decide_eq_false tj
          have hns : ∀ y, y < wo6.heap.size → y ∉ upTo B C := fun y hy hm => by have := mem_upTo.1 hm; omega
          have hD1 := hA1.out.grx hgs2 (hns _ ls1)
          have hD2 := hA2.out.grx hgs2 (hns _ ls2)
          have e1 := hD1.cell (i := 1) (v := .pointer none) rfl
          have e2 := hD2.cell (i := 1) (v := .pointer none) rfl
          have f1 := hD1.free 1
          have f2 := hD2.free 1
          have t0 : (1 : Int) < 2 := by decide
          have t1 : 1 < 2 := by decide
          have hne : w1.heap.size ≠ w1.heap.size + 1 := by omega
          replace hD1 := Lib.hid hD1
          replace hD2 := Lib.hid hD2
          replace hns := Lib.hid hns
          go_wp2_with fail
          go_roundw
          case rel =>
            refine .inr (.inr ⟨by first | rfl | go_num, Lib.hid ?_⟩)
            have gUr : Gr U wr := hgs2.all gU6 (fun y hy => by have := mem_upTo.1 hy; omega)
            have hp1 := (hp0.out.mono (K' := fun b => (b < U.heap.size ∨ B00 ≤ b) ∧ b < wo6.heap.size) (fun b hb hk => ⟨hk, by rw [hwo6.out]; exact hb⟩)).gr (by rw [← hwo6.out]; exact gw6.out)
            exact inv2_of hD1.out hD2.out hne (hp1.away hgs2 (fun y hy hm => by have := mem_upTo.1 hy; have := hlt0.out y hm; omega) (fun y hy hk => by have := mem_upTo.1 hy; have := hk.2; omega)) ((hpn.out.gr g6).away hgs2 (fun y hy hm => by have := mem_upTo.1 hy; have := hln.out y hm; omega) (fun y hy hk => by have := mem_upTo.1 hy; rcases hk with hk | hk <;> omega)) (fun y hy => ⟨hl0.out y hy, hlt0.out y hy⟩) hln.out (by omega) hu0 (by omega) (by omega) hs0 hm0 gUr hb0.out hbn.out
          case measure => simp [intOf]
    · go_wp2_with fail
      clear hX hxU hal
      go_loopw [81] (fun iv wr => ∃ i : Nat, i ≤ S.length ∧ iv = .int .i64 i ∧ Hid (Inv2 U w1.heap.size (w1.heap.size + 1) i wr)) (fun iv _ => S.length - (intOf iv).toNat)
      case atStart => exact ⟨0, Nat.zero_le _, rfl, hI⟩
      case round =>
        obtain ⟨i, hi, rfl, hI2⟩ := hrel
        obtain ⟨r0, a0, m0, R0, M0, r1, a1, m1, R1, M1, hB1, hB2, hT, hb0, hb1⟩ := hI2.out
        clear hI2
        have hgT := hT.g
        by_cases hlt : i < S.length
        · obtain ⟨y, hy⟩ := get_some S i hlt
          have hyS := List.mem_of_getElem? hy
          have hyk := hSx.out y hyS
          obtain ⟨b, off, rfl, hbl, hc⟩ := (hS.out.grx ((gU.trans hgT).x []) (fun _ h => by cases h)).1 i y hy
          have q0 := hc 0 _ rfl
          rw [Nat.add_zero] at q0
          have q1 := hc 1 _ rfl
          have q2 := hc 2 _ rfl
          have q3 := hc 3 _ rfl
          have q4 := hc 4 _ rfl
          have q5 := hc 5 _ rfl
          have q6 := hc 6 _ rfl
          have q7 := hc 7 _ rfl
          have ti : (i : Int) < S.length := by omega
          obtain ⟨wo, hwo⟩ : ∃ wo, wo = wr.alloc (.cells #[.int .i64 y.kd, .int .i64 y.wh, .int .i64 y.fr, .int .i64 y.b.r, .int .i64 y.b.n, .int .i64 y.acc.r, .int .i64 y.acc.n, .slice y.a y.L.length y.c] 67) := ⟨_, rfl⟩
          have gO : Gr wr wo := by rw [hwo]; exact (Gr.refl wr).alloc _
          have hOb : Blk wo wr.heap.size #[.int .i64 y.kd, .int .i64 y.wh, .int .i64 y.fr, .int .i64 y.b.r, .int .i64 y.b.n, .int .i64 y.acc.r, .int .i64 y.acc.n, .slice y.a y.L.length y.c] 67 := by rw [hwo]; exact Blk.new wr _ _
          have hzo : wo.heap.size = wr.heap.size + 1 := by rw [hwo]; simp
          have gd : Gr wo wo.drew := (Gr.refl wo).drew
          have hD1 := hB1.gr (gO.trans gd)
          have hD2 := hB2.gr (gO.trans gd)
          have hOd := hOb.gr gd
          have t00 : (0 : Int) < 2 := by decide
          have t01 : 0 < 2 := by decide
          have t10 : (1 : Int) < 2 := by decide
          have t11 : 1 < 2 := by decide
          have hTd := hT.gr (gO.trans gd)
          have hTw := hT
          have gWU := gU.trans hTd.g
          have z1 := hB1.lt
          have z2 := hB2.lt
          have hXX : ∀ z ∈ [w1.heap.size, w1.heap.size + 1], z < wo.drew.heap.size := fun z hz => by simp at hz; simp; omega
          have uz := hUz.out
          replace hwo := Lib.hid hwo
          replace hB1 := Lib.hid hB1
          replace hB2 := Lib.hid hB2
          replace hOb := Lib.hid hOb
          replace hT := Lib.hid hT
          replace hTd := Lib.hid hTd
          replace hy := Lib.hid hy
          replace hzo := Lib.hid hzo
          replace hyk := Lib.hid hyk
          replace hXX := Lib.hid hXX
          clear hc hTw
          rcases and1 y.wh with hk | hk
          · have hTs := hTd.out
            have hlo := hTs.lo
            have hnO : wr.heap.size ∉ pairT r0 a0 m0 M0 := fun hm => by have := (hT.out).p.ltT hm; omega
            have hLy : LedM (fun b => b ∉ pairT r0 a0 m0 M0) wo.drew y.a y.L := (hyk.out.1.mono (fun b hb _ hm => by have := (hlo b hm).1; omega)).gr gWU
            have hKf : ∀ b, wo.drew.heap.size ≤ b → b ∉ pairT r1 a1 m1 M1 := fun b hb hm => by have := hTs.q.ltT hm; omega
            have hpl := play_any U (hE.gr gU) hG R0 M0 wo.drew r0 a0 m0 hTs.p hTs.g (hlo r0 (List.mem_cons_self ..)).1 (hlo a0 (List.mem_cons_of_mem _ (List.mem_cons_self ..))).1 hKf hb0.1 (by omega) y.kd y.wh y.fr y.b y.acc y.a y.c y.L hLy hyk.out.2
            have hs1 : w1.heap.size ∉ pairT r0 a0 m0 M0 := fun hm => (hlo _ hm).2 (by simp)
            have hs2 : w1.heap.size + 1 ∉ pairT r0 a0 m0 M0 := fun hm => (hlo _ hm).2 (by simp)
            have hall : ∀ w3, GrX (pairT r0 a0 m0 M0) wo.drew w3 → Gr U w3 := fun w3 gx => gx.all hTs.g (fun z hz => (hlo z hz).1)
            replace hpl := Lib.hid hpl
            replace hs1 := Lib.hid hs1
            replace hs2 := Lib.hid hs2
            replace hnO := Lib.hid hnO
            replace hall := Lib.hid hall
            replace hTs := Lib.hid hTs
            clear hLy hKf hlo
            have ds := hD1.cell (i := 0) (v := .pointer (some ⟨r0, 0, none⟩)) rfl
            have dm := hD2.cell (i := 0) (v := .pointer (some ⟨m0, 0, none⟩)) rfl
            have d0 := hOd.cell (i := 0) (v := .int .i64 y.kd) rfl
            have d1 := hOd.cell (i := 1) (v := .int .i64 y.wh) rfl
            have d2 := hOd.cell (i := 2) (v := .int .i64 y.fr) rfl
            have d3 := hOd.cell (i := 3) (v := .int .i64 y.b.r) rfl
            have d4 := hOd.cell (i := 4) (v := .int .i64 y.b.n) rfl
            have d5 := hOd.cell (i := 5) (v := .int .i64 y.acc.r) rfl
            have d6 := hOd.cell (i := 6) (v := .int .i64 y.acc.n) rfl
            have d7 := hOd.cell (i := 7) (v := .slice y.a y.L.length y.c) rfl
            replace hD1 := Lib.hid hD1
            replace hD2 := Lib.hid hD2
            replace hOd := Lib.hid hOd
            go_upto_region 26 with fail
            rw [← hwo.out]
            clear q0 q1 q2 q3 q4 q5 q6 q7
            go_region_held3 (fun w' => w'.cell? ⟨w1.heap.size, 0, none⟩ = some (.pointer (some ⟨r0, 0, none⟩)) ∧ w'.cell? ⟨w1.heap.size + 1, 0, none⟩ = some (.pointer (some ⟨m0, 0, none⟩)) ∧ w'.cell? ⟨wr.heap.size, 0, none⟩ = some (.int .i64 y.kd) ∧ w'.cell? ⟨wr.heap.size, 1, none⟩ = some (.int .i64 y.wh) ∧ w'.cell? ⟨wr.heap.size, 2, none⟩ = some (.int .i64 y.fr) ∧ w'.cell? ⟨wr.heap.size, 3, none⟩ = some (.int .i64 y.b.r) ∧ w'.cell? ⟨wr.heap.size, 4, none⟩ = some (.int .i64 y.b.n) ∧ w'.cell? ⟨wr.heap.size, 5, none⟩ = some (.int .i64 y.acc.r) ∧ w'.cell? ⟨wr.heap.size, 6, none⟩ = some (.int .i64 y.acc.n) ∧ w'.cell? ⟨wr.heap.size, 7, none⟩ = some (.slice y.a y.L.length y.c)) (simp (maxDischargeDepth := 8) [go_sem, *])
              (first
                | (go_at_call 29; (with_reducible refine hpl.out.mono ?_); rintro e w3 ⟨rfl, R3, M3, hp3, gx3, ho3, hn3, hn4⟩; have hE1 := hD1.out.grx gx3 hs1.out; have hE2 := hD2.out.grx gx3 hs2.out; have hEO := hOd.out.grx gx3 hnO.out; have es := hE1.cell (i := 0) (v := .pointer (some ⟨r0, 0, none⟩)) rfl; have em := hE2.cell (i := 0) (v := .pointer (some ⟨m0, 0, none⟩)) rfl; have e0 := hEO.cell (i := 0) (v := .int .i64 y.kd) rfl; have e1 := hEO.cell (i := 1) (v := .int .i64 y.wh) rfl; have e2 := hEO.cell (i := 2) (v := .int .i64 y.fr) rfl; have e3 := hEO.cell (i := 3) (v := .int .i64 y.b.r) rfl; have e4 := hEO.cell (i := 4) (v := .int .i64 y.b.n) rfl; have e5 := hEO.cell (i := 5) (v := .int .i64 y.acc.r) rfl; have e6 := hEO.cell (i := 6) (v := .int .i64 y.acc.n) rfl; have e7 := hEO.cell (i := 7) (v := .slice y.a y.L.length y.c) rfl; replace hE1 := Lib.hid hE1; replace hE2 := Lib.hid hE2; replace hEO := Lib.hid hEO; replace hp3 := Lib.hid hp3; replace ho3 := Lib.hid ho3)
                | (go_at_call 30; (with_reducible refine (asks_any U (hE.gr gU) (hG _ (by decide)) R3 M3 w3 r0 a0 m0 hp3.out (hall.out w3 gx3)).mono ?_); rintro e w4 ⟨rfl, g4⟩; have hF1 := hE1.out.gr g4; have hF2 := hE2.out.gr g4; have hFO := hEO.out.gr g4; have fs := hF1.cell (i := 0) (v := .pointer (some ⟨r0, 0, none⟩)) rfl; have fm := hF2.cell (i := 0) (v := .pointer (some ⟨m0, 0, none⟩)) rfl; have f0 := hFO.cell (i := 0) (v := .int .i64 y.kd) rfl; have f1 := hFO.cell (i := 1) (v := .int .i64 y.wh) rfl; have f2 := hFO.cell (i := 2) (v := .int .i64 y.fr) rfl; have f3 := hFO.cell (i := 3) (v := .int .i64 y.b.r) rfl; have f4 := hFO.cell (i := 4) (v := .int .i64 y.b.n) rfl; have f5 := hFO.cell (i := 5) (v := .int .i64 y.acc.r) rfl; have f6 := hFO.cell (i := 6) (v := .int .i64 y.acc.n) rfl; have f7 := hFO.cell (i := 7) (v := .slice y.a y.L.length y.c) rfl; replace hF1 := Lib.hid hF1; replace hF2 := Lib.hid hF2; replace hFO := Lib.hid hFO)
                | fail)
            clear ds dm d0 d1 d2 d3 d4 d5 d6 d7 es em e0 e1 e2 e3 e4 e5 e6 e7 fs fm f0 f1 f2 f3 f4 f5 f6 f7
            go_wp2_with fail
            go_roundw
            case rel =>
              have hst := ((hTs.out.step hXX.out hp3.out gx3 ho3.out).gr g4)
              exact ⟨i + 1, by omega, by go_num, Lib.hid ⟨r0, a0, m0, R3, M3, r1, a1, m1, R1, M1, hF1.out, hF2.out, hst, by omega, by omega⟩⟩
            case measure => simp [intOf]; omega
          · have hTs := hTd.out.swap
            have hlo := hTs.lo
            have hnO : wr.heap.size ∉ pairT r1 a1 m1 M1 := fun hm => by have := (hT.out.swap).p.ltT hm; omega
            have hLy : LedM (fun b => b ∉ pairT r1 a1 m1 M1) wo.drew y.a y.L := (hyk.out.1.mono (fun b hb _ hm => by have := (hlo b hm).1; omega)).gr gWU
            have hKf : ∀ b, wo.drew.heap.size ≤ b → b ∉ pairT r0 a0 m0 M0 := fun b hb hm => by have := hTs.q.ltT hm; omega
            have hpl := play_any U (hE.gr gU) hG R1 M1 wo.drew r1 a1 m1 hTs.p hTs.g (hlo r1 (List.mem_cons_self ..)).1 (hlo a1 (List.mem_cons_of_mem _ (List.mem_cons_self ..))).1 hKf hb1.1 (by omega) y.kd y.wh y.fr y.b y.acc y.a y.c y.L hLy hyk.out.2
            have hs1 : w1.heap.size ∉ pairT r1 a1 m1 M1 := fun hm => (hlo _ hm).2 (by simp)
            have hs2 : w1.heap.size + 1 ∉ pairT r1 a1 m1 M1 := fun hm => (hlo _ hm).2 (by simp)
            have hall : ∀ w3, GrX (pairT r1 a1 m1 M1) wo.drew w3 → Gr U w3 := fun w3 gx => gx.all hTs.g (fun z hz => (hlo z hz).1)
            replace hpl := Lib.hid hpl
            replace hs1 := Lib.hid hs1
            replace hs2 := Lib.hid hs2
            replace hnO := Lib.hid hnO
            replace hall := Lib.hid hall
            replace hTs := Lib.hid hTs
            clear hLy hKf hlo
            have ds := hD1.cell (i := 1) (v := .pointer (some ⟨r1, 0, none⟩)) rfl
            have dm := hD2.cell (i := 1) (v := .pointer (some ⟨m1, 0, none⟩)) rfl
            have d0 := hOd.cell (i := 0) (v := .int .i64 y.kd) rfl
            have d1 := hOd.cell (i := 1) (v := .int .i64 y.wh) rfl
            have d2 := hOd.cell (i := 2) (v := .int .i64 y.fr) rfl
            have d3 := hOd.cell (i := 3) (v := .int .i64 y.b.r) rfl
            have d4 := hOd.cell (i := 4) (v := .int .i64 y.b.n) rfl
            have d5 := hOd.cell (i := 5) (v := .int .i64 y.acc.r) rfl
            have d6 := hOd.cell (i := 6) (v := .int .i64 y.acc.n) rfl
            have d7 := hOd.cell (i := 7) (v := .slice y.a y.L.length y.c) rfl
            replace hD1 := Lib.hid hD1
            replace hD2 := Lib.hid hD2
            replace hOd := Lib.hid hOd
            go_upto_region 26 with fail
            rw [← hwo.out]
            clear q0 q1 q2 q3 q4 q5 q6 q7
            go_region_held3 (fun w' => w'.cell? ⟨w1.heap.size, 1, none⟩ = some (.pointer (some ⟨r1, 0, none⟩)) ∧ w'.cell? ⟨w1.heap.size + 1, 1, none⟩ = some (.pointer (some ⟨m1, 0, none⟩)) ∧ w'.cell? ⟨wr.heap.size, 0, none⟩ = some (.int .i64 y.kd) ∧ w'.cell? ⟨wr.heap.size, 1, none⟩ = some (.int .i64 y.wh) ∧ w'.cell? ⟨wr.heap.size, 2, none⟩ = some (.int .i64 y.fr) ∧ w'.cell? ⟨wr.heap.size, 3, none⟩ = some (.int .i64 y.b.r) ∧ w'.cell? ⟨wr.heap.size, 4, none⟩ = some (.int .i64 y.b.n) ∧ w'.cell? ⟨wr.heap.size, 5, none⟩ = some (.int .i64 y.acc.r) ∧ w'.cell? ⟨wr.heap.size, 6, none⟩ = some (.int .i64 y.acc.n) ∧ w'.cell? ⟨wr.heap.size, 7, none⟩ = some (.slice y.a y.L.length y.c)) (simp (maxDischargeDepth := 8) [go_sem, *])
              (first
                | (go_at_call 29; (with_reducible refine hpl.out.mono ?_); rintro e w3 ⟨rfl, R3, M3, hp3, gx3, ho3, hn3, hn4⟩; have hE1 := hD1.out.grx gx3 hs1.out; have hE2 := hD2.out.grx gx3 hs2.out; have hEO := hOd.out.grx gx3 hnO.out; have es := hE1.cell (i := 1) (v := .pointer (some ⟨r1, 0, none⟩)) rfl; have em := hE2.cell (i := 1) (v := .pointer (some ⟨m1, 0, none⟩)) rfl; have e0 := hEO.cell (i := 0) (v := .int .i64 y.kd) rfl; have e1 := hEO.cell (i := 1) (v := .int .i64 y.wh) rfl; have e2 := hEO.cell (i := 2) (v := .int .i64 y.fr) rfl; have e3 := hEO.cell (i := 3) (v := .int .i64 y.b.r) rfl; have e4 := hEO.cell (i := 4) (v := .int .i64 y.b.n) rfl; have e5 := hEO.cell (i := 5) (v := .int .i64 y.acc.r) rfl; have e6 := hEO.cell (i := 6) (v := .int .i64 y.acc.n) rfl; have e7 := hEO.cell (i := 7) (v := .slice y.a y.L.length y.c) rfl; replace hE1 := Lib.hid hE1; replace hE2 := Lib.hid hE2; replace hEO := Lib.hid hEO; replace hp3 := Lib.hid hp3; replace ho3 := Lib.hid ho3)
                | (go_at_call 30; (with_reducible refine (asks_any U (hE.gr gU) (hG _ (by decide)) R3 M3 w3 r1 a1 m1 hp3.out (hall.out w3 gx3)).mono ?_); rintro e w4 ⟨rfl, g4⟩; have hF1 := hE1.out.gr g4; have hF2 := hE2.out.gr g4; have hFO := hEO.out.gr g4; have fs := hF1.cell (i := 1) (v := .pointer (some ⟨r1, 0, none⟩)) rfl; have fm := hF2.cell (i := 1) (v := .pointer (some ⟨m1, 0, none⟩)) rfl; have f0 := hFO.cell (i := 0) (v := .int .i64 y.kd) rfl; have f1 := hFO.cell (i := 1) (v := .int .i64 y.wh) rfl; have f2 := hFO.cell (i := 2) (v := .int .i64 y.fr) rfl; have f3 := hFO.cell (i := 3) (v := .int .i64 y.b.r) rfl; have f4 := hFO.cell (i := 4) (v := .int .i64 y.b.n) rfl; have f5 := hFO.cell (i := 5) (v := .int .i64 y.acc.r) rfl; have f6 := hFO.cell (i := 6) (v := .int .i64 y.acc.n) rfl; have f7 := hFO.cell (i := 7) (v := .slice y.a y.L.length y.c) rfl; replace hF1 := Lib.hid hF1; replace hF2 := Lib.hid hF2; replace hFO := Lib.hid hFO)
                | fail)
            clear ds dm d0 d1 d2 d3 d4 d5 d6 d7 es em e0 e1 e2 e3 e4 e5 e6 e7 fs fm f0 f1 f2 f3 f4 f5 f6 f7
            go_wp2_with fail
            go_roundw
            case rel =>
              have hst := ((hTs.out.step hXX.out hp3.out gx3 ho3.out).gr g4).swap
              exact ⟨i + 1, by omega, by go_num, Lib.hid ⟨r0, a0, m0, R0, M0, r1, a1, m1, R3, M3, hF1.out, hF2.out, hst, by omega, by omega⟩⟩
            case measure => simp [intOf]; omega
        · have ti : ¬ (i : Int) < S.length := by omega
          have ti2 : decide ((i : Int) < S.length) = false := decide_eq_false ti
          clear hB1 hB2 hT hb0 hb1
          go_wp2_with fail
          go_ret
          exact ⟨rfl, gU.trans hgT⟩
end Go.Proofs.YtblfljpmkgmjaaaDoor
