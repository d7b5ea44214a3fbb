/- RoundHalves: the walk. -/
import Derived.Test.YtblfljpmkgmjaaaDoorG23
namespace Go.Proofs.YtblfljpmkgmjaaaDoor
open Go.RowKit

theorem from_ok (d : Int) (N : Nat) (h : 1 ≤ N) : ∃ f : Nat, (d.tmod N + N).tmod N = (f : Int) ∧ f < N := by
  have t1 : -(N : Int) < d.tmod N := by have := Int.lt_tmod_of_pos d (b := (N : Int)) (by omega); omega
  have h1 : 0 ≤ (d.tmod N + N).tmod N := Int.tmod_nonneg _ (by omega)
  have h2 : (d.tmod N + N).tmod N < N := Int.tmod_lt_of_pos _ (by omega)
  exact ⟨((d.tmod N + N).tmod N).toNat, by omega, by omega⟩

set_option maxRecDepth 100000 in
set_option maxHeartbeats 6400000 in
theorem roundHalves_in {G : List Nat} {E : Nat → Addr} (W : World) (hE : EAt G E W) (i0 : 0 ∈ G) (i6 : 6 ∈ G) (i8 : 8 ∈ G) (nodes : Int) (x : EntM) (hx : x.ok Any W) (hf : entF x.e = true) (aO : Option Addr) (cO : Nat) (O : List Int) (hO : RecsIn Any 1 intR W aO O) (mO : O.length ≤ 200) :
    Calls Tryd.prog 4 #[.int .i64 nodes, .agg #[.int .i64 x.e.cl, .int .i64 x.e.nu, .int .i64 x.e.kd, .int .i64 x.e.id, .int .i64 x.e.srv.k, .int .i64 x.e.srv.q, .int .i64 x.e.srv.t, .int .i64 x.e.po, .slice x.a x.e.tasks.length x.c, .int .i64 x.e.at_], .slice aO O.length cO] W fun e w' => e = .returned (.bool true) ∧ Gr W w' := by
  obtain ⟨N, hN, n1, n7⟩ := nodes7 nodes
  have gw := (Gr.refl W).alloc x.obj
  have hal := alive19_any _ (hE.gr gw) i6 i8
  have hif := fun w (g : Gr W w) => inForm_any x.e x.a x.c w (hx.gr g)
  have hnew := fun w (g : Gr W w) => new_any N x false w (hx.gr g) n1 n7 (fun _ => by
    have := check_any x (w.alloc x.obj) ((hx.gr g).gr ((Gr.refl w).alloc _)) ((hE.gr g).gr ((Gr.refl w).alloc _)) i0
    rw [hf] at this
    exact this)
  rw [hf] at hif
  have b1 : -7 < nodes.tmod 7 := Int.lt_tmod_of_pos nodes (by decide)
  have b2 : nodes.tmod 7 < 7 := Int.tmod_lt_of_pos nodes (by decide)
  replace hal := Lib.hid hal
  replace hif := Lib.hid hif
  replace hnew := Lib.hid hnew
  replace hf := Lib.hid hf
  go_enter Tryd.func4, Tryd.ntmps4
  go_wp2_with fail
  refine (hal.out).mono ?_
  rintro e w1 ⟨rfl, g1⟩
  obtain ⟨c1, f1, s1⟩ := g1.cells
  try simp only [size_drewN] at c1 f1 s1
  try simp only [World.size_alloc] at c1 f1 s1
  try simp only [World.size_drew] at c1 f1 s1
  try simp only [World.size_setCell] at c1 f1 s1
  have z10 : W.heap.size < w1.heap.size := by omega
  have y10 : W.heap.size ≤ w1.heap.size := by omega
  have k10 := fun o => c1 (W.heap.size) o (by omega)
  have j10 := fun o => f1 (W.heap.size) o (by omega)
  go_wp2_with fail
  refine (hif.out _ (gw.trans g1)).mono ?_
  rintro e w2 ⟨rfl, g2⟩
  obtain ⟨c2, f2, s2⟩ := g2.cells
  have z20 : W.heap.size < w2.heap.size := by omega
  have k20 := fun o => c2 W.heap.size o (by omega)
  have gw2 : Gr W w2 := (gw.trans g1).trans g2
  clear c2 f2
  go_wp2_with fail
  refine (hnew.out w2 gw2).mono ?_
  rintro e w3 ⟨rb, ab, R, rfl, hr, hv, m1, m2, g3⟩
  have hs : Stand Any W w3 rb ab R := ⟨hr.mono (fun _ _ _ => trivial), gw2.trans g3, Nat.le_trans gw2.size m1, Nat.le_trans gw2.size m2⟩
  have hsb := hs.gr ((Gr.refl w3).alloc (.cells #[.int .i64 3, .int .i64 1] 39))
  have hB9 := Blk.new w3 #[.int .i64 3, .int .i64 1] 39
  have hX := ((((Blk.new W x.cells.toArray 36).gr g1).gr g2).gr g3).alloc (.cells #[.int .i64 3, .int .i64 1] 39)
  have zr := hr.o.lt
  have za := hr.b.lt
  have zx := hX.lt
  have nB : w3.heap.size ∉ [rb, ab] := by simp; omega
  have nX : W.heap.size ∉ [rb, ab] := by have := g1.size; simp at *; omega
  have hbeg := begin_st hsb hb3 (by rw [hv]; exact (by decide : (0 : Int) < 3)) (by decide) (by rw [hv]; exact (by decide : aboveB hb3 ⟨0, 0⟩ = true)) (by rw [hv]; exact (by decide : (0 : Int) ≤ 0)) (by rw [hv]; exact (by decide : (0 : Int) < 4611686018427387904))
  rw [hv, h_begin] at hbeg
  replace hbeg := Lib.hid hbeg
  replace hB9 := Lib.hid hB9
  replace hX := Lib.hid hX
  replace nB := Lib.hid nB
  replace nX := Lib.hid nX
  clear hs hsb hr hv m1 m2 g3 c1 f1 s1 s2 gw2 g1 g2 hal hif hnew
  go_wp2_with fail
  refine hbeg.out.mono ?_
  rintro e w4 ⟨rfl, R4, hs4, hv4, g4⟩
  have hB4 := hB9.out.grx g4 nB.out
  have hX4 := hX.out.grx g4 nX.out
  replace hB4 := Lib.hid hB4
  replace hX4 := Lib.hid hX4
  replace hv4 := Lib.hid hv4
  clear hbeg g4 hB9 hX
  go_wp2_with fail
  have hmk := run_make_row' (P := Tryd.prog) 52 4 (.bool false) 1 Tryd.underlying52 Tryd.infoBoo rfl .i64 .i64 N (by omega) (by omega)
  rw [made_false] at hmk
  go_loopw [10] (fun sv wr => ∃ (s : Nat) (R' : Rnd), sv = .int .i64 s ∧ 1 ≤ s ∧ s ≤ 3 ∧ OutV N x.e s R'.v ∧ Stand Any W wr rb ab R' ∧ Blk wr w3.heap.size #[.int .i64 3, .int .i64 1] 39 ∧ Blk wr W.heap.size x.cells.toArray 36) (fun sv _ => 3 - (intOf sv).toNat)
  case atStart => exact ⟨1, R4, rfl, by omega, by omega, .inl ⟨.inl rfl, hv4.out⟩, hs4, hB4.out, hX4.out⟩
  case round =>
    obtain ⟨s, R', rfl, q1, q3, hov, hsd, hB, hX⟩ := hrel
    by_cases hs2 : s ≤ 2
    · obtain ⟨wo, rfl⟩ : ∃ wo, wo = wr := ⟨wr, rfl⟩
      have hs12 : s = 1 ∨ s = 2 := by omega
      have d2 : decide ((s : Int) ≤ 2) = true := decide_eq_true (by omega)
      have hv : R'.v = hst N x.e s (List.replicate N false) := by
        rcases hov with h | h
        · exact h.2
        · omega
      have z1 := hsd.r.o.lt
      have z2 := hsd.r.b.lt
      have z3 := hB.lt
      have z4 := hX.lt
      have zrb := hsd.hr
      have zab := hsd.ha
      have zg := hsd.g.size
      have hsd2 := (hsd.mono (K0' := fun b => b ≠ wo.heap.size) (fun b hb _ => by omega)).gr ((Gr.refl wo).alloc (.cells (Array.replicate N (.bool false)) 4))
      have hS : Blk (wo.alloc (.cells (Array.replicate N (.bool false)) 4)) wo.heap.size ((List.replicate N false).map Value.bool).toArray 4 := by
        have := Blk.new wo (Array.replicate N (.bool false)) 4
        simpa using this
      have hB2 := hB.alloc (.cells (Array.replicate N (.bool false)) 4)
      have hX2 := hX.alloc (.cells (Array.replicate N (.bool false)) 4)
      replace hv := Lib.hid hv
      replace hS := Lib.hid hS
      replace hB2 := Lib.hid hB2
      replace hX2 := Lib.hid hX2
      clear hsd hB hX hov
      go_wp2_with fail
      go_loopw [13, 12] (fun iv nv wr => ∃ (i : Nat) (S : List Bool) (R2 : Rnd), i ≤ O.length + N ∧ iv = .int .i64 i ∧ nv = .int .i64 (S.count true : Nat) ∧ S.length = N ∧ Blk wr wo.heap.size (S.map Value.bool).toArray 4 ∧ Stand (fun b => b ≠ wo.heap.size) W wr rb ab R2 ∧ R2.v = hst N x.e s S ∧ Blk wr w3.heap.size #[.int .i64 3, .int .i64 1] 39 ∧ Blk wr W.heap.size x.cells.toArray 36 ∧ ∀ j, O.length + j < i → S[j]? = some true) (fun iv _ _ => O.length + N - (intOf iv).toNat)
      case atStart => exact ⟨0, List.replicate N false, R', by omega, rfl, by rw [count_no]; rfl, by simp, hS.out, hsd2, hv.out, hB2.out, hX2.out, fun j hj => absurd hj (by omega)⟩
      case round =>
        --BEGIN
        obtain ⟨i, S, R2, hi, rfl, rfl, hSl, hS, hsd, hv, hB, hX, hall⟩ := hrel
        have z1 := hsd.r.o.lt
        have z2 := hsd.r.b.lt
        have z3 := hB.lt
        have z4 := hX.lt
        have z5 := hS.lt
        have zg := hsd.g.size
        have cb0 : wr.cell? ⟨w3.heap.size, 0, none⟩ = some (.int .i64 3) := hB.cell rfl
        have cb1 : wr.cell? ⟨w3.heap.size, 1, none⟩ = some (.int .i64 1) := hB.cell rfl
        have hcl : S.count true ≤ N := by rw [← hSl]; exact List.count_le_length
        have nS : wo.heap.size ∉ [rb, ab] := by simp; omega
        replace hv := Lib.hid hv
        replace hall := Lib.hid hall
        replace hS := Lib.hid hS
        by_cases hlt : i < O.length + N
        · by_cases hA : i < O.length
          · obtain ⟨d, hd⟩ := get_some O i hA
            obtain ⟨bO, oO, rfl, hbO, hcO⟩ := (hO.grx (T := []) (hsd.g.x []) (fun _ h => by cases h)).1 i d hd
            have g0 : wr.cell? ⟨bO, oO + i, none⟩ = some (.int .i64 d) := by have := hcO 0 _ rfl; simpa using this
            have t1 : -(N : Int) < d.tmod N := by have := Int.lt_tmod_of_pos d (b := (N : Int)) (by omega); omega
            have t2 : d.tmod N < N := Int.tmod_lt_of_pos d (by omega)
            obtain ⟨f, hfr, hfN⟩ : ∃ f : Nat, (d.tmod N + N).tmod N = (f : Int) ∧ f < N := from_ok d N n1
            have hfr2 : (d.tmod N + N) % (N : Int) = (f : Int) := by rw [← Int.tmod_eq_emod_of_nonneg (by omega)]; exact hfr
            obtain ⟨v, hfv⟩ := get_some S f (by omega)
            clear hcO
            replace hd := Lib.hid hd
            by_cases hm : N < 2 * S.count true
            · replace hm := Lib.hid hm
              have hm2 : (N : Int) < 2 * (S.count true : Nat) := by have := hm.out; omega
              go_wp2_with fail
              go_roundw
              case rel => exact ⟨s + 1, R2, by go_num, by omega, by omega, by rw [hv.out]; exact out_next hm.out hs12, hsd.mono (fun _ _ _ => trivial), hB, hX⟩
              case measure => simp [intOf]; omega
            · have hm2 : 2 * ((S.count true : Nat) : Int) ≤ N := by omega
              have hst1 : R2.st = (s : Int) := by rw [show R2.st = R2.v.st from rfl, hv.out, h_low hm]
              have hstg := stage_any R2 wr rb ab hsd.r
              rw [hst1] at hstg
              replace hstg := Lib.hid hstg
              replace hst1 := Lib.hid hst1
              by_cases hs1 : s = 1
              · have e1 : ((s : Int) == 1) = true := by rw [hs1]; rfl
                replace hs1 := Lib.hid hs1
                have hp := promise_nil hE i6 i8 (fun b hb => by omega) hsd (f : Int) hb3
                rw [hv.out, hs1.out, h_promise hm hSl hfv] at hp
                cases v with
                | true =>
                  replace hp := Lib.hid hp
                  replace hfv := Lib.hid hfv
                  go_wp2_with fail
                  refine hstg.out.mono ?_
                  rintro e wh ⟨rfl, rfl⟩
                  go_wp2_with fail
                  refine hp.out.mono ?_
                  rintro e w7 ⟨rfl, R7, hs7, hv7, g7⟩
                  have hS7 := hS.out.grx g7 nS
                  have hB7 := hB.grx g7 nB.out
                  have hX7 := hX.grx g7 nX.out
                  have cs7 : w7.cell? ⟨wo.heap.size, f, none⟩ = some (.bool true) := hS7.cell (by simp [hfv.out])
                  rw [set_same hfv.out] at hv7
                  replace hS7 := Lib.hid hS7
                  replace hv7 := Lib.hid hv7
                  clear g7
                  go_wp2_with fail
                  go_roundw
                  case rel => exact ⟨i + 1, S, R7, by omega, by go_num, rfl, hSl, hS7.out, hs7, by rw [hv7.out, hs1.out], hB7, hX7, fun j hj => absurd hj (by omega)⟩
                  case measure => simp [intOf]; omega
                | false =>
                  replace hp := Lib.hid hp
                  have hcs := count_set hfv
                  have hcl2 : S.count true < N := by
                    have h1 : (S.set f true).count true ≤ (S.set f true).length := List.count_le_length
                    rw [List.length_set] at h1
                    omega
                  replace hcs := Lib.hid hcs
                  replace hfv := Lib.hid hfv
                  go_wp2_with fail
                  refine hstg.out.mono ?_
                  rintro e wh ⟨rfl, rfl⟩
                  go_wp2_with fail
                  refine hp.out.mono ?_
                  rintro e w7 ⟨rfl, R7, hs7, hv7, g7⟩
                  have hS7 := hS.out.grx g7 nS
                  have hB7 := hB.grx g7 nB.out
                  have hX7 := hX.grx g7 nX.out
                  have cs7 : w7.cell? ⟨wo.heap.size, f, none⟩ = some (.bool false) := hS7.cell (by simp [hfv.out])
                  have fs7 := fun o => hS7.free o
                  have zs7 := hS7.lt
                  have gset : GrX [wo.heap.size] w7 (w7.setCell ⟨wo.heap.size, f, none⟩ (.bool true)) := (GrX.refl _ w7).set (.inl (by simp)) _
                  have hS8 := hS7.set f (.bool true)
                  have hS9 : Blk (w7.setCell ⟨wo.heap.size, f, none⟩ (.bool true)) wo.heap.size ((S.set f true).map Value.bool).toArray 4 := by simpa using hS8
                  have hs9 : Stand (fun b => b ≠ wo.heap.size) W (w7.setCell ⟨wo.heap.size, f, none⟩ (.bool true)) rb ab R7 := ⟨hs7.r.far gset (by simp; omega) (by simp; omega) (by intro y hy hk; simp at hy; omega), GrX.all hs7.g gset (by intro y hy; simp at hy; omega), hs7.hr, hs7.ha⟩
                  have hB9 := hB7.grx gset (by simp; omega)
                  have hX9 := hX7.grx gset (by simp; omega)
                  replace hS9 := Lib.hid hS9
                  replace hv7 := Lib.hid hv7
                  replace hs9 := Lib.hid hs9
                  replace hB9 := Lib.hid hB9
                  replace hX9 := Lib.hid hX9
                  clear g7 gset hS7 hS8 hB7 hX7
                  go_wp2_with fail
                  go_roundw
                  case rel => exact ⟨i + 1, S.set f true, R7, by omega, by go_num, by rw [hcs.out]; go_num, by rw [List.length_set]; exact hSl, hS9.out, hs9.out, by rw [hv7.out, hs1.out], hB9.out, hX9.out, fun j hj => absurd hj (by omega)⟩
                  case measure => simp [intOf]; omega
              · have e1 : ((s : Int) == 1) = false := by simpa using fun h => hs1 (by omega)
                have hs1 : s = 2 := by omega
                replace hs1 := Lib.hid hs1
                have hp := accepted_st hsd (f : Int) hb3
                rw [hv.out, hs1.out, h_accept hm hSl hfv] at hp
                cases v with
                | true =>
                  replace hp := Lib.hid hp
                  replace hfv := Lib.hid hfv
                  go_wp2_with fail
                  refine hstg.out.mono ?_
                  rintro e wh ⟨rfl, rfl⟩
                  go_wp2_with fail
                  refine hp.out.mono ?_
                  rintro e w7 ⟨rfl, R7, hs7, hv7, g7⟩
                  have hS7 := hS.out.grx g7 nS
                  have hB7 := hB.grx g7 nB.out
                  have hX7 := hX.grx g7 nX.out
                  have cs7 : w7.cell? ⟨wo.heap.size, f, none⟩ = some (.bool true) := hS7.cell (by simp [hfv.out])
                  rw [set_same hfv.out] at hv7
                  replace hS7 := Lib.hid hS7
                  replace hv7 := Lib.hid hv7
                  clear g7
                  go_wp2_with fail
                  go_roundw
                  case rel => exact ⟨i + 1, S, R7, by omega, by go_num, rfl, hSl, hS7.out, hs7, by rw [hv7.out, hs1.out], hB7, hX7, fun j hj => absurd hj (by omega)⟩
                  case measure => simp [intOf]; omega
                | false =>
                  replace hp := Lib.hid hp
                  have hcs := count_set hfv
                  have hcl2 : S.count true < N := by
                    have h1 : (S.set f true).count true ≤ (S.set f true).length := List.count_le_length
                    rw [List.length_set] at h1
                    omega
                  replace hcs := Lib.hid hcs
                  replace hfv := Lib.hid hfv
                  go_wp2_with fail
                  refine hstg.out.mono ?_
                  rintro e wh ⟨rfl, rfl⟩
                  go_wp2_with fail
                  refine hp.out.mono ?_
                  rintro e w7 ⟨rfl, R7, hs7, hv7, g7⟩
                  have hS7 := hS.out.grx g7 nS
                  have hB7 := hB.grx g7 nB.out
                  have hX7 := hX.grx g7 nX.out
                  have cs7 : w7.cell? ⟨wo.heap.size, f, none⟩ = some (.bool false) := hS7.cell (by simp [hfv.out])
                  have fs7 := fun o => hS7.free o
                  have zs7 := hS7.lt
                  have gset : GrX [wo.heap.size] w7 (w7.setCell ⟨wo.heap.size, f, none⟩ (.bool true)) := (GrX.refl _ w7).set (.inl (by simp)) _
                  have hS8 := hS7.set f (.bool true)
                  have hS9 : Blk (w7.setCell ⟨wo.heap.size, f, none⟩ (.bool true)) wo.heap.size ((S.set f true).map Value.bool).toArray 4 := by simpa using hS8
                  have hs9 : Stand (fun b => b ≠ wo.heap.size) W (w7.setCell ⟨wo.heap.size, f, none⟩ (.bool true)) rb ab R7 := ⟨hs7.r.far gset (by simp; omega) (by simp; omega) (by intro y hy hk; simp at hy; omega), GrX.all hs7.g gset (by intro y hy; simp at hy; omega), hs7.hr, hs7.ha⟩
                  have hB9 := hB7.grx gset (by simp; omega)
                  have hX9 := hX7.grx gset (by simp; omega)
                  replace hS9 := Lib.hid hS9
                  replace hv7 := Lib.hid hv7
                  replace hs9 := Lib.hid hs9
                  replace hB9 := Lib.hid hB9
                  replace hX9 := Lib.hid hX9
                  clear g7 gset hS7 hS8 hB7 hX7
                  go_wp2_with fail
                  go_roundw
                  case rel => exact ⟨i + 1, S.set f true, R7, by omega, by go_num, by rw [hcs.out]; go_num, by rw [List.length_set]; exact hSl, hS9.out, hs9.out, by rw [hv7.out, hs1.out], hB9.out, hX9.out, fun j hj => absurd hj (by omega)⟩
                  case measure => simp [intOf]; omega
          · obtain ⟨f, hfi⟩ : ∃ f, i = O.length + f := ⟨i - O.length, by omega⟩
            have hfN : f < N := by omega
            obtain ⟨v, hfv⟩ := get_some S f (by omega)
            have hfx : (i : Int) - (O.length : Int) = (f : Int) := by omega
            replace hfi := Lib.hid hfi
            by_cases hm : N < 2 * S.count true
            · replace hm := Lib.hid hm
              have hm2 : (N : Int) < 2 * (S.count true : Nat) := by have := hm.out; omega
              go_wp2_with fail
              go_roundw
              case rel => exact ⟨s + 1, R2, by go_num, by omega, by omega, by rw [hv.out]; exact out_next hm.out hs12, hsd.mono (fun _ _ _ => trivial), hB, hX⟩
              case measure => simp [intOf]; omega
            · have hm2 : 2 * ((S.count true : Nat) : Int) ≤ N := by omega
              have hst1 : R2.st = (s : Int) := by rw [show R2.st = R2.v.st from rfl, hv.out, h_low hm]
              have hstg := stage_any R2 wr rb ab hsd.r
              rw [hst1] at hstg
              replace hstg := Lib.hid hstg
              replace hst1 := Lib.hid hst1
              by_cases hs1 : s = 1
              · have e1 : ((s : Int) == 1) = true := by rw [hs1]; rfl
                replace hs1 := Lib.hid hs1
                have hp := promise_nil hE i6 i8 (fun b hb => by omega) hsd (f : Int) hb3
                rw [hv.out, hs1.out, h_promise hm hSl hfv] at hp
                cases v with
                | true =>
                  replace hp := Lib.hid hp
                  replace hfv := Lib.hid hfv
                  go_wp2_with fail
                  refine hstg.out.mono ?_
                  rintro e wh ⟨rfl, rfl⟩
                  go_wp2_with fail
                  refine hp.out.mono ?_
                  rintro e w7 ⟨rfl, R7, hs7, hv7, g7⟩
                  have hS7 := hS.out.grx g7 nS
                  have hB7 := hB.grx g7 nB.out
                  have hX7 := hX.grx g7 nX.out
                  have cs7 : w7.cell? ⟨wo.heap.size, f, none⟩ = some (.bool true) := hS7.cell (by simp [hfv.out])
                  rw [set_same hfv.out] at hv7
                  replace hS7 := Lib.hid hS7
                  replace hv7 := Lib.hid hv7
                  clear g7
                  go_wp2_with fail
                  go_roundw
                  case rel => exact ⟨i + 1, S, R7, by omega, by go_num, rfl, hSl, hS7.out, hs7, by rw [hv7.out, hs1.out], hB7, hX7, fun j hj => by
                          have hi' := hfi.out
                          by_cases hjf : j = f
                          · rw [hjf]; exact hfv.out
                          · exact hall.out j (by omega)⟩
                  case measure => simp [intOf]; omega
                | false =>
                  replace hp := Lib.hid hp
                  have hcs := count_set hfv
                  have hcl2 : S.count true < N := by
                    have h1 : (S.set f true).count true ≤ (S.set f true).length := List.count_le_length
                    rw [List.length_set] at h1
                    omega
                  replace hcs := Lib.hid hcs
                  replace hfv := Lib.hid hfv
                  go_wp2_with fail
                  refine hstg.out.mono ?_
                  rintro e wh ⟨rfl, rfl⟩
                  go_wp2_with fail
                  refine hp.out.mono ?_
                  rintro e w7 ⟨rfl, R7, hs7, hv7, g7⟩
                  have hS7 := hS.out.grx g7 nS
                  have hB7 := hB.grx g7 nB.out
                  have hX7 := hX.grx g7 nX.out
                  have cs7 : w7.cell? ⟨wo.heap.size, f, none⟩ = some (.bool false) := hS7.cell (by simp [hfv.out])
                  have fs7 := fun o => hS7.free o
                  have zs7 := hS7.lt
                  have gset : GrX [wo.heap.size] w7 (w7.setCell ⟨wo.heap.size, f, none⟩ (.bool true)) := (GrX.refl _ w7).set (.inl (by simp)) _
                  have hS8 := hS7.set f (.bool true)
                  have hS9 : Blk (w7.setCell ⟨wo.heap.size, f, none⟩ (.bool true)) wo.heap.size ((S.set f true).map Value.bool).toArray 4 := by simpa using hS8
                  have hs9 : Stand (fun b => b ≠ wo.heap.size) W (w7.setCell ⟨wo.heap.size, f, none⟩ (.bool true)) rb ab R7 := ⟨hs7.r.far gset (by simp; omega) (by simp; omega) (by intro y hy hk; simp at hy; omega), GrX.all hs7.g gset (by intro y hy; simp at hy; omega), hs7.hr, hs7.ha⟩
                  have hB9 := hB7.grx gset (by simp; omega)
                  have hX9 := hX7.grx gset (by simp; omega)
                  replace hS9 := Lib.hid hS9
                  replace hv7 := Lib.hid hv7
                  replace hs9 := Lib.hid hs9
                  replace hB9 := Lib.hid hB9
                  replace hX9 := Lib.hid hX9
                  clear g7 gset hS7 hS8 hB7 hX7
                  go_wp2_with fail
                  go_roundw
                  case rel => exact ⟨i + 1, S.set f true, R7, by omega, by go_num, by rw [hcs.out]; go_num, by rw [List.length_set]; exact hSl, hS9.out, hs9.out, by rw [hv7.out, hs1.out], hB9.out, hX9.out, fun j hj => by
                          have hi' := hfi.out
                          by_cases hjf : j = f
                          · rw [hjf, List.getElem?_set_self (by omega)]
                          · rw [List.getElem?_set_ne (by omega)]; exact hall.out j (by omega)⟩
                  case measure => simp [intOf]; omega
              · have e1 : ((s : Int) == 1) = false := by simpa using fun h => hs1 (by omega)
                have hs1 : s = 2 := by omega
                replace hs1 := Lib.hid hs1
                have hp := accepted_st hsd (f : Int) hb3
                rw [hv.out, hs1.out, h_accept hm hSl hfv] at hp
                cases v with
                | true =>
                  replace hp := Lib.hid hp
                  replace hfv := Lib.hid hfv
                  go_wp2_with fail
                  refine hstg.out.mono ?_
                  rintro e wh ⟨rfl, rfl⟩
                  go_wp2_with fail
                  refine hp.out.mono ?_
                  rintro e w7 ⟨rfl, R7, hs7, hv7, g7⟩
                  have hS7 := hS.out.grx g7 nS
                  have hB7 := hB.grx g7 nB.out
                  have hX7 := hX.grx g7 nX.out
                  have cs7 : w7.cell? ⟨wo.heap.size, f, none⟩ = some (.bool true) := hS7.cell (by simp [hfv.out])
                  rw [set_same hfv.out] at hv7
                  replace hS7 := Lib.hid hS7
                  replace hv7 := Lib.hid hv7
                  clear g7
                  go_wp2_with fail
                  go_roundw
                  case rel => exact ⟨i + 1, S, R7, by omega, by go_num, rfl, hSl, hS7.out, hs7, by rw [hv7.out, hs1.out], hB7, hX7, fun j hj => by
                          have hi' := hfi.out
                          by_cases hjf : j = f
                          · rw [hjf]; exact hfv.out
                          · exact hall.out j (by omega)⟩
                  case measure => simp [intOf]; omega
                | false =>
                  replace hp := Lib.hid hp
                  have hcs := count_set hfv
                  have hcl2 : S.count true < N := by
                    have h1 : (S.set f true).count true ≤ (S.set f true).length := List.count_le_length
                    rw [List.length_set] at h1
                    omega
                  replace hcs := Lib.hid hcs
                  replace hfv := Lib.hid hfv
                  go_wp2_with fail
                  refine hstg.out.mono ?_
                  rintro e wh ⟨rfl, rfl⟩
                  go_wp2_with fail
                  refine hp.out.mono ?_
                  rintro e w7 ⟨rfl, R7, hs7, hv7, g7⟩
                  have hS7 := hS.out.grx g7 nS
                  have hB7 := hB.grx g7 nB.out
                  have hX7 := hX.grx g7 nX.out
                  have cs7 : w7.cell? ⟨wo.heap.size, f, none⟩ = some (.bool false) := hS7.cell (by simp [hfv.out])
                  have fs7 := fun o => hS7.free o
                  have zs7 := hS7.lt
                  have gset : GrX [wo.heap.size] w7 (w7.setCell ⟨wo.heap.size, f, none⟩ (.bool true)) := (GrX.refl _ w7).set (.inl (by simp)) _
                  have hS8 := hS7.set f (.bool true)
                  have hS9 : Blk (w7.setCell ⟨wo.heap.size, f, none⟩ (.bool true)) wo.heap.size ((S.set f true).map Value.bool).toArray 4 := by simpa using hS8
                  have hs9 : Stand (fun b => b ≠ wo.heap.size) W (w7.setCell ⟨wo.heap.size, f, none⟩ (.bool true)) rb ab R7 := ⟨hs7.r.far gset (by simp; omega) (by simp; omega) (by intro y hy hk; simp at hy; omega), GrX.all hs7.g gset (by intro y hy; simp at hy; omega), hs7.hr, hs7.ha⟩
                  have hB9 := hB7.grx gset (by simp; omega)
                  have hX9 := hX7.grx gset (by simp; omega)
                  replace hS9 := Lib.hid hS9
                  replace hv7 := Lib.hid hv7
                  replace hs9 := Lib.hid hs9
                  replace hB9 := Lib.hid hB9
                  replace hX9 := Lib.hid hX9
                  clear g7 gset hS7 hS8 hB7 hX7
                  go_wp2_with fail
                  go_roundw
                  case rel => exact ⟨i + 1, S.set f true, R7, by omega, by go_num, by rw [hcs.out]; go_num, by rw [List.length_set]; exact hSl, hS9.out, hs9.out, by rw [hv7.out, hs1.out], hB9.out, hX9.out, fun j hj => by
                          have hi' := hfi.out
                          by_cases hjf : j = f
                          · rw [hjf, List.getElem?_set_self (by omega)]
                          · rw [List.getElem?_set_ne (by omega)]; exact hall.out j (by omega)⟩
                  case measure => simp [intOf]; omega
        · have hfull : N < 2 * S.count true := by
            have := all_true hSl (fun j hj => hall.out j (by omega))
            omega
          replace hfull := Lib.hid hfull
          go_wp2_with fail
          go_roundw
          case rel => exact ⟨s + 1, R2, by go_num, by omega, by omega, by rw [hv.out]; exact out_next hfull.out hs12, hsd.mono (fun _ _ _ => trivial), hB, hX⟩
          case measure => simp [intOf]; omega
      --END
    · have hs3 : s = 3 := by omega
      have d2 : decide ((s : Int) ≤ 2) = false := decide_eq_false (by omega)
      obtain ⟨S, hv⟩ : ∃ S, R'.v = ⟨S, x.e, false, hb3, 3, ⟨0, 0⟩, [x.e], 1⟩ := by
        rcases hov with h | h
        · omega
        · exact h.2
      have hled := ledger_any R' wr rb ab hsd.r
      rw [hv, show (⟨S, x.e, false, hb3, 3, ⟨0, 0⟩, [x.e], 1⟩ : RndV).ledger = [x.e] from rfl] at hled
      have hstg := fun w (g : Gr wr w) => stage_any R' w rb ab (hsd.r.gr g)
      rw [show R'.st = 3 by rw [show R'.st = R'.v.st from rfl, hv]] at hstg
      have hpl := fun w (g : Gr wr w) => place19_any W hE i6 R' w rb ab (hsd.r.gr g) (hsd.g.trans g)
      rw [hv, out_place] at hpl
      replace hled := Lib.hid hled
      replace hstg := Lib.hid hstg
      replace hpl := Lib.hid hpl
      replace hv := Lib.hid hv
      replace hs3 := Lib.hid hs3
      go_wp2_with fail
      refine hled.out.mono ?_
      rintro e w5 ⟨a5, c5, L5, rfl, m5, l5, n5, p5, q5, g5⟩
      obtain ⟨y, rfl⟩ : ∃ y, L5 = [y] := List.length_eq_one_iff.1 (by simpa using congrArg List.length m5)
      obtain ⟨ye, ya, yc⟩ := y
      obtain rfl : ye = x.e := by simpa using m5
      obtain ⟨b, off, rfl, hb, _, d0, d1, d2', d3, d4, d5, d6, d7, d8, d9⟩ := l5.get (i := 0) rfl
      simp only [Nat.zero_mul, Nat.add_zero] at d0 d1 d2' d3 d4 d5 d6 d7 d8 d9
      have oy : (⟨x.e, ya, yc⟩ : EntM).ok Any w5 := (l5.any.2 _ (List.mem_singleton.2 rfl))
      have gW5 : Gr W w5 := hsd.g.trans g5
      have ox := hx.gr gW5
      have hX5 := hX.gr g5
      have q0 := GrW.cell d0
      have q1 := GrW.cell d1
      have q2 := GrW.cell d2'
      have q3 := GrW.cell d3
      have q4 := GrW.cell d4
      have q5 := GrW.cell d5
      have q6 := GrW.cell d6
      have q7 := GrW.cell d7
      have q8 := GrW.cell d8
      have q9 := GrW.cell d9
      have p0 := GrW.cell (hX5.cell (i := 0) rfl)
      have p1 := GrW.cell (hX5.cell (i := 1) rfl)
      have p2 := GrW.cell (hX5.cell (i := 2) rfl)
      have p3 := GrW.cell (hX5.cell (i := 3) rfl)
      have p4 := GrW.cell (hX5.cell (i := 4) rfl)
      have p5 := GrW.cell (hX5.cell (i := 5) rfl)
      have p6 := GrW.cell (hX5.cell (i := 6) rfl)
      have p7 := GrW.cell (hX5.cell (i := 7) rfl)
      have p8 := GrW.cell (hX5.cell (i := 8) rfl)
      have p9 := GrW.cell (hX5.cell (i := 9) rfl)
      have hsm := fun (w' : World) h1 h2 => same_eq x.e ya x.a yc x.c w' h1 h2
      replace hsm := Lib.hid hsm
      clear m5 l5 hX5 hX hB hled
      replace gW5 := Lib.hid gW5
      go_wp2_with fail
      refine wp_region_grows (by kernel_rfl) (by kernel_rfl) ?_
      repeat (any_goals (first | go_big_quiet_step (first | (exact Calls.grows_same (hstg.out _ (g5.trans (by exact GrW.gr _)))) | (exact Calls.grows (hsm.out _ (oy.gr (by exact GrW.gr _)) (ox.gr (by exact GrW.gr _)))) | (exact Calls.grows (hpl.out _ (g5.trans (by exact GrW.gr _))))) | quiet_step (first | (exact Calls.grows_same (hstg.out _ (g5.trans (by exact GrW.gr _)))) | (exact Calls.grows (hsm.out _ (oy.gr (by exact GrW.gr _)) (ox.gr (by exact GrW.gr _)))) | (exact Calls.grows (hpl.out _ (g5.trans (by exact GrW.gr _)))))))
      refine wpQuiet_nil ?_
      intro wp hwq
      have gp := GrW.of hwq
      clear hwq
      obtain ⟨cp, fp, sp⟩ := gp.cells
      try simp only [size_drewN] at cp fp sp
      try simp only [World.size_alloc] at cp fp sp
      try simp only [World.size_drew] at cp fp sp
      try simp only [World.size_setCell] at cp fp sp
      clear q0 q1 q2 q3 q4 q5 q6 q7 q8 q9 p0 p1 p2 p3 p4 p5 p6 p7 p8 p9
      go_wp2_with fail
      go_ret
      exact ⟨rfl, gW5.out.trans gp⟩

set_option maxRecDepth 100000 in
set_option maxHeartbeats 6400000 in
theorem roundHalves_any {G : List Nat} {E : Nat → Addr} (W : World) (hE : EAt G E W) (i0 : 0 ∈ G) (i6 : 6 ∈ G) (i8 : 8 ∈ G) (nodes : Int) (x : EntM) (hx : x.ok Any W) (aO : Option Addr) (cO : Nat) (O : List Int) (hO : RecsIn Any 1 intR W aO O) (mO : O.length ≤ maxLen) :
    Calls Tryd.prog 4 #[.int .i64 nodes, .agg #[.int .i64 x.e.cl, .int .i64 x.e.nu, .int .i64 x.e.kd, .int .i64 x.e.id, .int .i64 x.e.srv.k, .int .i64 x.e.srv.q, .int .i64 x.e.srv.t, .int .i64 x.e.po, .slice x.a x.e.tasks.length x.c, .int .i64 x.e.at_], .slice aO O.length cO] W fun e w' => e = .returned (.bool true) ∧ Gr W w' := by
  by_cases hf : entF x.e = true
  · by_cases hm : O.length ≤ 200
    · exact roundHalves_in W hE i0 i6 i8 nodes x hx hf aO cO O hO hm
    · obtain ⟨N, hN, n1, n7⟩ := nodes7 nodes
      have gw := (Gr.refl W).alloc x.obj
      have hal := alive19_any _ (hE.gr gw) i6 i8
      have hif := fun w (g : Gr W w) => inForm_any x.e x.a x.c w (hx.gr g)
      rw [hf] at hif
      have b1 : -7 < nodes.tmod 7 := Int.lt_tmod_of_pos nodes (by decide)
      have b2 : nodes.tmod 7 < 7 := Int.tmod_lt_of_pos nodes (by decide)
      unfold maxLen at mO
      replace hal := Lib.hid hal
      replace hif := Lib.hid hif
      replace hf := Lib.hid hf
      have hm2 : (200 : Int) < O.length := by omega
      clear hm
      go_enter Tryd.func4, Tryd.ntmps4
      go_wp2_with fail
      refine (hal.out).mono ?_
      rintro e w1 ⟨rfl, g1⟩
      obtain ⟨c1, f1, s1⟩ := g1.cells
      try simp only [size_drewN] at c1 f1 s1
      try simp only [World.size_alloc] at c1 f1 s1
      try simp only [World.size_drew] at c1 f1 s1
      try simp only [World.size_setCell] at c1 f1 s1
      have z10 : W.heap.size < w1.heap.size := by omega
      have y10 : W.heap.size ≤ w1.heap.size := by omega
      have k10 := fun o => c1 (W.heap.size) o (by omega)
      have j10 := fun o => f1 (W.heap.size) o (by omega)
      go_wp2_with fail
      refine (hif.out _ (gw.trans g1)).mono ?_
      rintro e w2 ⟨rfl, g2⟩
      go_wp2_with fail
      go_ret
      exact ⟨rfl, (gw.trans g1).trans g2⟩
  · obtain ⟨N, hN, n1, n7⟩ := nodes7 nodes
    have hf : entF x.e = false := by simpa using hf
    have gw := (Gr.refl W).alloc x.obj
    have hal := alive19_any _ (hE.gr gw) i6 i8
    have hif := fun w (g : Gr W w) => inForm_any x.e x.a x.c w (hx.gr g)
    rw [hf] at hif
    have b1 : -7 < nodes.tmod 7 := Int.lt_tmod_of_pos nodes (by decide)
    have b2 : nodes.tmod 7 < 7 := Int.tmod_lt_of_pos nodes (by decide)
    unfold maxLen at mO
    replace hal := Lib.hid hal
    replace hif := Lib.hid hif
    replace hf := Lib.hid hf
    go_enter Tryd.func4, Tryd.ntmps4
    go_wp2_with fail
    refine (hal.out).mono ?_
    rintro e w1 ⟨rfl, g1⟩
    obtain ⟨c1, f1, s1⟩ := g1.cells
    try simp only [size_drewN] at c1 f1 s1
    try simp only [World.size_alloc] at c1 f1 s1
    try simp only [World.size_drew] at c1 f1 s1
    try simp only [World.size_setCell] at c1 f1 s1
    have z10 : W.heap.size < w1.heap.size := by omega
    have y10 : W.heap.size ≤ w1.heap.size := by omega
    have k10 := fun o => c1 (W.heap.size) o (by omega)
    have j10 := fun o => f1 (W.heap.size) o (by omega)
    go_wp2_with fail
    refine (hif.out _ (gw.trans g1)).mono ?_
    rintro e w2 ⟨rfl, g2⟩
    go_wp2_with fail
    go_ret
    exact ⟨rfl, (gw.trans g1).trans g2⟩
end Go.Proofs.YtblfljpmkgmjaaaDoor
