/- RoundNewest: the walk. -/
import Derived.Test.YtblfljpmkgmjaaaDoorG17
namespace Go.Proofs.YtblfljpmkgmjaaaDoor
open Go.RowKit

theorem RndAt.far {K0 : Nat → Prop} {T : List Nat} {w w' : World} {rb ab : Nat} {R : Rnd} (h : RndAt K0 w rb ab R) (g : GrX T w w') (h1 : rb ∉ T) (h2 : ab ∉ T) (hT : ∀ y, y ∈ T → ¬ K0 y) : RndAt K0 w' rb ab R :=
  ⟨h.o.grx g h1, h.b.grx g h2, h.ne, h.n7, h.x.grx g (fun y hy hk => hT y hy hk.2.2), h.l.grx g (fun y hy hk => hT y hy hk.2.2), h.lc, h.cap⟩
theorem Stand.mono {K0 K0' : Nat → Prop} {W0 w : World} {rb ab : Nat} {R : Rnd} (h : Stand K0 W0 w rb ab R) (hk : ∀ b, b < w.heap.size → K0 b → K0' b) : Stand K0' W0 w rb ab R := ⟨h.r.mono hk, h.g, h.hr, h.ha⟩

abbrev intR : Int → List Value := fun d => [Value.int .i64 d]
theorem nodes7 (n : Int) : ∃ N : Nat, n.tmod 7 % 7 + 1 = (N : Int) ∧ 1 ≤ N ∧ N ≤ 7 := by
  have h3 : 0 ≤ n.tmod 7 % 7 := Int.emod_nonneg _ (by decide)
  have h4 : n.tmod 7 % 7 < 7 := Int.emod_lt_of_pos _ (by decide)
  exact ⟨(n.tmod 7 % 7 + 1).toNat, by omega, by omega, by omega⟩

set_option maxRecDepth 100000 in
set_option maxHeartbeats 6400000 in
theorem roundNewest_any {G : List Nat} {E : Nat → Addr} (W : World) (hE : EAt G E W) (i6 : 6 ∈ G) (i8 : 8 ∈ G) (nodes : Int) (aT : Option Addr) (cT : Nat) (T : List Bal) (aG : Option Addr) (cG : Nat) (Gs : List Int) (hT : RecsIn Any 2 (fun b : Bal => [Value.int .i64 b.r, Value.int .i64 b.n]) W aT T) (hG : RecsIn Any 1 intR W aG Gs) (mT : T.length ≤ maxLen) :
    Calls Tryd.prog 3 #[.int .i64 nodes, .slice aT T.length cT, .slice aG Gs.length cG] W fun e w' => e = .returned (.bool true) ∧ Gr W w' := by
  obtain ⟨N, hN, n1, n7⟩ := nodes7 nodes
  have hal := alive19_any W hE i6 i8
  have b1 : -7 < nodes.tmod 7 := Int.lt_tmod_of_pos nodes (by decide)
  have b2 : nodes.tmod 7 < 7 := Int.tmod_lt_of_pos nodes (by decide)
  replace hal := Lib.hid hal
  unfold maxLen at mT
  go_enter Tryd.func3, Tryd.ntmps3
  go_wp2_with fail
  refine (hal.out).mono ?_
  rintro e w1 ⟨rfl, g1⟩
  obtain ⟨c1, f1, s1⟩ := g1.cells
  try simp only [size_drewN] at c1 f1 s1
  try simp only [World.size_alloc] at c1 f1 s1
  try simp only [World.size_drew] at c1 f1 s1
  try simp only [World.size_setCell] at c1 f1 s1
  go_wp2_with fail
  refine (make1_any w1).mono ?_
  rintro e w2 ⟨rfl, g2⟩
  obtain ⟨c2, f2, s2⟩ := g2.cells
  try simp only [size_drewN] at c2 f2 s2
  try simp only [World.size_alloc] at c2 f2 s2
  try simp only [World.size_drew] at c2 f2 s2
  try simp only [World.size_setCell] at c2 f2 s2
  go_wp2_with fail
  refine (new_mk1 N w2 n1 n7).mono ?_
  rintro e w3 ⟨rb, ab, R, rfl, hr, hv, m1, m2, g3⟩
  have gw2 : Gr W w2 := g1.trans g2
  have hs : Stand Any W w3 rb ab R := ⟨hr.mono (fun _ _ _ => trivial), gw2.trans g3, Nat.le_trans gw2.size m1, Nat.le_trans gw2.size m2⟩
  have hsb := hs.gr ((Gr.refl w3).alloc (.cells #[.int .i64 1099511627776, .int .i64 6] 39))
  have hB9 := Blk.new w3 #[.int .i64 1099511627776, .int .i64 6] 39
  have zr := hr.o.lt
  have za := hr.b.lt
  have nB : w3.heap.size ∉ [rb, ab] := by simp; omega
  have hbeg := begin_st hsb nb (by rw [hv]; exact (by decide : (0 : Int) < 3)) (by decide) (by rw [hv]; exact (by decide : aboveB nb ⟨0, 0⟩ = true)) (by rw [hv]; exact (by decide : (0 : Int) ≤ 0)) (by rw [hv]; exact (by decide : (0 : Int) < 4611686018427387904))
  rw [hv, nbegin] at hbeg
  replace hbeg := Lib.hid hbeg
  replace hB9 := Lib.hid hB9
  replace nB := Lib.hid nB
  clear hs hsb hr hv m1 m2 g3 c1 f1 s1 c2 f2 s2 gw2 g1 g2 hal
  go_wp2_with fail
  refine hbeg.out.mono ?_
  rintro e w4 ⟨rfl, R4, hs4, hv4, g4⟩
  have hB4 := hB9.out.grx g4 nB.out
  have hz4 := hs4.r.o.lt
  have hy4 := hs4.r.b.lt
  have z9 := hB4.lt
  have hs5 := (hs4.mono (K0' := fun b => b ≠ w4.heap.size) (fun b hb _ => by omega)).gr (((Gr.refl w4).alloc (.cells #[.int .i64 0, .int .i64 0] 39)).alloc (.cells #[] 36))
  have hB10 := (Blk.new w4 #[.int .i64 0, .int .i64 0] 39).alloc (.cells #[] 36)
  have hB9' := (hB4.alloc (.cells #[.int .i64 0, .int .i64 0] 39)).alloc (.cells #[] 36)
  replace hB10 := Lib.hid hB10
  replace hB9' := Lib.hid hB9'
  replace hv4 := Lib.hid hv4
  clear hB4 hbeg g4 hs4 hB9
  go_wp2_with fail
  go_loopw [12, 11] (fun iv wv wr => ∃ (i : Nat) (x : Bal) (l : List Ent) (R' : Rnd) (aw : Option Addr) (cw : Nat) (Lw : List EntM), i ≤ N / 2 + 1 ∧ iv = .int .i64 i ∧ wv = .slice aw Lw.length cw ∧ Lw.map (·.e) = l ∧ Tells l ∧ LedM (fun b => b ≠ rb ∧ b ≠ ab ∧ b ≠ w4.heap.size) wr aw Lw ∧ Stand (fun b => b ≠ w4.heap.size) W wr rb ab R' ∧ R'.v = nst N i x l ∧ Blk wr w3.heap.size #[.int .i64 1099511627776, .int .i64 6] 39 ∧ Blk wr w4.heap.size #[.int .i64 x.r, .int .i64 x.n] 39) (fun iv _ _ => N / 2 + 1 - (intOf iv).toNat)
  case atStart => exact ⟨0, ⟨0, 0⟩, [], R4, some ⟨w4.heap.size + 1, 0, none⟩, 0, [], by omega, rfl, rfl, rfl, tells_nil, LedM.nil _ _ _, hs5, hv4.out, hB9'.out, hB10.out⟩
  case round =>
    obtain ⟨i, x, l, R', aw, cw, Lw, hi, rfl, rfl, hl, ht, hL, hst, hv, h9, h10⟩ := hrel
    have z10 := h10.lt
    have z9r := h9.lt
    have zrr := hst.r.o.lt
    have zaa := hst.r.b.lt
    have zrb := hst.hr
    have zab := hst.ha
    have zg := hst.g.size
    have hhalf := fun w => half_any (N : Int) w (by omega) (by omega)
    replace hhalf := Lib.hid hhalf
    by_cases hlt : i < N / 2 + 1
    · have hst1 : R'.st = 1 := by rw [show R'.st = R'.v.st from rfl, hv]; unfold nst; rw [if_pos hlt]; rfl
      have hstg := stage_any R' wr rb ab hst.r
      rw [hst1] at hstg
      replace hst1 := Lib.hid hst1
      replace hstg := Lib.hid hstg
      by_cases hA : i < T.length
      · by_cases hB : i < Gs.length
        · obtain ⟨t, htt⟩ := get_some T i hA
          obtain ⟨tg, hgt⟩ := get_some Gs i hB
          obtain ⟨bT, oT, rfl, hbT, hcT⟩ := (hT.grx (T := []) (hst.g.x []) (fun _ h => by cases h)).1 i t htt
          obtain ⟨bG, oG, rfl, hbG, hcG⟩ := (hG.grx (T := []) (hst.g.x []) (fun _ h => by cases h)).1 i tg hgt
          have t0 : wr.cell? ⟨bT, oT + i * 2, none⟩ = some (.int .i64 t.r) := hcT 0 _ rfl
          have t1 : wr.cell? ⟨bT, oT + i * 2 + 1, none⟩ = some (.int .i64 t.n) := hcT 1 _ rfl
          have g0 : wr.cell? ⟨bG, oG + i, none⟩ = some (.int .i64 tg) := by have := hcG 0 _ rfl; simpa using this
          clear hcT hcG
          replace htt := Lib.hid htt
          replace hgt := Lib.hid hgt
          have hle := rlegal18_any t
          cases hb : balB t with
          | false =>
            rw [hb] at hle
            replace hb := Lib.hid hb
            replace hle := Lib.hid hle
            go_wp2_with fail
            refine (hhalf.out _).mono ?_
            rintro e wh ⟨rfl, rfl⟩
            go_wp2_with fail
            refine hstg.out.mono ?_
            rintro e wh ⟨rfl, rfl⟩
            go_wp2_with fail
            refine (hle.out _).mono ?_
            rintro e w6 ⟨rfl, g6⟩
            have gq : Gr wr w6 := (((Gr.refl wr).alloc _).alloc _).trans g6
            have hlq : LedM (fun b => b ≠ rb ∧ b ≠ ab ∧ b ≠ w4.heap.size) w6 (some ⟨wr.heap.size + 1, 0, none⟩) [] := LedM.nil _ _ _
            have h13 : Blk w6 wr.heap.size #[.int .i64 0, .int .i64 0] 39 := ((Blk.new wr #[.int .i64 0, .int .i64 0] 39).alloc _).gr g6
            have hsq := hst.gr gq
            have zq := gq.size
            have hp := promise_st hE i6 i8 (fun b hb => by omega) hsq (i : Int) nb ⟨0, 0⟩ (some ⟨wr.heap.size + 1, 0, none⟩) 0 [] (hlq.mono (fun b _ hb => ⟨hb.1, hb.2.1⟩)) (by simp)
            rw [hv, show ([] : List EntM).map (·.e) = [] from rfl, npromise hlt n1 x ⟨0, 0⟩ l _ ht tells_nil] at hp
            have h9q := h9.gr gq
            have h10q := h10.gr gq
            have q90 : w6.cell? ⟨w3.heap.size, 0, none⟩ = some (.int .i64 1099511627776) := h9q.cell rfl
            have q91 : w6.cell? ⟨w3.heap.size, 1, none⟩ = some (.int .i64 6) := h9q.cell rfl
            have q130 : w6.cell? ⟨wr.heap.size, 0, none⟩ = some (.int .i64 0) := h13.cell rfl
            have q131 : w6.cell? ⟨wr.heap.size, 1, none⟩ = some (.int .i64 0) := h13.cell rfl
            replace hp := Lib.hid hp
            replace h9q := Lib.hid h9q
            replace h10q := Lib.hid h10q
            replace h13 := Lib.hid h13
            replace hlq := Lib.hid hlq
            replace hv := Lib.hid hv
            replace ht := Lib.hid ht
            replace hl := Lib.hid hl
            go_wp2_with fail
            refine hp.out.mono ?_
            rintro e w7 ⟨rfl, R7, hs7, hv7, g7⟩
            have h9r := h9q.out.grx g7 nB.out
            have h10r := h10q.out.grx g7 (by simp; omega)
            have h13r := h13.out.grx g7 (by simp; omega)
            have r100 : w7.cell? ⟨w4.heap.size, 0, none⟩ = some (.int .i64 x.r) := h10r.cell rfl
            have r101 : w7.cell? ⟨w4.heap.size, 1, none⟩ = some (.int .i64 x.n) := h10r.cell rfl
            have r130 : w7.cell? ⟨wr.heap.size, 0, none⟩ = some (.int .i64 0) := h13r.cell rfl
            have r131 : w7.cell? ⟨wr.heap.size, 1, none⟩ = some (.int .i64 0) := h13r.cell rfl
            have z13 := h13r.lt
            have z10' := h10r.lt
            have hLr := (hL.gr gq).grx g7 (by intro y hy hk; simp at hy; omega)
            have hlr := hlq.out.grx g7 (by intro y hy hk; simp at hy; omega)
            have hab := rabove_any ⟨0, 0⟩ x w7
            clear g7 q90 q91 q130 q131
            cases ha : aboveB ⟨0, 0⟩ x with
            | false =>
              rw [ha] at hab hv7
              replace ha := Lib.hid ha
              replace hv7 := Lib.hid hv7
              replace hab := Lib.hid hab
              go_wp2_with fail
              refine hab.out.mono ?_
              rintro e w8 ⟨rfl, g8⟩
              go_wp2_with fail
              go_roundw
              case rel => exact ⟨i + 1, x, l, R7, aw, cw, Lw, by omega, by go_num, rfl, hl.out, ht.out, hLr.gr g8, hs7.gr g8, hv7.out, h9r.gr g8, h10r.gr g8⟩
              case measure => simp [intOf]; omega
            | true =>
              rw [ha] at hab hv7
              replace ha := Lib.hid ha
              replace hv7 := Lib.hid hv7
              replace hab := Lib.hid hab
              go_wp2_with fail
              refine hab.out.mono ?_
              rintro e w8 ⟨rfl, g8⟩
              have gset : GrX [w4.heap.size] w8 ((w8.setCell ⟨w4.heap.size, 0, none⟩ (.int .i64 0)).setCell ⟨w4.heap.size, 1, none⟩ (.int .i64 0)) := ((GrX.refl _ w8).set (.inl (by simp)) _).set (.inl (by simp)) _
              have hs8 := hs7.gr g8
              have hs9 : Stand (fun b => b ≠ w4.heap.size) W ((w8.setCell ⟨w4.heap.size, 0, none⟩ (.int .i64 0)).setCell ⟨w4.heap.size, 1, none⟩ (.int .i64 0)) rb ab R7 := ⟨hs8.r.far gset (by simp; omega) (by simp; omega) (by intro y hy hk; simp at hy; omega), GrX.all hs8.g gset (by intro y hy; simp at hy; omega), hs8.hr, hs8.ha⟩
              have h9s := (h9r.gr g8).grx gset (by simp; omega)
              have h10s := ((h10r.gr g8).set 0 (.int .i64 0)).set 1 (.int .i64 0)
              have hls := (hlr.gr g8).grx gset (by intro y hy hk; simp at hy; omega)
              have s100 : w8.cell? ⟨w4.heap.size, 0, none⟩ = some (.int .i64 x.r) := (h10r.gr g8).cell rfl
              have s101 : w8.cell? ⟨w4.heap.size, 1, none⟩ = some (.int .i64 x.n) := (h10r.gr g8).cell rfl
              have s130 : w8.cell? ⟨wr.heap.size, 0, none⟩ = some (.int .i64 0) := (h13r.gr g8).cell rfl
              have s131 : w8.cell? ⟨wr.heap.size, 1, none⟩ = some (.int .i64 0) := (h13r.gr g8).cell rfl
              have f8 := fun i => (h10r.gr g8).free i
              have z8 := (h10r.gr g8).lt
              clear r100 r101 r130 r131
              replace h10s := Lib.hid h10s
              go_wp2_with fail
              go_roundw
              case rel => exact ⟨i + 1, ⟨0, 0⟩, _, R7, some ⟨wr.heap.size + 1, 0, none⟩, 0, [], by omega, by go_num, rfl, show ([] : List EntM).map (·.e) = [] from rfl, tells_nil, hls, hs9, hv7.out, h9s, h10s.out⟩
              case measure => simp [intOf]; omega
          | true =>
            rw [hb] at hle
            replace hb := Lib.hid hb
            replace hle := Lib.hid hle
            go_wp2_with fail
            refine (hhalf.out _).mono ?_
            rintro e wh ⟨rfl, rfl⟩
            go_wp2_with fail
            refine hstg.out.mono ?_
            rintro e wh ⟨rfl, rfl⟩
            go_wp2_with fail
            refine (hle.out _).mono ?_
            rintro e w6 ⟨rfl, g6⟩
            have gq0 : Gr wr w6 := (((Gr.refl wr).alloc _).alloc _).trans g6
            have gq : Gr wr (((w6.setCell ⟨wr.heap.size, 0, none⟩ (.int .i64 t.r)).setCell ⟨wr.heap.size, 1, none⟩ (.int .i64 t.n)).alloc (.cells #[.int .i64 5, .int .i64 (5 + (i : Int)), .int .i64 3, .int .i64 0, .int .i64 0, .int .i64 0, .int .i64 0, .int .i64 0, .slice none 0 0, .int .i64 tg] 36)) := ((gq0.setCell (p := ⟨wr.heap.size, 0, none⟩) (Nat.le_refl _) (.int .i64 t.r)).setCell (p := ⟨wr.heap.size, 1, none⟩) (Nat.le_refl _) (.int .i64 t.n)).alloc _
            have hlq : LedM (fun b => b ≠ rb ∧ b ≠ ab ∧ b ≠ w4.heap.size) (((w6.setCell ⟨wr.heap.size, 0, none⟩ (.int .i64 t.r)).setCell ⟨wr.heap.size, 1, none⟩ (.int .i64 t.n)).alloc (.cells #[.int .i64 5, .int .i64 (5 + (i : Int)), .int .i64 3, .int .i64 0, .int .i64 0, .int .i64 0, .int .i64 0, .int .i64 0, .slice none 0 0, .int .i64 tg] 36)) (some ⟨w6.heap.size, 0, none⟩) [(⟨⟨5, 5 + (i : Int), 3, 0, ⟨0, 0, 0⟩, 0, [], tg⟩, none, 0⟩ : EntM)] := by
              have hrec := recs_alloc EntM.cells_len ((w6.setCell ⟨wr.heap.size, 0, none⟩ (.int .i64 t.r)).setCell ⟨wr.heap.size, 1, none⟩ (.int .i64 t.n)) [(⟨⟨5, 5 + (i : Int), 3, 0, ⟨0, 0, 0⟩, 0, [], tg⟩, none, 0⟩ : EntM)] 36 (List.toArray ((⟨⟨5, 5 + (i : Int), 3, 0, ⟨0, 0, 0⟩, 0, [], tg⟩, none, 0⟩ : EntM).cells)) (by simp)
              rw [World.size_setCell, World.size_setCell] at hrec
              refine ⟨⟨hrec, fun y hy _ => ?_⟩, fun y hy => ?_⟩
              · cases hy
                have := gq0.size
                exact ⟨by show w6.heap.size ≠ rb; omega, by show w6.heap.size ≠ ab; omega, by show w6.heap.size ≠ w4.heap.size; omega⟩
              · rw [List.mem_singleton.1 hy]
                exact ⟨RecsIn.nil _ _ _ _ _, fun _ => rfl, Nat.le_refl _, Nat.zero_le _, by simp⟩
            have h13 : Blk (((w6.setCell ⟨wr.heap.size, 0, none⟩ (.int .i64 t.r)).setCell ⟨wr.heap.size, 1, none⟩ (.int .i64 t.n)).alloc (.cells #[.int .i64 5, .int .i64 (5 + (i : Int)), .int .i64 3, .int .i64 0, .int .i64 0, .int .i64 0, .int .i64 0, .int .i64 0, .slice none 0 0, .int .i64 tg] 36)) wr.heap.size #[.int .i64 t.r, .int .i64 t.n] 39 := (((((Blk.new wr #[.int .i64 0, .int .i64 0] 39).alloc (.cells #[] 36)).gr g6).set 0 (.int .i64 t.r)).set 1 (.int .i64 t.n)).alloc (.cells #[.int .i64 5, .int .i64 (5 + (i : Int)), .int .i64 3, .int .i64 0, .int .i64 0, .int .i64 0, .int .i64 0, .int .i64 0, .slice none 0 0, .int .i64 tg] 36)
            have f6 := fun j => ((((Blk.new wr #[.int .i64 0, .int .i64 0] 39).alloc (.cells #[] 36)).gr g6)).free j
            have l60 : w6.cell? ⟨wr.heap.size, 0, none⟩ = some (.int .i64 0) := ((((Blk.new wr #[.int .i64 0, .int .i64 0] 39).alloc (.cells #[] 36)).gr g6)).cell rfl
            have l61 : w6.cell? ⟨wr.heap.size, 1, none⟩ = some (.int .i64 0) := ((((Blk.new wr #[.int .i64 0, .int .i64 0] 39).alloc (.cells #[] 36)).gr g6)).cell rfl
            have k60 : w6.cell? ⟨bT, oT + i * 2, none⟩ = some (.int .i64 t.r) := by rw [gq0.cells.1 bT _ hbT]; exact t0
            have k61 : w6.cell? ⟨bT, oT + i * 2 + 1, none⟩ = some (.int .i64 t.n) := by rw [gq0.cells.1 bT _ hbT]; exact t1
            have k62 : w6.cell? ⟨bG, oG + i, none⟩ = some (.int .i64 tg) := by rw [gq0.cells.1 bG _ hbG]; exact g0
            have z6 := gq0.size
            have z60 : wr.heap.size < w6.heap.size := by have := g6.size; simp at this; omega
            have hsq := hst.gr gq
            have zq := gq.size
            have hp := promise_st hE i6 i8 (fun b hb => by omega) hsq (i : Int) nb t (some ⟨w6.heap.size, 0, none⟩) 1 [(⟨⟨5, 5 + (i : Int), 3, 0, ⟨0, 0, 0⟩, 0, [], tg⟩, none, 0⟩ : EntM)] (hlq.mono (fun b _ hb => ⟨hb.1, hb.2.1⟩)) (by simp)
            rw [hv, show [(⟨⟨5, 5 + (i : Int), 3, 0, ⟨0, 0, 0⟩, 0, [], tg⟩, none, 0⟩ : EntM)].map (·.e) = [(⟨⟨5, 5 + (i : Int), 3, 0, ⟨0, 0, 0⟩, 0, [], tg⟩, none, 0⟩ : EntM).e] from rfl, npromise hlt n1 x t l _ ht ⟨by simp, by intro e he; simp at he; subst he; exact ⟨rfl, rfl⟩⟩] at hp
            have h9q := h9.gr gq
            have h10q := h10.gr gq
            have q90 : (((w6.setCell ⟨wr.heap.size, 0, none⟩ (.int .i64 t.r)).setCell ⟨wr.heap.size, 1, none⟩ (.int .i64 t.n)).alloc (.cells #[.int .i64 5, .int .i64 (5 + (i : Int)), .int .i64 3, .int .i64 0, .int .i64 0, .int .i64 0, .int .i64 0, .int .i64 0, .slice none 0 0, .int .i64 tg] 36)).cell? ⟨w3.heap.size, 0, none⟩ = some (.int .i64 1099511627776) := h9q.cell rfl
            have q91 : (((w6.setCell ⟨wr.heap.size, 0, none⟩ (.int .i64 t.r)).setCell ⟨wr.heap.size, 1, none⟩ (.int .i64 t.n)).alloc (.cells #[.int .i64 5, .int .i64 (5 + (i : Int)), .int .i64 3, .int .i64 0, .int .i64 0, .int .i64 0, .int .i64 0, .int .i64 0, .slice none 0 0, .int .i64 tg] 36)).cell? ⟨w3.heap.size, 1, none⟩ = some (.int .i64 6) := h9q.cell rfl
            have q130 : (((w6.setCell ⟨wr.heap.size, 0, none⟩ (.int .i64 t.r)).setCell ⟨wr.heap.size, 1, none⟩ (.int .i64 t.n)).alloc (.cells #[.int .i64 5, .int .i64 (5 + (i : Int)), .int .i64 3, .int .i64 0, .int .i64 0, .int .i64 0, .int .i64 0, .int .i64 0, .slice none 0 0, .int .i64 tg] 36)).cell? ⟨wr.heap.size, 0, none⟩ = some (.int .i64 t.r) := h13.cell rfl
            have q131 : (((w6.setCell ⟨wr.heap.size, 0, none⟩ (.int .i64 t.r)).setCell ⟨wr.heap.size, 1, none⟩ (.int .i64 t.n)).alloc (.cells #[.int .i64 5, .int .i64 (5 + (i : Int)), .int .i64 3, .int .i64 0, .int .i64 0, .int .i64 0, .int .i64 0, .int .i64 0, .slice none 0 0, .int .i64 tg] 36)).cell? ⟨wr.heap.size, 1, none⟩ = some (.int .i64 t.n) := h13.cell rfl
            replace hp := Lib.hid hp
            replace h9q := Lib.hid h9q
            replace h10q := Lib.hid h10q
            replace h13 := Lib.hid h13
            replace hlq := Lib.hid hlq
            replace hv := Lib.hid hv
            replace ht := Lib.hid ht
            replace hl := Lib.hid hl
            go_wp2_with fail
            refine hp.out.mono ?_
            rintro e w7 ⟨rfl, R7, hs7, hv7, g7⟩
            have h9r := h9q.out.grx g7 nB.out
            have h10r := h10q.out.grx g7 (by simp; omega)
            have h13r := h13.out.grx g7 (by simp; omega)
            have r100 : w7.cell? ⟨w4.heap.size, 0, none⟩ = some (.int .i64 x.r) := h10r.cell rfl
            have r101 : w7.cell? ⟨w4.heap.size, 1, none⟩ = some (.int .i64 x.n) := h10r.cell rfl
            have r130 : w7.cell? ⟨wr.heap.size, 0, none⟩ = some (.int .i64 t.r) := h13r.cell rfl
            have r131 : w7.cell? ⟨wr.heap.size, 1, none⟩ = some (.int .i64 t.n) := h13r.cell rfl
            have z13 := h13r.lt
            have z10' := h10r.lt
            have hLr := (hL.gr gq).grx g7 (by intro y hy hk; simp at hy; omega)
            have hlr := hlq.out.grx g7 (by intro y hy hk; simp at hy; omega)
            have hab := rabove_any t x w7
            clear g7 q90 q91 q130 q131
            cases ha : aboveB t x with
            | false =>
              rw [ha] at hab hv7
              replace ha := Lib.hid ha
              replace hv7 := Lib.hid hv7
              replace hab := Lib.hid hab
              go_wp2_with fail
              refine hab.out.mono ?_
              rintro e w8 ⟨rfl, g8⟩
              go_wp2_with fail
              go_roundw
              case rel => exact ⟨i + 1, x, l, R7, aw, cw, Lw, by omega, by go_num, rfl, hl.out, ht.out, hLr.gr g8, hs7.gr g8, hv7.out, h9r.gr g8, h10r.gr g8⟩
              case measure => simp [intOf]; omega
            | true =>
              rw [ha] at hab hv7
              replace ha := Lib.hid ha
              replace hv7 := Lib.hid hv7
              replace hab := Lib.hid hab
              go_wp2_with fail
              refine hab.out.mono ?_
              rintro e w8 ⟨rfl, g8⟩
              have gset : GrX [w4.heap.size] w8 ((w8.setCell ⟨w4.heap.size, 0, none⟩ (.int .i64 t.r)).setCell ⟨w4.heap.size, 1, none⟩ (.int .i64 t.n)) := ((GrX.refl _ w8).set (.inl (by simp)) _).set (.inl (by simp)) _
              have hs8 := hs7.gr g8
              have hs9 : Stand (fun b => b ≠ w4.heap.size) W ((w8.setCell ⟨w4.heap.size, 0, none⟩ (.int .i64 t.r)).setCell ⟨w4.heap.size, 1, none⟩ (.int .i64 t.n)) rb ab R7 := ⟨hs8.r.far gset (by simp; omega) (by simp; omega) (by intro y hy hk; simp at hy; omega), GrX.all hs8.g gset (by intro y hy; simp at hy; omega), hs8.hr, hs8.ha⟩
              have h9s := (h9r.gr g8).grx gset (by simp; omega)
              have h10s := ((h10r.gr g8).set 0 (.int .i64 t.r)).set 1 (.int .i64 t.n)
              have hls := (hlr.gr g8).grx gset (by intro y hy hk; simp at hy; omega)
              have s100 : w8.cell? ⟨w4.heap.size, 0, none⟩ = some (.int .i64 x.r) := (h10r.gr g8).cell rfl
              have s101 : w8.cell? ⟨w4.heap.size, 1, none⟩ = some (.int .i64 x.n) := (h10r.gr g8).cell rfl
              have s130 : w8.cell? ⟨wr.heap.size, 0, none⟩ = some (.int .i64 t.r) := (h13r.gr g8).cell rfl
              have s131 : w8.cell? ⟨wr.heap.size, 1, none⟩ = some (.int .i64 t.n) := (h13r.gr g8).cell rfl
              have f8 := fun i => (h10r.gr g8).free i
              have z8 := (h10r.gr g8).lt
              clear r100 r101 r130 r131
              replace h10s := Lib.hid h10s
              go_wp2_with fail
              go_roundw
              case rel => exact ⟨i + 1, t, _, R7, some ⟨w6.heap.size, 0, none⟩, 1, [(⟨⟨5, 5 + (i : Int), 3, 0, ⟨0, 0, 0⟩, 0, [], tg⟩, none, 0⟩ : EntM)], by omega, by go_num, rfl, show [(⟨⟨5, 5 + (i : Int), 3, 0, ⟨0, 0, 0⟩, 0, [], tg⟩, none, 0⟩ : EntM)].map (·.e) = [(⟨⟨5, 5 + (i : Int), 3, 0, ⟨0, 0, 0⟩, 0, [], tg⟩, none, 0⟩ : EntM).e] from rfl, ⟨by simp, by intro e he; simp at he; subst he; exact ⟨rfl, rfl⟩⟩, hls, hs9, hv7.out, h9s, h10s.out⟩
              case measure => simp [intOf]; omega
        · skip
          go_wp2_with fail
          refine (hhalf.out _).mono ?_
          rintro e wh ⟨rfl, rfl⟩
          go_wp2_with fail
          refine hstg.out.mono ?_
          rintro e wh ⟨rfl, rfl⟩
          have gq : Gr wr ((wr.alloc (.cells #[.int .i64 0, .int .i64 0] 39)).alloc (.cells #[] 36)) := ((Gr.refl wr).alloc _).alloc _
          have hlq : LedM (fun b => b ≠ rb ∧ b ≠ ab ∧ b ≠ w4.heap.size) ((wr.alloc (.cells #[.int .i64 0, .int .i64 0] 39)).alloc (.cells #[] 36)) (some ⟨wr.heap.size + 1, 0, none⟩) [] := LedM.nil _ _ _
          have h13 : Blk ((wr.alloc (.cells #[.int .i64 0, .int .i64 0] 39)).alloc (.cells #[] 36)) wr.heap.size #[.int .i64 0, .int .i64 0] 39 := (Blk.new wr #[.int .i64 0, .int .i64 0] 39).alloc _
          have hsq := hst.gr gq
          have zq := gq.size
          have hp := promise_st hE i6 i8 (fun b hb => by omega) hsq (i : Int) nb ⟨0, 0⟩ (some ⟨wr.heap.size + 1, 0, none⟩) 0 [] (hlq.mono (fun b _ hb => ⟨hb.1, hb.2.1⟩)) (by simp)
          rw [hv, show ([] : List EntM).map (·.e) = [] from rfl, npromise hlt n1 x ⟨0, 0⟩ l _ ht tells_nil] at hp
          have h9q := h9.gr gq
          have h10q := h10.gr gq
          have q90 : ((wr.alloc (.cells #[.int .i64 0, .int .i64 0] 39)).alloc (.cells #[] 36)).cell? ⟨w3.heap.size, 0, none⟩ = some (.int .i64 1099511627776) := h9q.cell rfl
          have q91 : ((wr.alloc (.cells #[.int .i64 0, .int .i64 0] 39)).alloc (.cells #[] 36)).cell? ⟨w3.heap.size, 1, none⟩ = some (.int .i64 6) := h9q.cell rfl
          have q130 : ((wr.alloc (.cells #[.int .i64 0, .int .i64 0] 39)).alloc (.cells #[] 36)).cell? ⟨wr.heap.size, 0, none⟩ = some (.int .i64 0) := h13.cell rfl
          have q131 : ((wr.alloc (.cells #[.int .i64 0, .int .i64 0] 39)).alloc (.cells #[] 36)).cell? ⟨wr.heap.size, 1, none⟩ = some (.int .i64 0) := h13.cell rfl
          replace hp := Lib.hid hp
          replace h9q := Lib.hid h9q
          replace h10q := Lib.hid h10q
          replace h13 := Lib.hid h13
          replace hlq := Lib.hid hlq
          replace hv := Lib.hid hv
          replace ht := Lib.hid ht
          replace hl := Lib.hid hl
          go_wp2_with fail
          refine hp.out.mono ?_
          rintro e w7 ⟨rfl, R7, hs7, hv7, g7⟩
          have h9r := h9q.out.grx g7 nB.out
          have h10r := h10q.out.grx g7 (by simp; omega)
          have h13r := h13.out.grx g7 (by simp; omega)
          have r100 : w7.cell? ⟨w4.heap.size, 0, none⟩ = some (.int .i64 x.r) := h10r.cell rfl
          have r101 : w7.cell? ⟨w4.heap.size, 1, none⟩ = some (.int .i64 x.n) := h10r.cell rfl
          have r130 : w7.cell? ⟨wr.heap.size, 0, none⟩ = some (.int .i64 0) := h13r.cell rfl
          have r131 : w7.cell? ⟨wr.heap.size, 1, none⟩ = some (.int .i64 0) := h13r.cell rfl
          have z13 := h13r.lt
          have z10' := h10r.lt
          have hLr := (hL.gr gq).grx g7 (by intro y hy hk; simp at hy; omega)
          have hlr := hlq.out.grx g7 (by intro y hy hk; simp at hy; omega)
          have hab := rabove_any ⟨0, 0⟩ x w7
          clear g7 q90 q91 q130 q131
          cases ha : aboveB ⟨0, 0⟩ x with
          | false =>
            rw [ha] at hab hv7
            replace ha := Lib.hid ha
            replace hv7 := Lib.hid hv7
            replace hab := Lib.hid hab
            go_wp2_with fail
            refine hab.out.mono ?_
            rintro e w8 ⟨rfl, g8⟩
            go_wp2_with fail
            go_roundw
            case rel => exact ⟨i + 1, x, l, R7, aw, cw, Lw, by omega, by go_num, rfl, hl.out, ht.out, hLr.gr g8, hs7.gr g8, hv7.out, h9r.gr g8, h10r.gr g8⟩
            case measure => simp [intOf]; omega
          | true =>
            rw [ha] at hab hv7
            replace ha := Lib.hid ha
            replace hv7 := Lib.hid hv7
            replace hab := Lib.hid hab
            go_wp2_with fail
            refine hab.out.mono ?_
            rintro e w8 ⟨rfl, g8⟩
            have gset : GrX [w4.heap.size] w8 ((w8.setCell ⟨w4.heap.size, 0, none⟩ (.int .i64 0)).setCell ⟨w4.heap.size, 1, none⟩ (.int .i64 0)) := ((GrX.refl _ w8).set (.inl (by simp)) _).set (.inl (by simp)) _
            have hs8 := hs7.gr g8
            have hs9 : Stand (fun b => b ≠ w4.heap.size) W ((w8.setCell ⟨w4.heap.size, 0, none⟩ (.int .i64 0)).setCell ⟨w4.heap.size, 1, none⟩ (.int .i64 0)) rb ab R7 := ⟨hs8.r.far gset (by simp; omega) (by simp; omega) (by intro y hy hk; simp at hy; omega), GrX.all hs8.g gset (by intro y hy; simp at hy; omega), hs8.hr, hs8.ha⟩
            have h9s := (h9r.gr g8).grx gset (by simp; omega)
            have h10s := ((h10r.gr g8).set 0 (.int .i64 0)).set 1 (.int .i64 0)
            have hls := (hlr.gr g8).grx gset (by intro y hy hk; simp at hy; omega)
            have s100 : w8.cell? ⟨w4.heap.size, 0, none⟩ = some (.int .i64 x.r) := (h10r.gr g8).cell rfl
            have s101 : w8.cell? ⟨w4.heap.size, 1, none⟩ = some (.int .i64 x.n) := (h10r.gr g8).cell rfl
            have s130 : w8.cell? ⟨wr.heap.size, 0, none⟩ = some (.int .i64 0) := (h13r.gr g8).cell rfl
            have s131 : w8.cell? ⟨wr.heap.size, 1, none⟩ = some (.int .i64 0) := (h13r.gr g8).cell rfl
            have f8 := fun i => (h10r.gr g8).free i
            have z8 := (h10r.gr g8).lt
            clear r100 r101 r130 r131
            replace h10s := Lib.hid h10s
            go_wp2_with fail
            go_roundw
            case rel => exact ⟨i + 1, ⟨0, 0⟩, _, R7, some ⟨wr.heap.size + 1, 0, none⟩, 0, [], by omega, by go_num, rfl, show ([] : List EntM).map (·.e) = [] from rfl, tells_nil, hls, hs9, hv7.out, h9s, h10s.out⟩
            case measure => simp [intOf]; omega
      · skip
        go_wp2_with fail
        refine (hhalf.out _).mono ?_
        rintro e wh ⟨rfl, rfl⟩
        go_wp2_with fail
        refine hstg.out.mono ?_
        rintro e wh ⟨rfl, rfl⟩
        have gq : Gr wr ((wr.alloc (.cells #[.int .i64 0, .int .i64 0] 39)).alloc (.cells #[] 36)) := ((Gr.refl wr).alloc _).alloc _
        have hlq : LedM (fun b => b ≠ rb ∧ b ≠ ab ∧ b ≠ w4.heap.size) ((wr.alloc (.cells #[.int .i64 0, .int .i64 0] 39)).alloc (.cells #[] 36)) (some ⟨wr.heap.size + 1, 0, none⟩) [] := LedM.nil _ _ _
        have h13 : Blk ((wr.alloc (.cells #[.int .i64 0, .int .i64 0] 39)).alloc (.cells #[] 36)) wr.heap.size #[.int .i64 0, .int .i64 0] 39 := (Blk.new wr #[.int .i64 0, .int .i64 0] 39).alloc _
        have hsq := hst.gr gq
        have zq := gq.size
        have hp := promise_st hE i6 i8 (fun b hb => by omega) hsq (i : Int) nb ⟨0, 0⟩ (some ⟨wr.heap.size + 1, 0, none⟩) 0 [] (hlq.mono (fun b _ hb => ⟨hb.1, hb.2.1⟩)) (by simp)
        rw [hv, show ([] : List EntM).map (·.e) = [] from rfl, npromise hlt n1 x ⟨0, 0⟩ l _ ht tells_nil] at hp
        have h9q := h9.gr gq
        have h10q := h10.gr gq
        have q90 : ((wr.alloc (.cells #[.int .i64 0, .int .i64 0] 39)).alloc (.cells #[] 36)).cell? ⟨w3.heap.size, 0, none⟩ = some (.int .i64 1099511627776) := h9q.cell rfl
        have q91 : ((wr.alloc (.cells #[.int .i64 0, .int .i64 0] 39)).alloc (.cells #[] 36)).cell? ⟨w3.heap.size, 1, none⟩ = some (.int .i64 6) := h9q.cell rfl
        have q130 : ((wr.alloc (.cells #[.int .i64 0, .int .i64 0] 39)).alloc (.cells #[] 36)).cell? ⟨wr.heap.size, 0, none⟩ = some (.int .i64 0) := h13.cell rfl
        have q131 : ((wr.alloc (.cells #[.int .i64 0, .int .i64 0] 39)).alloc (.cells #[] 36)).cell? ⟨wr.heap.size, 1, none⟩ = some (.int .i64 0) := h13.cell rfl
        replace hp := Lib.hid hp
        replace h9q := Lib.hid h9q
        replace h10q := Lib.hid h10q
        replace h13 := Lib.hid h13
        replace hlq := Lib.hid hlq
        replace hv := Lib.hid hv
        replace ht := Lib.hid ht
        replace hl := Lib.hid hl
        go_wp2_with fail
        refine hp.out.mono ?_
        rintro e w7 ⟨rfl, R7, hs7, hv7, g7⟩
        have h9r := h9q.out.grx g7 nB.out
        have h10r := h10q.out.grx g7 (by simp; omega)
        have h13r := h13.out.grx g7 (by simp; omega)
        have r100 : w7.cell? ⟨w4.heap.size, 0, none⟩ = some (.int .i64 x.r) := h10r.cell rfl
        have r101 : w7.cell? ⟨w4.heap.size, 1, none⟩ = some (.int .i64 x.n) := h10r.cell rfl
        have r130 : w7.cell? ⟨wr.heap.size, 0, none⟩ = some (.int .i64 0) := h13r.cell rfl
        have r131 : w7.cell? ⟨wr.heap.size, 1, none⟩ = some (.int .i64 0) := h13r.cell rfl
        have z13 := h13r.lt
        have z10' := h10r.lt
        have hLr := (hL.gr gq).grx g7 (by intro y hy hk; simp at hy; omega)
        have hlr := hlq.out.grx g7 (by intro y hy hk; simp at hy; omega)
        have hab := rabove_any ⟨0, 0⟩ x w7
        clear g7 q90 q91 q130 q131
        cases ha : aboveB ⟨0, 0⟩ x with
        | false =>
          rw [ha] at hab hv7
          replace ha := Lib.hid ha
          replace hv7 := Lib.hid hv7
          replace hab := Lib.hid hab
          go_wp2_with fail
          refine hab.out.mono ?_
          rintro e w8 ⟨rfl, g8⟩
          go_wp2_with fail
          go_roundw
          case rel => exact ⟨i + 1, x, l, R7, aw, cw, Lw, by omega, by go_num, rfl, hl.out, ht.out, hLr.gr g8, hs7.gr g8, hv7.out, h9r.gr g8, h10r.gr g8⟩
          case measure => simp [intOf]; omega
        | true =>
          rw [ha] at hab hv7
          replace ha := Lib.hid ha
          replace hv7 := Lib.hid hv7
          replace hab := Lib.hid hab
          go_wp2_with fail
          refine hab.out.mono ?_
          rintro e w8 ⟨rfl, g8⟩
          have gset : GrX [w4.heap.size] w8 ((w8.setCell ⟨w4.heap.size, 0, none⟩ (.int .i64 0)).setCell ⟨w4.heap.size, 1, none⟩ (.int .i64 0)) := ((GrX.refl _ w8).set (.inl (by simp)) _).set (.inl (by simp)) _
          have hs8 := hs7.gr g8
          have hs9 : Stand (fun b => b ≠ w4.heap.size) W ((w8.setCell ⟨w4.heap.size, 0, none⟩ (.int .i64 0)).setCell ⟨w4.heap.size, 1, none⟩ (.int .i64 0)) rb ab R7 := ⟨hs8.r.far gset (by simp; omega) (by simp; omega) (by intro y hy hk; simp at hy; omega), GrX.all hs8.g gset (by intro y hy; simp at hy; omega), hs8.hr, hs8.ha⟩
          have h9s := (h9r.gr g8).grx gset (by simp; omega)
          have h10s := ((h10r.gr g8).set 0 (.int .i64 0)).set 1 (.int .i64 0)
          have hls := (hlr.gr g8).grx gset (by intro y hy hk; simp at hy; omega)
          have s100 : w8.cell? ⟨w4.heap.size, 0, none⟩ = some (.int .i64 x.r) := (h10r.gr g8).cell rfl
          have s101 : w8.cell? ⟨w4.heap.size, 1, none⟩ = some (.int .i64 x.n) := (h10r.gr g8).cell rfl
          have s130 : w8.cell? ⟨wr.heap.size, 0, none⟩ = some (.int .i64 0) := (h13r.gr g8).cell rfl
          have s131 : w8.cell? ⟨wr.heap.size, 1, none⟩ = some (.int .i64 0) := (h13r.gr g8).cell rfl
          have f8 := fun i => (h10r.gr g8).free i
          have z8 := (h10r.gr g8).lt
          clear r100 r101 r130 r131
          replace h10s := Lib.hid h10s
          go_wp2_with fail
          go_roundw
          case rel => exact ⟨i + 1, ⟨0, 0⟩, _, R7, some ⟨wr.heap.size + 1, 0, none⟩, 0, [], by omega, by go_num, rfl, show ([] : List EntM).map (·.e) = [] from rfl, tells_nil, hls, hs9, hv7.out, h9s, h10s.out⟩
          case measure => simp [intOf]; omega
    · have hie : i = N / 2 + 1 := by omega
      have hv' : R'.v = ntold N x l := by rw [hv]; unfold nst; rw [if_neg hlt]
      obtain ⟨i36, hi0, hz0, hz1, hz2⟩ := info_parts Tryd.infoEnt
      have hLl : Lw.length = l.length := by rw [← hl]; simp
      have hl1 := ht.1
      have hcp := rcopy_any aw cw Lw wr (hL.mono (fun _ _ _ => trivial)) (by omega)
      have hstg := fun w' (h : RndAt (fun b => b ≠ w4.heap.size) w' rb ab R') => stage_any R' w' rb ab h
      rw [show R'.st = 2 by rw [show R'.st = R'.v.st from rfl, hv']; rfl] at hstg
      replace hstg := Lib.hid hstg
      replace hcp := Lib.hid hcp
      replace hv' := Lib.hid hv'
      replace hv := Lib.hid hv
      replace ht := Lib.hid ht
      replace hl := Lib.hid hl
      replace hLl := Lib.hid hLl
      clear h9 h10
      go_wp2_with fail
      refine (hhalf.out _).mono ?_
      rintro e wh ⟨rfl, rfl⟩
      go_wp2_with fail
      refine hcp.out.mono ?_
      rintro e w5 ⟨a5, c5, L5, rfl, m5, l5, n5, p5, q5, g5, o5, d5⟩
      have hL5 : L5.length = Lw.length := by simpa using congrArg List.length m5
      have o5' : w5.ownsRow wr.heap.size 36 10 (.slice a5 Lw.length c5) L5.length (L5.flatMap EntM.cells) := by
        rw [show Value.slice a5 Lw.length c5 = .slice a5 L5.length c5 by rw [hL5]]
        exact o5
      have hm5 : L5.map (·.e) = l := m5.trans hl.out
      have h51 : L5.length ≤ 1 := by rw [hL5, hLl.out]; exact hl1
      have h5l : L5.length = l.length := by rw [hL5, hLl.out]
      replace hm5 := Lib.hid hm5
      replace h5l := Lib.hid h5l
      replace hL5 := Lib.hid hL5
      clear m5 o5 d5
      go_wp2_with fail
      refine (make1_any w5).mono ?_
      rintro e w6 ⟨rfl, g6⟩
      have o6 := owns_gr o5' g6
      have bl6 := owns_lt o6
      have g56 : Gr wr w6 := g5.trans g6
      have z6 := g56.size
      have hrec := recs_alloc EntM.cells_len w6 [mk1] 36 (List.toArray mk1.cells) (by simp)
      have hl63 : L5.length + 1 ≤ maxLen := by unfold maxLen; omega
      have hby : (L5.length + 1) * 96 ≤ 140737488355328 := by omega
      replace bl6 := Lib.hid bl6
      go_wp2_with (at_builtin; refine wpList_append_one (k := 10) (enc := EntM.cells) rfl _ _ 41 rfl wr.heap.size 36 i36 _ 96 Tryd.underlying41 hi0 hz0 hz1 hz2 rfl (by decide) EntM.cells_len EntM.cells_one _ L5 rfl (o6.alloc _) w6.heap.size 1 mk1 rfl hrec hl63 hby (le_alloc z6 _) ?_; intro v7 w7 hown7 hgr7 hat7; obtain ⟨a7, c7, rfl, hr7, _, _⟩ := recs_of_owns EntM.cells_len hown7)
      have g7 : Gr wr w7 := (g56.alloc _).grown hgr7 (fun g hg => (bl6.out g hg).2)
      have hL7 : LedM Any w7 a7 (L5 ++ [mk1]) := by
        refine ⟨⟨hr7, fun _ _ _ => trivial⟩, fun y hy => ?_⟩
        rcases List.mem_append.1 hy with hy | hy
        · have hyl : y.e ∈ l := by rw [← hm5.out]; exact List.mem_map_of_mem hy
          have hyt := (ht.out.2 _ hyl).2
          exact ⟨by rw [hyt]; exact RecsIn.nil _ _ _ _ _, (l5.2 y hy).2⟩
        · rw [List.mem_singleton.1 hy]; exact mk1_ok _ _
      have hs7 := hst.gr g7
      have hmap7 : (L5 ++ [mk1]).map (·.e) = l ++ [mk1.e] := by rw [List.map_append, hm5.out]; rfl
      have hlen7 : (L5 ++ [mk1]).length = l.length + 1 := by simp [h5l.out]
      clear hgr7 hat7 hown7 hr7 o6 o5' l5 hrec
      have hlg := ledger_any R' w7 rb ab hs7.r
      rw [hv'.out, nledger] at hlg
      have hpl := fun w' (g : Gr w7 w') => place19_any W hE i6 R' w' rb ab (hs7.gr g).r (hs7.gr g).g
      rw [hv'.out, nplace N x l ht.out, ← h5l.out] at hpl
      replace hlg := Lib.hid hlg
      replace hpl := Lib.hid hpl
      replace hmap7 := Lib.hid hmap7
      clear hlen7
      go_wp2_with fail
      refine (hstg.out _ hs7.r).mono ?_
      rintro e w8 ⟨rfl, rfl⟩
      go_wp2_with fail
      refine hlg.out.mono ?_
      rintro e w9 ⟨a9, c9, L9, rfl, m9, l9, n9, p9, q9, g9⟩
      have hsl := sameLedger_eq a9 a7 c9 c7 L9 (L5 ++ [mk1]) w9 (l9.mono (fun _ _ _ => trivial)) (hL7.gr g9) (m9.trans hmap7.out.symm) (by omega)
      rw [show (L5 ++ [mk1]).length = L5.length + 1 by simp] at hsl
      replace hsl := Lib.hid hsl
      clear m9
      go_wp2_with fail
      refine hsl.out.mono ?_
      rintro e w10 ⟨rfl, g10⟩
      go_wp2_with fail
      refine (hpl.out _ (g9.trans g10)).mono ?_
      rintro e w11 ⟨rfl, g11⟩
      go_wp2_with fail
      go_ret
      exact ⟨rfl, ((hs7.gr g9).gr g10).g.trans g11⟩
end Go.Proofs.YtblfljpmkgmjaaaDoor
