/- AdmitFewer: the other cases; the whole. -/
import Derived.Test.YtmookdgeblcjnaaDoorH13
namespace Go.Proofs.YtmookdgeblcjnaaDoor
open Go.RowKit

set_option maxRecDepth 100000 in
set_option maxHeartbeats 6400000 in
theorem admitFewer_none {G : List Nat} {E : Nat → Addr} (W : World) (hE : EAt G E W) (i0 : 0 ∈ G) (i1 : 1 ∈ G) (i3 : 3 ∈ G) (i4 : 4 ∈ G) (s : Srv) (la : Option Addr) (lc : Nat) (l : List Srv) (ta : Option Addr) (tc : Nat) (t : List Tsk) (n : Int)
    (hta : TsksAt W ta t) (htc : t.length ≤ tc) (htm : t.length * 32 ≤ 140737488351232) (htx : tc ≤ maxLen) (h0 : l.length = 0) :
    Calls Tryd.prog 5 #[.agg #[.int .i64 s.k, .int .i64 s.q, .int .i64 s.t, .slice la l.length lc, .slice ta t.length tc, .int .i64 n]] W fun e w' => e = .returned (.bool true) ∧ Gr W w' := by
  have gw := (((Gr.refl W).alloc (.cells #[.int .i64 s.k, .int .i64 s.q, .int .i64 s.t, .slice la l.length lc, .slice ta t.length tc, .int .i64 n] 48)).alloc (.cells #[.int .i64 s.k, .int .i64 s.q, .int .i64 s.t] 23)).drew
  have hal := alive12_any _ (hE.gr gw) i0 i1 i3
  obtain ⟨o, hgo, hgn⟩ := guest2_any W hE i0 i1 i4 s ta t tc hta (by omega)
  replace hgo := Lib.hid hgo
  replace hgn := Lib.hid hgn
  unfold maxLen at htx
  replace hal := Lib.hid hal
  have h00 : (l.length : Int) ≤ 0 := by omega
  replace h0 := Lib.hid h0
  go_enter Tryd.func5, Tryd.ntmps5
  go_wp2_with fail
  go_region
  go_wp2_with fail
  refine hal.out.mono ?_
  rintro e w5 ⟨rfl, g1⟩
  have g05 := gw.trans g1
  have hB1 := ((Blk.new (W.alloc (.cells #[.int .i64 s.k, .int .i64 s.q, .int .i64 s.t, .slice la l.length lc, .slice ta t.length tc, .int .i64 n] 48)) #[.int .i64 s.k, .int .i64 s.q, .int .i64 s.t] 23).drew).gr g1
  have y0 : w5.cell? ⟨W.heap.size + 1, 0, none⟩ = some (.int .i64 s.k) := by have := hB1.cell (i := 0) rfl; simpa using this
  have y1 : w5.cell? ⟨W.heap.size + 1, 1, none⟩ = some (.int .i64 s.q) := by have := hB1.cell (i := 1) rfl; simpa using this
  have y2 : w5.cell? ⟨W.heap.size + 1, 2, none⟩ = some (.int .i64 s.t) := by have := hB1.cell (i := 2) rfl; simpa using this
  have zy5 : W.heap.size + 1 < w5.heap.size := by have := hB1.lt; simpa using this
  clear hB1 hal
  by_cases hT : 1 < t.length
  · have hT2 : (1 : Int) < (t.length : Int) := by omega
    have hgg := hgo.out w5 g05
    cases o with
    | some g0 =>
      replace hgg : Calls Tryd.prog 15 #[.agg #[.int .i64 s.k, .int .i64 s.q, .int .i64 s.t], .int .i64 2, .slice ta t.length tc] w5 fun e w' => e = .returned (errAt E g0) ∧ Gr w5 w' := hgg
      replace hgg := Lib.hid hgg
      go_wp2_with fail
      refine hgg.out.mono ?_
      rintro e w6 ⟨rfl, g6⟩
      go_wp2_with fail
      go_ret
      exact ⟨rfl, g05.trans g6⟩
    | none =>
      obtain ⟨hp5, hg2, hf2⟩ := hgn.out rfl
      replace hgg : Calls Tryd.prog 15 #[.agg #[.int .i64 s.k, .int .i64 s.q, .int .i64 s.t], .int .i64 2, .slice ta t.length tc] w5 fun e w' => e = .returned .nilIface ∧ Gr w5 w' := hgg
      replace hgg := Lib.hid hgg
      obtain ⟨N1, hN1⟩ : ∃ N1 : Nat, (t.length : Int) - 1 = (N1 : Int) := ⟨t.length - 1, by omega⟩
      have hN2 : 1 ≤ N1 := by omega
      obtain ⟨q, hqr, hqN⟩ := from_ok n N1 hN2
      have u1 : -(N1 : Int) < n.tmod N1 := by have := Int.lt_tmod_of_pos n (b := (N1 : Int)) (by omega); omega
      have u2 : n.tmod N1 < N1 := Int.tmod_lt_of_pos n (by omega)
      have hq3 : n.tmod N1 + (t.length : Int) - 1 = n.tmod N1 + N1 := by omega
      have hq2 : (n.tmod N1 + N1) % (N1 : Int) = (q : Int) := by rw [← Int.tmod_eq_emod_of_nonneg (by omega)]; exact hqr
      have hq5 : (1 : Int) + (q : Int) = ((q + 1 : Nat) : Int) := by omega
      obtain ⟨hg5, hf5⟩ := guest_first (s := s) (n := q + 1) (by omega) (by omega) hg2 hf2
      have hgf : ∀ w, Gr W w → Calls Tryd.prog 15 #[.agg #[.int .i64 s.k, .int .i64 s.q, .int .i64 s.t], .int .i64 2, .slice ta (q + 1) (q + 1)] w fun e w' => e = .returned .nilIface ∧ Gr w w' := fun w g => by
        have := guestO_any s ta (t.take (q + 1)) (q + 1) w (hE.gr g) i1 hp5 (recs_tsks (recs_take (tsks_recs (hta.gr g)) (q + 1))) hg5
        rw [hf5, List.length_take, Nat.min_eq_left (by omega)] at this
        exact this
      replace hgf := Lib.hid hgf
      replace hg2 := Lib.hid hg2
      replace hf2 := Lib.hid hf2
      replace hg5 := Lib.hid hg5
      replace hf5 := Lib.hid hf5
      go_wp2_with fail
      refine hgg.out.mono ?_
      rintro e w6 ⟨rfl, g6⟩
      have g06 := g05.trans g6
      have y0' : w6.cell? ⟨W.heap.size + 1, 0, none⟩ = some (.int .i64 s.k) := by rw [g6.cells.1 _ _ zy5]; exact y0
      have y1' : w6.cell? ⟨W.heap.size + 1, 1, none⟩ = some (.int .i64 s.q) := by rw [g6.cells.1 _ _ zy5]; exact y1
      have y2' : w6.cell? ⟨W.heap.size + 1, 2, none⟩ = some (.int .i64 s.t) := by rw [g6.cells.1 _ _ zy5]; exact y2
      have q0 := GrW.cell y0'
      have q1 := GrW.cell y1'
      have q2 := GrW.cell y2'
      have v1 : (0 : Int) ≤ (q : Int) + 1 := by omega
      have v2 : (q : Int) + 1 ≤ (tc : Int) := by omega
      have v3 : ((q : Int) + 1).toNat = q + 1 := by omega
      go_wp2_with fail
      refine wp_region_grows (by kernel_rfl) (by kernel_rfl) ?_
      repeat (any_goals (first | go_big_quiet_step (first | (exact Calls.grows (hgf.out _ (g06.trans (by exact GrW.gr _))))) | quiet_step (first | (exact Calls.grows (hgf.out _ (g06.trans (by exact GrW.gr _)))))))
      refine wpQuiet_nil ?_
      intro w7 hwq
      have g7 := GrW.of hwq
      clear hwq
      obtain ⟨c7, f7, s7⟩ := g7.cells
      try simp only [size_drewN] at c7 f7 s7
      try simp only [World.size_alloc] at c7 f7 s7
      try simp only [World.size_drew] at c7 f7 s7
      try simp only [World.size_setCell] at c7 f7 s7
      go_wp2_with fail
      go_ret
      exact ⟨rfl, g06.trans g7⟩
  · have hT2 : (t.length : Int) ≤ 1 := by omega
    go_wp2_with fail
    go_ret
    exact ⟨rfl, g05⟩

set_option maxRecDepth 100000 in
set_option maxHeartbeats 6400000 in
theorem admitFewer_err {G : List Nat} {E : Nat → Addr} (W : World) (hE : EAt G E W) (i0 : 0 ∈ G) (i1 : 1 ∈ G) (i3 : 3 ∈ G) (i4 : 4 ∈ G) (s : Srv) (la : Option Addr) (lc : Nat) (l : List Srv) (ta : Option Addr) (tc : Nat) (t : List Tsk) (n : Int)
    (hta : TsksAt W ta t) (htc : t.length ≤ tc) (htm : t.length * 32 ≤ 140737488351232) (htx : tc ≤ maxLen) (hl : SrvsAt W la l) (hm : l.length ≤ maxLen) (h1 : 1 ≤ l.length) (g0 : Nat) (hk : kidsErr s l = some g0) :
    Calls Tryd.prog 5 #[.agg #[.int .i64 s.k, .int .i64 s.q, .int .i64 s.t, .slice la l.length lc, .slice ta t.length tc, .int .i64 n]] W fun e w' => e = .returned (.bool true) ∧ Gr W w' := by
  have gw := (((Gr.refl W).alloc (.cells #[.int .i64 s.k, .int .i64 s.q, .int .i64 s.t, .slice la l.length lc, .slice ta t.length tc, .int .i64 n] 48)).alloc (.cells #[.int .i64 s.k, .int .i64 s.q, .int .i64 s.t] 23)).drew
  have hal := alive12_any _ (hE.gr gw) i0 i1 i3
  obtain ⟨o, hgo, hgn⟩ := guest2_any W hE i0 i1 i4 s ta t tc hta (by omega)
  replace hgo := Lib.hid hgo
  replace hgn := Lib.hid hgn
  unfold maxLen at htx
  replace hal := Lib.hid hal
  have hki : ∀ w, Gr W w → Calls Tryd.prog 10 #[.agg #[.int .i64 s.k, .int .i64 s.q, .int .i64 s.t], .slice la l.length lc] w fun e w' => e = .returned (errAt E g0) ∧ Gr w w' := fun w g => by
    have := kids_any s la l lc w (hE.gr g) i0 i1 i3 (hl.gr g) hm
    rw [hk] at this
    exact this
  have h00 : 0 < (l.length : Int) := by omega
  unfold maxLen at hm
  replace hki := Lib.hid hki
  replace hk := Lib.hid hk
  go_enter Tryd.func5, Tryd.ntmps5
  go_wp2_with fail
  go_region
  go_wp2_with fail
  refine hal.out.mono ?_
  rintro e w1 ⟨rfl, g1⟩
  have gA := gw.trans g1
  have hB1 := ((Blk.new (W.alloc (.cells #[.int .i64 s.k, .int .i64 s.q, .int .i64 s.t, .slice la l.length lc, .slice ta t.length tc, .int .i64 n] 48)) #[.int .i64 s.k, .int .i64 s.q, .int .i64 s.t] 23).drew).gr g1
  have x0 : w1.cell? ⟨W.heap.size + 1, 0, none⟩ = some (.int .i64 s.k) := by have := hB1.cell (i := 0) rfl; simpa using this
  have x1 : w1.cell? ⟨W.heap.size + 1, 1, none⟩ = some (.int .i64 s.q) := by have := hB1.cell (i := 1) rfl; simpa using this
  have x2 : w1.cell? ⟨W.heap.size + 1, 2, none⟩ = some (.int .i64 s.t) := by have := hB1.cell (i := 2) rfl; simpa using this
  have zx : W.heap.size + 1 < w1.heap.size := by have := hB1.lt; simpa using this
  clear hal
  go_wp2_with fail
  refine (hki.out _ gA).mono ?_
  rintro e w5 ⟨rfl, g2⟩
  have g05 := gA.trans g2
  have hB2 := hB1.gr g2
  have y0 : w5.cell? ⟨W.heap.size + 1, 0, none⟩ = some (.int .i64 s.k) := by have := hB2.cell (i := 0) rfl; simpa using this
  have y1 : w5.cell? ⟨W.heap.size + 1, 1, none⟩ = some (.int .i64 s.q) := by have := hB2.cell (i := 1) rfl; simpa using this
  have y2 : w5.cell? ⟨W.heap.size + 1, 2, none⟩ = some (.int .i64 s.t) := by have := hB2.cell (i := 2) rfl; simpa using this
  have zy5 : W.heap.size + 1 < w5.heap.size := by have := hB2.lt; simpa using this
  clear hB1 hB2 x0 x1 x2
  by_cases hT : 1 < t.length
  · have hT2 : (1 : Int) < (t.length : Int) := by omega
    have hgg := hgo.out w5 g05
    cases o with
    | some g0 =>
      replace hgg : Calls Tryd.prog 15 #[.agg #[.int .i64 s.k, .int .i64 s.q, .int .i64 s.t], .int .i64 2, .slice ta t.length tc] w5 fun e w' => e = .returned (errAt E g0) ∧ Gr w5 w' := hgg
      replace hgg := Lib.hid hgg
      go_wp2_with fail
      refine hgg.out.mono ?_
      rintro e w6 ⟨rfl, g6⟩
      go_wp2_with fail
      go_ret
      exact ⟨rfl, g05.trans g6⟩
    | none =>
      obtain ⟨hp5, hg2, hf2⟩ := hgn.out rfl
      replace hgg : Calls Tryd.prog 15 #[.agg #[.int .i64 s.k, .int .i64 s.q, .int .i64 s.t], .int .i64 2, .slice ta t.length tc] w5 fun e w' => e = .returned .nilIface ∧ Gr w5 w' := hgg
      replace hgg := Lib.hid hgg
      obtain ⟨N1, hN1⟩ : ∃ N1 : Nat, (t.length : Int) - 1 = (N1 : Int) := ⟨t.length - 1, by omega⟩
      have hN2 : 1 ≤ N1 := by omega
      obtain ⟨q, hqr, hqN⟩ := from_ok n N1 hN2
      have u1 : -(N1 : Int) < n.tmod N1 := by have := Int.lt_tmod_of_pos n (b := (N1 : Int)) (by omega); omega
      have u2 : n.tmod N1 < N1 := Int.tmod_lt_of_pos n (by omega)
      have hq3 : n.tmod N1 + (t.length : Int) - 1 = n.tmod N1 + N1 := by omega
      have hq2 : (n.tmod N1 + N1) % (N1 : Int) = (q : Int) := by rw [← Int.tmod_eq_emod_of_nonneg (by omega)]; exact hqr
      have hq5 : (1 : Int) + (q : Int) = ((q + 1 : Nat) : Int) := by omega
      obtain ⟨hg5, hf5⟩ := guest_first (s := s) (n := q + 1) (by omega) (by omega) hg2 hf2
      have hgf : ∀ w, Gr W w → Calls Tryd.prog 15 #[.agg #[.int .i64 s.k, .int .i64 s.q, .int .i64 s.t], .int .i64 2, .slice ta (q + 1) (q + 1)] w fun e w' => e = .returned .nilIface ∧ Gr w w' := fun w g => by
        have := guestO_any s ta (t.take (q + 1)) (q + 1) w (hE.gr g) i1 hp5 (recs_tsks (recs_take (tsks_recs (hta.gr g)) (q + 1))) hg5
        rw [hf5, List.length_take, Nat.min_eq_left (by omega)] at this
        exact this
      replace hgf := Lib.hid hgf
      replace hg2 := Lib.hid hg2
      replace hf2 := Lib.hid hf2
      replace hg5 := Lib.hid hg5
      replace hf5 := Lib.hid hf5
      go_wp2_with fail
      refine hgg.out.mono ?_
      rintro e w6 ⟨rfl, g6⟩
      have g06 := g05.trans g6
      have y0' : w6.cell? ⟨W.heap.size + 1, 0, none⟩ = some (.int .i64 s.k) := by rw [g6.cells.1 _ _ zy5]; exact y0
      have y1' : w6.cell? ⟨W.heap.size + 1, 1, none⟩ = some (.int .i64 s.q) := by rw [g6.cells.1 _ _ zy5]; exact y1
      have y2' : w6.cell? ⟨W.heap.size + 1, 2, none⟩ = some (.int .i64 s.t) := by rw [g6.cells.1 _ _ zy5]; exact y2
      have q0 := GrW.cell y0'
      have q1 := GrW.cell y1'
      have q2 := GrW.cell y2'
      have v1 : (0 : Int) ≤ (q : Int) + 1 := by omega
      have v2 : (q : Int) + 1 ≤ (tc : Int) := by omega
      have v3 : ((q : Int) + 1).toNat = q + 1 := by omega
      go_wp2_with fail
      refine wp_region_grows (by kernel_rfl) (by kernel_rfl) ?_
      repeat (any_goals (first | go_big_quiet_step (first | (exact Calls.grows (hgf.out _ (g06.trans (by exact GrW.gr _))))) | quiet_step (first | (exact Calls.grows (hgf.out _ (g06.trans (by exact GrW.gr _)))))))
      refine wpQuiet_nil ?_
      intro w7 hwq
      have g7 := GrW.of hwq
      clear hwq
      obtain ⟨c7, f7, s7⟩ := g7.cells
      try simp only [size_drewN] at c7 f7 s7
      try simp only [World.size_alloc] at c7 f7 s7
      try simp only [World.size_drew] at c7 f7 s7
      try simp only [World.size_setCell] at c7 f7 s7
      go_wp2_with fail
      go_ret
      exact ⟨rfl, g06.trans g7⟩
  · have hT2 : (t.length : Int) ≤ 1 := by omega
    go_wp2_with fail
    go_ret
    exact ⟨rfl, g05⟩

theorem admitFewer_any {G : List Nat} {E : Nat → Addr} (W : World) (hE : EAt G E W) (i0 : 0 ∈ G) (i1 : 1 ∈ G) (i3 : 3 ∈ G) (i4 : 4 ∈ G) (x : Ask12) (hx : x.At W) :
    Calls Tryd.prog 5 #[x.val] W fun e w' => e = .returned (.bool true) ∧ Gr W w' := by
  obtain ⟨s, la, lc, l, ta, tc, t, n⟩ := x
  obtain ⟨a1, a2, a3, a4, a5, b1, b2, b3, b4, b5⟩ := hx
  dsimp only at a1 a2 a3 a4 a5 b1 b2 b3 b4 b5
  by_cases h0 : l.length = 0
  · exact admitFewer_none W hE i0 i1 i3 i4 s la lc l ta tc t n b1 b3 b5 b4 h0
  · cases hk : kidsErr s l with
    | some g0 => exact admitFewer_err W hE i0 i1 i3 i4 s la lc l ta tc t n b1 b3 b5 b4 a1 (by omega) (by omega) g0 hk
    | none =>
      obtain ⟨x0, hx0⟩ := get_some l 0 (by omega)
      obtain ⟨b, off, hb, _⟩ := a1 0 x0 hx0
      subst hb
      exact admitFewer_try W hE i0 i1 i3 i4 s b off lc l ta tc t n a1 a3 a4 b1 b3 b5 b4 (by omega) hk
end Go.Proofs.YtmookdgeblcjnaaDoor
