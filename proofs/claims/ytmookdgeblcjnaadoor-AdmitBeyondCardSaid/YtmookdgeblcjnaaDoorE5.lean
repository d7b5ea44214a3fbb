/- almonerref11: Tasks, Until. -/
import Derived.Test.YtmookdgeblcjnaaDoorE4
namespace Go.Proofs.YtmookdgeblcjnaaDoor
open Go.RowKit

set_option maxHeartbeats 1600000 in
theorem rtasks11_any (a : Option Addr) (l : List Tsk) (c : Nat) (n : Int) (w : World) (hl : TsksAt w a l) (h1 : tasksOk l = true) (h3 : LenOk n) :
    Calls Tryd.prog 18 #[.slice a l.length c, .int .i64 n] w fun e w' => e = .returned (.int .i64 (tasksI l n)) ∧ Gr w w' := by
  have h8 := (tasksOk_parts h1).2
  have hn := h3
  obtain ⟨hn1, hn2⟩ := hn
  replace h1 := Lib.hid h1
  unfold tasksI
  go_enter Tryd.func18, Tryd.ntmps18
  go_wp2_with fail
  go_loopw [11, 5, 6] (fun i v b wr => ∃ k : Nat, k ≤ l.length ∧ i = .int .i64 k ∧ v = .int .i64 (tsumI (l.take k) n) ∧ b = .int .i64 (blkI (l.take k) n) ∧ Gr w wr) (fun i _ _ _ => l.length - (intOf i).toNat)
  case atStart => exact ⟨0, Nat.zero_le _, rfl, rfl, rfl, Gr.refl _⟩
  case round =>
    obtain ⟨k, hk, rfl, rfl, rfl, hg⟩ := hrel
    obtain ⟨sb1, sb2⟩ := tsumI_bd h1.out h3 k
    obtain ⟨bb1, bb2⟩ := blkI_bd h1.out (n := n) k
    by_cases hlt : k < l.length
    · obtain ⟨s, hs⟩ := get_some l k hlt
      obtain ⟨b, off, rfl, hb, c0, c1, c2, c3⟩ := (hl.gr hg) k s hs
      have hleg := legT_mem h1.out hs
      obtain ⟨bd1, bd2⟩ := task_bd hleg h3
      have hsn : tsumI (l.take (k + 1)) n = tsumI (l.take k) n + taskI s n := by unfold tsumI; rw [take_snoc hs, sumI_snoc]
      have hbn : blkI (l.take (k + 1)) n = if n < s.d then max (blkI (l.take k) n) (s.s - 1) else blkI (l.take k) n := by rw [take_snoc hs, blkI_snoc]
      have hl2 := hleg
      obtain ⟨g1, g2, g3, g4, g5, g6⟩ := hl2
      replace hsn := Lib.hid hsn
      generalize tsumI (l.take k) n = m at *
      generalize blkI (l.take k) n = q at *
      by_cases hd : n < s.d
      · rw [if_pos hd] at hbn
        by_cases hq : q < s.s - 1
        · have hbn2 : blkI (l.take (k + 1)) n = s.s - 1 := by omega
          clear hbn
          replace hbn2 := Lib.hid hbn2
          go_wp2_with fail
          refine (rtask_any s n _ hleg h3).mono ?_
          rintro e wd ⟨rfl, gd⟩
          obtain ⟨cd, fd, sd⟩ := gd.cells
          try simp only [size_drewN] at cd fd sd
          try simp only [World.size_alloc] at cd fd sd
          try simp only [World.size_drew] at cd fd sd
          try simp only [World.size_setCell] at cd fd sd
          have zd0 : wr.heap.size < wd.heap.size := by omega
          have yd0 : wr.heap.size ≤ wd.heap.size := by omega
          have kd0 := fun o => cd (wr.heap.size) o (by omega)
          have jd0 := fun o => fd (wr.heap.size) o (by omega)
          go_wp2_with fail
          go_roundw
          case rel => exact ⟨k + 1, by omega, by go_num, by rw [hsn.out], by rw [hbn2.out], (hg.alloc _).trans gd⟩
          case measure => simp [intOf]; omega
        · have hbn2 : blkI (l.take (k + 1)) n = q := by omega
          clear hbn
          replace hbn2 := Lib.hid hbn2
          go_wp2_with fail
          refine (rtask_any s n _ hleg h3).mono ?_
          rintro e wd ⟨rfl, gd⟩
          obtain ⟨cd, fd, sd⟩ := gd.cells
          try simp only [size_drewN] at cd fd sd
          try simp only [World.size_alloc] at cd fd sd
          try simp only [World.size_drew] at cd fd sd
          try simp only [World.size_setCell] at cd fd sd
          have zd0 : wr.heap.size < wd.heap.size := by omega
          have yd0 : wr.heap.size ≤ wd.heap.size := by omega
          have kd0 := fun o => cd (wr.heap.size) o (by omega)
          have jd0 := fun o => fd (wr.heap.size) o (by omega)
          go_wp2_with fail
          go_roundw
          case rel => exact ⟨k + 1, by omega, by go_num, by rw [hsn.out], by rw [hbn2.out], (hg.alloc _).trans gd⟩
          case measure => simp [intOf]; omega
      · rw [if_neg hd] at hbn
        replace hbn := Lib.hid hbn
        go_wp2_with fail
        refine (rtask_any s n _ hleg h3).mono ?_
        rintro e wd ⟨rfl, gd⟩
        obtain ⟨cd, fd, sd⟩ := gd.cells
        try simp only [size_drewN] at cd fd sd
        try simp only [World.size_alloc] at cd fd sd
        try simp only [World.size_drew] at cd fd sd
        try simp only [World.size_setCell] at cd fd sd
        have zd0 : wr.heap.size < wd.heap.size := by omega
        have yd0 : wr.heap.size ≤ wd.heap.size := by omega
        have kd0 := fun o => cd (wr.heap.size) o (by omega)
        have jd0 := fun o => fd (wr.heap.size) o (by omega)
        go_wp2_with fail
        go_roundw
        case rel => exact ⟨k + 1, by omega, by go_num, by rw [hsn.out], by rw [hbn.out], (hg.alloc _).trans gd⟩
        case measure => simp [intOf]; omega
    · have hall : l.take k = l := List.take_of_length_le (by omega)
      rw [hall] at sb1 sb2 bb1 bb2 ⊢
      by_cases h0 : tsumI l n = 0
      · rw [h0] at sb1 sb2 ⊢
        replace h0 := Lib.hid h0
        go_wp2_with fail
        go_ret
        exact ⟨rfl, hg⟩
      · have q0 : 0 < tsumI l n := by omega
        replace h0 := Lib.hid h0
        go_wp2_with fail
        go_ret
        exact ⟨rfl, hg⟩

set_option maxHeartbeats 1600000 in
theorem runtil11_any (a : Option Addr) (l : List Tsk) (c : Nat) (i n : Int) (w : World) (hl : TsksAt w a l) (h1 : tasksOk l = true) (h3 : LenOk n) (hi0 : 0 ≤ i) (hi1 : i < l.length) :
    Calls Tryd.prog 21 #[.slice a l.length c, .int .i64 i, .int .i64 n] w fun e w' => e = .returned (.int .i64 ((untP l i n l.length).1 + (untP l i n l.length).2)) ∧ Gr w w' := by
  have h8 := (tasksOk_parts h1).2
  have hn := h3
  obtain ⟨hn1, hn2⟩ := hn
  replace h1 := Lib.hid h1
  go_enter Tryd.func21, Tryd.ntmps21
  go_wp2_with fail
  go_loopw [14, 7, 8] (fun iv v b wr => ∃ k : Nat, k ≤ l.length ∧ iv = .int .i64 k ∧ v = .int .i64 (untP l i n k).1 ∧ b = .int .i64 (untP l i n k).2 ∧ Gr w wr) (fun i _ _ _ => l.length - (intOf i).toNat)
  case atStart => exact ⟨0, Nat.zero_le _, rfl, rfl, rfl, Gr.refl _⟩
  case round =>
    obtain ⟨k, hk, rfl, rfl, rfl, hg⟩ := hrel
    obtain ⟨sb1, sb2, bb1, bb2⟩ := untP_bd (i := i) h1.out h3 k
    by_cases hlt : k < l.length
    · obtain ⟨s, hs⟩ := get_some l k hlt
      obtain ⟨b, off, rfl, hb, c0, c1, c2, c3⟩ := (hl.gr hg) k s hs
      obtain ⟨g1, g2, g3, g4, g5, g6⟩ := legT_mem h1.out hs
      have p1 : 1 ≤ s.p := by omega
      obtain ⟨u1, u2, u3⟩ := up_mul_le hn1 (show 0 ≤ s.c by omega) p1 (show s.c ≤ s.p by omega)
      have hk8 : (k : Int) ≤ 8 := by omega
      by_cases hd : (k : Int) ≤ i
      · have hst := untP_le (n := n) hs hd
        rw [up_floor p1] at u1 u2 u3 hst
        obtain ⟨q3, q4, q5⟩ := quo_mul_le hn1 (show 0 ≤ s.p by omega) p1 (Int.le_refl _)
        have q6 : n / s.p ≤ n := Int.ediv_le_self _ hn1
        have hf := fun w => floor_any n s.p w h3 p1 g4
        generalize n / s.p = x at *
        replace hf := Lib.hid hf
        generalize untP l i n k = m at *
        obtain ⟨m1, m2⟩ := m
        dsimp only at sb1 sb2 bb1 bb2 hst ⊢
        by_cases hx : x * s.p < n
        · rw [if_pos hx] at u1 u2 u3 hst
          replace hst := Lib.hid hst
          go_wp2_with fail
          refine (hf.out _).mono ?_
          rintro e wd ⟨rfl, rfl⟩
          go_wp2_with fail
          go_roundw
          case rel => exact ⟨k + 1, by omega, by go_num, by rw [hst.out], by rw [hst.out], hg.alloc _⟩
          case measure => simp [intOf]; omega
        · rw [if_neg hx] at u1 u2 u3 hst
          replace hst := Lib.hid hst
          go_wp2_with fail
          refine (hf.out _).mono ?_
          rintro e wd ⟨rfl, rfl⟩
          go_wp2_with fail
          go_roundw
          case rel => exact ⟨k + 1, by omega, by go_num, by rw [hst.out], by rw [hst.out], hg.alloc _⟩
          case measure => simp [intOf]; omega
      · have hst := untP_gt (n := n) hs hd
        generalize untP l i n k = m at *
        obtain ⟨m1, m2⟩ := m
        dsimp only at sb1 sb2 bb1 bb2 hst ⊢
        by_cases hq : m2 < s.s - 1
        · have hst2 : untP l i n (k + 1) = (m1, s.s - 1) := by rw [hst]; congr 1; omega
          clear hst
          replace hst2 := Lib.hid hst2
          go_wp2_with fail
          go_roundw
          case rel => exact ⟨k + 1, by omega, by go_num, by rw [hst2.out], by rw [hst2.out], hg.alloc _⟩
          case measure => simp [intOf]; omega
        · have hst2 : untP l i n (k + 1) = (m1, m2) := by rw [hst]; congr 1; omega
          clear hst
          replace hst2 := Lib.hid hst2
          go_wp2_with fail
          go_roundw
          case rel => exact ⟨k + 1, by omega, by go_num, by rw [hst2.out], by rw [hst2.out], hg.alloc _⟩
          case measure => simp [intOf]; omega
    · obtain rfl : k = l.length := by omega
      go_wp2_with fail
      go_ret
      exact ⟨rfl, hg⟩
end Go.Proofs.YtmookdgeblcjnaaDoor
