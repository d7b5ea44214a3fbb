/- AdmitBeyond: the walk. -/
import Derived.Test.YtmookdgeblcjnaaDoorH22
import Derived.Test.YtmookdgeblcjnaaDoorH7
import Derived.Test.YtmookdgeblcjnaaDoorE5
import Derived.Test.YtmookdgeblcjnaaDoorL4
namespace Go.Proofs.YtmookdgeblcjnaaDoor
open Go.RowKit

theorem mask38 (n : Int) : 0 ≤ bits .and .i64 n 274877906943 ∧ bits .and .i64 n 274877906943 ≤ 274877906943 := by
  have e : bits .and .i64 n 274877906943 = n % 274877906944 := by
    have h38 : (BitVec.ofInt 64 274877906943).toNat = 2 ^ 38 - 1 := by decide
    have key : (BitVec.ofInt 64 n &&& BitVec.ofInt 64 274877906943).toNat = (n % ((2 ^ 64 : Nat) : Int)).toNat % 2 ^ 38 := by
      rw [BitVec.toNat_and, BitVec.toNat_ofInt, h38, Nat.and_two_pow_sub_one_eq_mod]
    show IntKind.i64.wrap ((BitVec.ofInt 64 n &&& BitVec.ofInt 64 274877906943).toNat : Nat) = n % 274877906944
    rw [key, IntKind.wrap_i64]
    omega
  rw [e]
  omega

/-- Guest under PolicyDeadline: an error, or the guest fits. -/
theorem guest1_any {G : List Nat} {E : Nat → Addr} (W : World) (hE : EAt G E W) (i0 : 0 ∈ G) (i1 : 1 ∈ G) (i4 : 4 ∈ G) (s : Srv) (a : Option Addr) (t : List Tsk) (c : Nat) (ht : TsksAt W a t) (hm : t.length ≤ maxLen) :
    ∃ o : Option Nat, (∀ w, Gr W w → Calls Tryd.prog 15 #[.agg #[.int .i64 s.k, .int .i64 s.q, .int .i64 s.t], .int .i64 1, .slice a t.length c] w fun e w' => e = .returned (errV E o) ∧ Gr w w') ∧ (o = none → parOk s = true ∧ tasksOk t = true ∧ ∀ n : Nat, tasksI t n ≤ givI (rowI s) n) := by
  cases hp : parOk s with
  | false => exact ⟨some 0, fun w g => guest_par s 1 a t c w (hE.gr g) i0 hp, fun h => by cases h⟩
  | true =>
    cases hg : guestOk 1 t with
    | false => exact ⟨some 4, fun w g => guest_bad s 1 a t c w (hE.gr g) i4 hp (ht.gr g) hm hg, fun h => by cases h⟩
    | true =>
      cases hb1 : lineB s (shareT t) (sumC t + maxS t) with
      | false => exact ⟨some 1, fun w g => guestD_line s a t c w (hE.gr g) i0 i1 hp (ht.gr g) hg hb1, fun h => by cases h⟩
      | true =>
        cases hb2 : fitsD s t with
        | false => exact ⟨some 1, fun w g => guestD_over s a t c w (hE.gr g) i0 i1 hp (ht.gr g) hg hb1 hb2, fun h => by cases h⟩
        | true =>
          refine ⟨none, fun w g => guestD_yes s a t c w (hE.gr g) i0 hp (ht.gr g) hg hb1 hb2, fun _ => ?_⟩
          obtain ⟨_, _, hok⟩ := (guestOk_iff 1 t).1 hg
          refine ⟨rfl, hok, fun n => tasks_beyond hp hok hb1 (fun x x1 x2 hd => ?_) n⟩
          have e : ((x.toNat : Nat) : Int) = x := by omega
          have := fitsD_iff.1 hb2 x.toNat (by omega) (by rw [e]; exact hd)
          rwa [e] at this

set_option maxRecDepth 100000 in
set_option maxHeartbeats 6400000 in
theorem admitBeyond_any {G : List Nat} {E : Nat → Addr} (W : World) (hE : EAt G E W) (i0 : 0 ∈ G) (i1 : 1 ∈ G) (i3 : 3 ∈ G) (i4 : 4 ∈ G) (x : Ask12) (hx : x.At W) :
    Calls Tryd.prog 6 #[x.val] W fun e w' => e = .returned (.bool true) ∧ Gr W w' := by
  obtain ⟨s, la, lc, l, ta, tc, t, n⟩ := x
  obtain ⟨a1, a2, a3, a4, a5, b1, b2, b3, b4, b5⟩ := hx
  dsimp only at a1 a2 a3 a4 a5 b1 b2 b3 b4 b5
  show Calls Tryd.prog 6 #[.agg #[.int .i64 s.k, .int .i64 s.q, .int .i64 s.t, .slice la l.length lc, .slice ta t.length tc, .int .i64 n]] W fun e w' => e = .returned (.bool true) ∧ Gr W w'
  have gw := (((Gr.refl W).alloc (.cells #[.int .i64 s.k, .int .i64 s.q, .int .i64 s.t, .slice la l.length lc, .slice ta t.length tc, .int .i64 n] 48)).alloc (.cells #[.int .i64 s.k, .int .i64 s.q, .int .i64 s.t] 23)).drew
  have hal := alive12_any _ (hE.gr gw) i0 i1 i3
  obtain ⟨M1, M2⟩ := mask38 n
  have hLo : LenOk (bits .and .i64 n 274877906943 + 1) := ⟨by omega, by omega⟩
  have hLn : (((bits .and .i64 n 274877906943 + 1).toNat : Nat) : Int) = bits .and .i64 n 274877906943 + 1 := by omega
  obtain ⟨o1, hko, hkn⟩ : ∃ o1 : Option Nat, o1 = kidsErr s l ∧ (o1 = none → parOk s = true ∧ srvErr l = none ∧ ∀ k : Nat, demI l k ≤ givI (rowI s) k) := ⟨_, rfl, fun h => ⟨(kids_parts h).1, (kids_parts h).2.1, fun k => kids_beyond h k⟩⟩
  have hki := fun w (g : Gr W w) => kids_any s la l lc w (hE.gr g) i0 i1 i3 (a1.gr g) (by unfold maxLen; omega)
  rw [← hko] at hki
  replace hko := Lib.hid hko
  obtain ⟨o2, hgo, hgn⟩ := guest1_any W hE i0 i1 i4 s ta t tc b1 (by unfold maxLen; omega)
  have hrb := fun (hp : parOk s = true) w => rbound10_any s (bits .and .i64 n 274877906943 + 1) w hp hLo
  have hrs := fun (h : srvErr l = none) w (g : Gr W w) => rservers11_any la l lc (bits .and .i64 n 274877906943 + 1) w (a1.gr g) (srvErr_none h).1 (srvErr_none h).2 hLo
  have hrt := fun (h : tasksOk t = true) w (g : Gr W w) => rtasks11_any ta t tc (bits .and .i64 n 274877906943 + 1) w (b1.gr g) h hLo
  have hdb := fun (h : srvErr l = none) => demI_bd (srvErr_none h).1 (srvErr_none h).2 hLo
  have htb := fun (h : tasksOk t = true) => tasksI_bd h hLo
  replace hal := Lib.hid hal
  replace hki := Lib.hid hki
  replace hgo := Lib.hid hgo
  replace hrb := Lib.hid hrb
  replace hrs := Lib.hid hrs
  replace hrt := Lib.hid hrt
  replace hdb := Lib.hid hdb
  replace htb := Lib.hid htb
  go_enter Tryd.func6, Tryd.ntmps6
  go_wp2_with fail
  go_region
  go_wp2_with fail
  refine hal.out.mono ?_
  rintro e w1 ⟨rfl, g1⟩
  have gA := gw.trans g1
  have hB1 := ((Blk.new (W.alloc (.cells #[.int .i64 s.k, .int .i64 s.q, .int .i64 s.t, .slice la l.length lc, .slice ta t.length tc, .int .i64 n] 48)) #[.int .i64 s.k, .int .i64 s.q, .int .i64 s.t] 23).drew).gr g1
  replace hB1 := Lib.hid hB1
  have x0 : w1.cell? ⟨W.heap.size + 1, 0, none⟩ = some (.int .i64 s.k) := by have := hB1.out.cell (i := 0) rfl; simpa using this
  have x1 : w1.cell? ⟨W.heap.size + 1, 1, none⟩ = some (.int .i64 s.q) := by have := hB1.out.cell (i := 1) rfl; simpa using this
  have x2 : w1.cell? ⟨W.heap.size + 1, 2, none⟩ = some (.int .i64 s.t) := by have := hB1.out.cell (i := 2) rfl; simpa using this
  have q0 := GrW.cell x0
  have q1 := GrW.cell x1
  have q2 := GrW.cell x2
  clear hal
  cases o1 with
  | none =>
    obtain ⟨hp, hs, hbe⟩ := hkn rfl
    have hle := hbe (bits .and .i64 n 274877906943 + 1).toNat
    rw [hLn] at hle
    have hki1 : ∀ w, Gr W w → Calls Tryd.prog 10 #[.agg #[.int .i64 s.k, .int .i64 s.q, .int .i64 s.t], .slice la l.length lc] w fun e w' => e = .returned .nilIface ∧ Gr w w' := hki.out
    have hrs1 : ∀ w, Gr W w → Calls Tryd.prog 16 #[.slice la l.length lc, .int .i64 (bits .and .i64 n 274877906943 + 1)] w fun e w' => e = .returned (.int .i64 (demI l (bits .and .i64 n 274877906943 + 1))) ∧ Gr w w' := hrs.out hs
    have hrb1 := hrb.out hp
    obtain ⟨d1, d2⟩ := hdb.out hs
    replace hki1 := Lib.hid hki1
    replace hrs1 := Lib.hid hrs1
    replace hrb1 := Lib.hid hrb1
    replace hp := Lib.hid hp
    replace hs := Lib.hid hs
    clear hbe hkn hki
    go_wp2_with fail
    refine wp_region_grows (by kernel_rfl) (by kernel_rfl) ?_
    repeat (any_goals (first | go_big_quiet_step (first | (go_at_call 10; exact Calls.grows (hki1.out _ (gA.trans (by exact GrW.gr _)))) | (go_at_call 16; exact Calls.grows (hrs1.out _ (gA.trans (by exact GrW.gr _)))) | (go_at_call 17; exact Calls.grows (hrb1.out _))) | quiet_step (first | (go_at_call 10; exact Calls.grows (hki1.out _ (gA.trans (by exact GrW.gr _)))) | (go_at_call 16; exact Calls.grows (hrs1.out _ (gA.trans (by exact GrW.gr _)))) | (go_at_call 17; exact Calls.grows (hrb1.out _)))))
    refine wpQuiet_nil ?_
    intro wp hwq
    have gp := GrW.of hwq
    clear hwq
    obtain ⟨cp, fp, sp⟩ := gp.cells
    try simp only [size_drewN] at cp fp sp
    try simp only [World.size_alloc] at cp fp sp
    try simp only [World.size_drew] at cp fp sp
    try simp only [World.size_setCell] at cp fp sp
    have gB := gA.trans gp
    have hB2 := hB1.out.gr gp
    have y0 : wp.cell? ⟨W.heap.size + 1, 0, none⟩ = some (.int .i64 s.k) := by have := hB2.cell (i := 0) rfl; simpa using this
    have y1 : wp.cell? ⟨W.heap.size + 1, 1, none⟩ = some (.int .i64 s.q) := by have := hB2.cell (i := 1) rfl; simpa using this
    have y2 : wp.cell? ⟨W.heap.size + 1, 2, none⟩ = some (.int .i64 s.t) := by have := hB2.cell (i := 2) rfl; simpa using this
    have r0 := GrW.cell y0
    have r1 := GrW.cell y1
    have r2 := GrW.cell y2
    clear q0 q1 q2 x0 x1 x2 hB2
    cases o2 with
    | none =>
      obtain ⟨hp2, hok, hbe2⟩ := hgn rfl
      have hle2 := hbe2 (bits .and .i64 n 274877906943 + 1).toNat
      rw [hLn] at hle2
      have hgo1 : ∀ w, Gr W w → Calls Tryd.prog 15 #[.agg #[.int .i64 s.k, .int .i64 s.q, .int .i64 s.t], .int .i64 1, .slice ta t.length tc] w fun e w' => e = .returned .nilIface ∧ Gr w w' := hgo.out
      have hrt1 := hrt.out hok
      have hrb2 := hrb.out hp2
      obtain ⟨d3, d4⟩ := htb.out hok
      replace hgo1 := Lib.hid hgo1
      replace hrt1 := Lib.hid hrt1
      replace hrb2 := Lib.hid hrb2
      replace hp2 := Lib.hid hp2
      replace hok := Lib.hid hok
      clear hbe2 hgn hgo
      go_wp2_with fail
      refine wp_region_grows (by kernel_rfl) (by kernel_rfl) ?_
      repeat (any_goals (first | go_big_quiet_step (first | (go_at_call 15; exact Calls.grows (hgo1.out _ (gB.trans (by exact GrW.gr _)))) | (go_at_call 18; exact Calls.grows (hrt1.out _ (gB.trans (by exact GrW.gr _)))) | (go_at_call 17; exact Calls.grows (hrb2.out _))) | quiet_step (first | (go_at_call 15; exact Calls.grows (hgo1.out _ (gB.trans (by exact GrW.gr _)))) | (go_at_call 18; exact Calls.grows (hrt1.out _ (gB.trans (by exact GrW.gr _)))) | (go_at_call 17; exact Calls.grows (hrb2.out _)))))
      refine wpQuiet_nil ?_
      intro wq hwq
      have gq := GrW.of hwq
      clear hwq
      obtain ⟨cq, fq, sq⟩ := gq.cells
      try simp only [size_drewN] at cq fq sq
      try simp only [World.size_alloc] at cq fq sq
      try simp only [World.size_drew] at cq fq sq
      try simp only [World.size_setCell] at cq fq sq
      go_wp2_with fail
      go_ret
      exact ⟨rfl, gB.trans gq⟩
    | some g1 =>
      have hgo1 : ∀ w, Gr W w → Calls Tryd.prog 15 #[.agg #[.int .i64 s.k, .int .i64 s.q, .int .i64 s.t], .int .i64 1, .slice ta t.length tc] w fun e w' => e = .returned (errAt E g1) ∧ Gr w w' := hgo.out
      replace hgo1 := Lib.hid hgo1
      clear hgn hgo
      go_wp2_with fail
      refine wp_region_grows (by kernel_rfl) (by kernel_rfl) ?_
      repeat (any_goals (first | go_big_quiet_step (first | (go_at_call 15; exact Calls.grows (hgo1.out _ (gB.trans (by exact GrW.gr _))))) | quiet_step (first | (go_at_call 15; exact Calls.grows (hgo1.out _ (gB.trans (by exact GrW.gr _)))))))
      refine wpQuiet_nil ?_
      intro wq hwq
      have gq := GrW.of hwq
      clear hwq
      obtain ⟨cq, fq, sq⟩ := gq.cells
      try simp only [size_drewN] at cq fq sq
      try simp only [World.size_alloc] at cq fq sq
      try simp only [World.size_drew] at cq fq sq
      try simp only [World.size_setCell] at cq fq sq
      go_wp2_with fail
      go_ret
      exact ⟨rfl, gB.trans gq⟩
  | some g0 =>
    have hki1 : ∀ w, Gr W w → Calls Tryd.prog 10 #[.agg #[.int .i64 s.k, .int .i64 s.q, .int .i64 s.t], .slice la l.length lc] w fun e w' => e = .returned (errAt E g0) ∧ Gr w w' := hki.out
    replace hki1 := Lib.hid hki1
    clear hkn hki
    go_wp2_with fail
    refine wp_region_grows (by kernel_rfl) (by kernel_rfl) ?_
    repeat (any_goals (first | go_big_quiet_step (first | (go_at_call 10; exact Calls.grows (hki1.out _ (gA.trans (by exact GrW.gr _))))) | quiet_step (first | (go_at_call 10; exact Calls.grows (hki1.out _ (gA.trans (by exact GrW.gr _)))))))
    refine wpQuiet_nil ?_
    intro wp hwq
    have gp := GrW.of hwq
    clear hwq
    obtain ⟨cp, fp, sp⟩ := gp.cells
    try simp only [size_drewN] at cp fp sp
    try simp only [World.size_alloc] at cp fp sp
    try simp only [World.size_drew] at cp fp sp
    try simp only [World.size_setCell] at cp fp sp
    have gB := gA.trans gp
    have hB2 := hB1.out.gr gp
    have y0 : wp.cell? ⟨W.heap.size + 1, 0, none⟩ = some (.int .i64 s.k) := by have := hB2.cell (i := 0) rfl; simpa using this
    have y1 : wp.cell? ⟨W.heap.size + 1, 1, none⟩ = some (.int .i64 s.q) := by have := hB2.cell (i := 1) rfl; simpa using this
    have y2 : wp.cell? ⟨W.heap.size + 1, 2, none⟩ = some (.int .i64 s.t) := by have := hB2.cell (i := 2) rfl; simpa using this
    have r0 := GrW.cell y0
    have r1 := GrW.cell y1
    have r2 := GrW.cell y2
    clear q0 q1 q2 x0 x1 x2 hB2
    cases o2 with
    | none =>
      obtain ⟨hp2, hok, hbe2⟩ := hgn rfl
      have hle2 := hbe2 (bits .and .i64 n 274877906943 + 1).toNat
      rw [hLn] at hle2
      have hgo1 : ∀ w, Gr W w → Calls Tryd.prog 15 #[.agg #[.int .i64 s.k, .int .i64 s.q, .int .i64 s.t], .int .i64 1, .slice ta t.length tc] w fun e w' => e = .returned .nilIface ∧ Gr w w' := hgo.out
      have hrt1 := hrt.out hok
      have hrb2 := hrb.out hp2
      obtain ⟨d3, d4⟩ := htb.out hok
      replace hgo1 := Lib.hid hgo1
      replace hrt1 := Lib.hid hrt1
      replace hrb2 := Lib.hid hrb2
      replace hp2 := Lib.hid hp2
      replace hok := Lib.hid hok
      clear hbe2 hgn hgo
      go_wp2_with fail
      refine wp_region_grows (by kernel_rfl) (by kernel_rfl) ?_
      repeat (any_goals (first | go_big_quiet_step (first | (go_at_call 15; exact Calls.grows (hgo1.out _ (gB.trans (by exact GrW.gr _)))) | (go_at_call 18; exact Calls.grows (hrt1.out _ (gB.trans (by exact GrW.gr _)))) | (go_at_call 17; exact Calls.grows (hrb2.out _))) | quiet_step (first | (go_at_call 15; exact Calls.grows (hgo1.out _ (gB.trans (by exact GrW.gr _)))) | (go_at_call 18; exact Calls.grows (hrt1.out _ (gB.trans (by exact GrW.gr _)))) | (go_at_call 17; exact Calls.grows (hrb2.out _)))))
      refine wpQuiet_nil ?_
      intro wq hwq
      have gq := GrW.of hwq
      clear hwq
      obtain ⟨cq, fq, sq⟩ := gq.cells
      try simp only [size_drewN] at cq fq sq
      try simp only [World.size_alloc] at cq fq sq
      try simp only [World.size_drew] at cq fq sq
      try simp only [World.size_setCell] at cq fq sq
      go_wp2_with fail
      go_ret
      exact ⟨rfl, gB.trans gq⟩
    | some g1 =>
      have hgo1 : ∀ w, Gr W w → Calls Tryd.prog 15 #[.agg #[.int .i64 s.k, .int .i64 s.q, .int .i64 s.t], .int .i64 1, .slice ta t.length tc] w fun e w' => e = .returned (errAt E g1) ∧ Gr w w' := hgo.out
      replace hgo1 := Lib.hid hgo1
      clear hgn hgo
      go_wp2_with fail
      refine wp_region_grows (by kernel_rfl) (by kernel_rfl) ?_
      repeat (any_goals (first | go_big_quiet_step (first | (go_at_call 15; exact Calls.grows (hgo1.out _ (gB.trans (by exact GrW.gr _))))) | quiet_step (first | (go_at_call 15; exact Calls.grows (hgo1.out _ (gB.trans (by exact GrW.gr _)))))))
      refine wpQuiet_nil ?_
      intro wq hwq
      have gq := GrW.of hwq
      clear hwq
      obtain ⟨cq, fq, sq⟩ := gq.cells
      try simp only [size_drewN] at cq fq sq
      try simp only [World.size_alloc] at cq fq sq
      try simp only [World.size_drew] at cq fq sq
      try simp only [World.size_setCell] at cq fq sq
      go_wp2_with fail
      go_ret
      exact ⟨rfl, gB.trans gq⟩
end Go.Proofs.YtmookdgeblcjnaaDoor
