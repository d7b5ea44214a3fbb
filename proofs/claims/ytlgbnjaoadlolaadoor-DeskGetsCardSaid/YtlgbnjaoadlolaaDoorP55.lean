/- desk.GetAsk of what is refused: numbers, kind. Printed by gen_p52.py. desk.GetAsk of a kind that is not an order's, refused. Printed by gen_p53.py. desk.GetAsk of an order that is not the question's, refused. Printed by gen_p54.py. desk.GetAsk of an order in form with something behind it, refused. Printed by gen_p55.py. -/
import Derived.Test.YtlgbnjaoadlolaaDoorP35
import Derived.Test.YtlgbnjaoadlolaaDoorP56
namespace Go.Proofs.YtlgbnjaoadlolaaDoor
open Go.RowKit

set_option maxRecDepth 100000 in
set_option maxHeartbeats 6400000 in
theorem getAsk_nums {G : List Nat} {E : Nat → Addr} (w : World) (hE : EAt G E w) (i1 : 1 ∈ G) (b off c : Nat) (L : List UInt8) (hS : BytesAt w (some ⟨b, off, none⟩) (frameB L)) (hL : L.length ≤ 32768) (hc : (frameB L).length ≤ c) (hk : numsR 3 L = none) :
    Calls Tryd.prog 20 #[.slice (some ⟨b, off, none⟩) (frameB L).length c] w fun r w' => r = .returned (.tuple #[askZ, (Value.iface 137 (.pointer (some (E 1))))]) ∧ Gr w w' := by
  have hop := opened_yes (w.alloc (.cells #[.int .i64 0, .int .i64 0, .int .i64 0, .int .i64 0, .int .i64 0, .int .i64 0, .int .i64 0, .int .i64 0, .int .i64 0, .slice none 0 0, .int .i64 0] 31)) b off c L (hS.gr ((Gr.refl w).alloc _)) hL hc
  obtain ⟨N, hNN⟩ : ∃ N, (frameB L).length = N := ⟨_, rfl⟩
  rw [hNN] at hop ⊢
  replace hNN := Lib.hid hNN
  replace hop := Lib.hid hop
  replace hS := Lib.hid hS
  replace hk := Lib.hid hk
  go_enter Tryd.func20, Tryd.ntmps20
  go_wp2_with fail
  refine hop.out.mono ?_
  rintro r w1 ⟨rb, rfl, hr1, hr2, g1⟩
  have hR1 : Blk w1 w.heap.size #[.int .i64 0, .int .i64 0, .int .i64 0, .int .i64 0, .int .i64 0, .int .i64 0, .int .i64 0, .int .i64 0, .int .i64 0, .slice none 0 0, .int .i64 0] 31 := (Blk.new w _ _).gr g1
  have gw1 : Gr w w1 := ((Gr.refl w).alloc _).trans g1
  have z1 := gw1.size
  simp only [World.size_alloc] at hr2
  obtain ⟨ab, hab⟩ : ∃ ab, w1.heap.size = ab := ⟨_, rfl⟩
  have hzR := hR1.lt
  rw [hab] at z1 hr1 hzR
  have hr2' : RdAt (· ≠ ab) w1 rb L 0 := hr1.mono (fun b hb => by omega)
  have hrl : rb < ab := by obtain ⟨_, _, hh, _⟩ := hr1; have := hh.lt; omega
  replace hr1 := Lib.hid hr1
  replace hr2' := Lib.hid hr2'
  replace hR1 := Lib.hid hR1
  go_wp2_with fail
  refine (numbers_no w _ hE i1 ((gw1.alloc _).alloc _) rb ab (ab + 1) 3 L 0 #[.int .i64 0, .int .i64 0, .int .i64 0, .int .i64 0, .int .i64 0, .int .i64 0, .int .i64 0, .int .i64 0, .int .i64 0, .slice none 0 0, .int .i64 0] 31 ((hr2'.out.gr ((Gr.refl w1).alloc _)).gr ((Gr.refl _).alloc _)) (by omega) (by omega) (by omega) (by omega) (by omega) (by simp; omega) ((Blk.new1 hab).alloc _) (by decide) (by decide) (ptrs3 (t := 71) (Blk.new1 (by simp [hab]))) hk.out).mono ?_
  rintro r w3 ⟨rfl, g3⟩
  have gw3 : Gr w w3 := GrX.all ((gw1.alloc _).alloc _) g3 (fun x hx => by simp at hx; rcases hx with rfl | rfl <;> omega)
  have hR3 : Blk w3 w.heap.size #[.int .i64 0, .int .i64 0, .int .i64 0, .int .i64 0, .int .i64 0, .int .i64 0, .int .i64 0, .int .i64 0, .int .i64 0, .slice none 0 0, .int .i64 0] 31 := ((hR1.out.alloc _).alloc _).grx g3 (by simp; omega)
  have y0 := hR3.cell (i := 0) (v := .int .i64 0) rfl
  have fy0 := hR3.free 0
  have y1 := hR3.cell (i := 1) (v := .int .i64 0) rfl
  have fy1 := hR3.free 1
  have y2 := hR3.cell (i := 2) (v := .int .i64 0) rfl
  have fy2 := hR3.free 2
  have y3 := hR3.cell (i := 3) (v := .int .i64 0) rfl
  have fy3 := hR3.free 3
  have y4 := hR3.cell (i := 4) (v := .int .i64 0) rfl
  have fy4 := hR3.free 4
  have y5 := hR3.cell (i := 5) (v := .int .i64 0) rfl
  have fy5 := hR3.free 5
  have y6 := hR3.cell (i := 6) (v := .int .i64 0) rfl
  have fy6 := hR3.free 6
  have y7 := hR3.cell (i := 7) (v := .int .i64 0) rfl
  have fy7 := hR3.free 7
  have y8 := hR3.cell (i := 8) (v := .int .i64 0) rfl
  have fy8 := hR3.free 8
  have y9 := hR3.cell (i := 9) (v := .slice none 0 0) rfl
  have fy9 := hR3.free 9
  have y10 := hR3.cell (i := 10) (v := .int .i64 0) rfl
  have fy10 := hR3.free 10
  clear g3
  replace hR3 := Lib.hid hR3
  go_wp2_with fail
  refine bodyPost_ret (v := .tuple #[askZ, (Value.iface 137 (.pointer (some (E 1))))]) ?_ rfl ⟨rfl, ?_⟩
  · refine (res_cell (b := w.heap.size) (t := 31) Tryd.results20 _ _ (hR3.out.set11 rfl _ _ _ _ _ _ _ _ _ _ _) ?_ Tryd.underlying31 (by kernel_rfl)).trans ?_
    · simp
    · simp
  · exact gw3.set11 (Nat.le_refl _) _ _ _ _ _ _ _ _ _ _ _
set_option maxRecDepth 100000 in
set_option maxHeartbeats 6400000 in
theorem getAsk_bytes {G : List Nat} {E : Nat → Addr} (w : World) (hE : EAt G E w) (i1 : 1 ∈ G) (b off c : Nat) (L : List UInt8) (hS : BytesAt w (some ⟨b, off, none⟩) (frameB L)) (hL : L.length ≤ 32768) (hc : (frameB L).length ≤ c) (m0 m1 k : Nat) (hk : numsR 3 L = some ([1, m0, m1], k)) (hbad : ∀ n j, numR (L.drop k) = some (n, j) → 32768 < n ∨ L.length - (k + j) < n) :
    Calls Tryd.prog 20 #[.slice (some ⟨b, off, none⟩) (frameB L).length c] w fun r w' => r = .returned (.tuple #[askZ, (Value.iface 137 (.pointer (some (E 1))))]) ∧ Gr w w' := by
  have hop := opened_yes (w.alloc (.cells #[.int .i64 0, .int .i64 0, .int .i64 0, .int .i64 0, .int .i64 0, .int .i64 0, .int .i64 0, .int .i64 0, .int .i64 0, .slice none 0 0, .int .i64 0] 31)) b off c L (hS.gr ((Gr.refl w).alloc _)) hL hc
  obtain ⟨N, hNN⟩ : ∃ N, (frameB L).length = N := ⟨_, rfl⟩
  rw [hNN] at hop ⊢
  replace hNN := Lib.hid hNN
  replace hop := Lib.hid hop
  replace hS := Lib.hid hS
  replace hk := Lib.hid hk
  replace hbad := Lib.hid hbad
  go_enter Tryd.func20, Tryd.ntmps20
  go_wp2_with fail
  refine hop.out.mono ?_
  rintro r w1 ⟨rb, rfl, hr1, hr2, g1⟩
  have hR1 : Blk w1 w.heap.size #[.int .i64 0, .int .i64 0, .int .i64 0, .int .i64 0, .int .i64 0, .int .i64 0, .int .i64 0, .int .i64 0, .int .i64 0, .slice none 0 0, .int .i64 0] 31 := (Blk.new w _ _).gr g1
  have gw1 : Gr w w1 := ((Gr.refl w).alloc _).trans g1
  have z1 := gw1.size
  simp only [World.size_alloc] at hr2
  obtain ⟨ab, hab⟩ : ∃ ab, w1.heap.size = ab := ⟨_, rfl⟩
  have hzR := hR1.lt
  rw [hab] at z1 hr1 hzR
  have hr2' : RdAt (· ≠ ab) w1 rb L 0 := hr1.mono (fun b hb => by omega)
  have hrl : rb < ab := by obtain ⟨_, _, hh, _⟩ := hr1; have := hh.lt; omega
  replace hr1 := Lib.hid hr1
  replace hr2' := Lib.hid hr2'
  replace hR1 := Lib.hid hR1
  go_wp2_with fail
  refine (numbers_yes w _ hE i1 ((gw1.alloc _).alloc _) rb ab (ab + 1) 3 L 0 #[.int .i64 0, .int .i64 0, .int .i64 0, .int .i64 0, .int .i64 0, .int .i64 0, .int .i64 0, .int .i64 0, .int .i64 0, .slice none 0 0, .int .i64 0] 31 ((hr2'.out.gr ((Gr.refl w1).alloc _)).gr ((Gr.refl _).alloc _)) (by omega) (by omega) (by omega) (by omega) (by omega) (by simp; omega) ((Blk.new1 hab).alloc _) (by decide) (by decide) (ptrs3 (t := 71) (Blk.new1 (by simp [hab]))) hk.out).mono ?_
  rintro r w3 ⟨rfl, g3, hr3, hb3⟩
  have gw3 : Gr w w3 := GrX.all ((gw1.alloc _).alloc _) g3 (fun x hx => by simp at hx; rcases hx with rfl | rfl <;> omega)
  have hb3' : Blk w3 ab #[.int .i64 1, .int .i64 m0, .int .i64 m1, .int .i64 0, .int .i64 0, .int .i64 0, .int .i64 0, .int .i64 0, .int .i64 0, .slice none 0 0, .int .i64 0] 31 := hb3
  have hR3 : Blk w3 w.heap.size #[.int .i64 0, .int .i64 0, .int .i64 0, .int .i64 0, .int .i64 0, .int .i64 0, .int .i64 0, .int .i64 0, .int .i64 0, .slice none 0 0, .int .i64 0] 31 := ((hR1.out.alloc _).alloc _).grx g3 (by simp; omega)
  rw [Nat.zero_add] at hr3
  have hby := rbytes_no w3 rb L k 32768 hr3 (hE.gr gw3) i1 (fun v i hv => by have := hbad.out v i hv; omega)
  have c3_0 := hb3'.cell (i := 0) (v := .int .i64 1) rfl
  have c3_1 := hb3'.cell (i := 1) (v := .int .i64 m0) rfl
  have c3_2 := hb3'.cell (i := 2) (v := .int .i64 m1) rfl
  have c3_3 := hb3'.cell (i := 3) (v := .int .i64 0) rfl
  have c3_4 := hb3'.cell (i := 4) (v := .int .i64 0) rfl
  have c3_5 := hb3'.cell (i := 5) (v := .int .i64 0) rfl
  have c3_6 := hb3'.cell (i := 6) (v := .int .i64 0) rfl
  have c3_7 := hb3'.cell (i := 7) (v := .int .i64 0) rfl
  have c3_8 := hb3'.cell (i := 8) (v := .int .i64 0) rfl
  have c3_9 := hb3'.cell (i := 9) (v := .slice none 0 0) rfl
  have c3_10 := hb3'.cell (i := 10) (v := .int .i64 0) rfl
  clear g3 hb3
  replace hb3' := Lib.hid hb3'
  replace hR3 := Lib.hid hR3
  replace hr3 := Lib.hid hr3
  replace hby := Lib.hid hby
  go_wp2_with fail
  refine hby.out.mono ?_
  rintro r w4 ⟨rfl, g4⟩
  have hR4 := hR3.out.gr g4
  have gw4 := gw3.trans g4
  have y0 := hR4.cell (i := 0) (v := .int .i64 0) rfl
  have fy0 := hR4.free 0
  have y1 := hR4.cell (i := 1) (v := .int .i64 0) rfl
  have fy1 := hR4.free 1
  have y2 := hR4.cell (i := 2) (v := .int .i64 0) rfl
  have fy2 := hR4.free 2
  have y3 := hR4.cell (i := 3) (v := .int .i64 0) rfl
  have fy3 := hR4.free 3
  have y4 := hR4.cell (i := 4) (v := .int .i64 0) rfl
  have fy4 := hR4.free 4
  have y5 := hR4.cell (i := 5) (v := .int .i64 0) rfl
  have fy5 := hR4.free 5
  have y6 := hR4.cell (i := 6) (v := .int .i64 0) rfl
  have fy6 := hR4.free 6
  have y7 := hR4.cell (i := 7) (v := .int .i64 0) rfl
  have fy7 := hR4.free 7
  have y8 := hR4.cell (i := 8) (v := .int .i64 0) rfl
  have fy8 := hR4.free 8
  have y9 := hR4.cell (i := 9) (v := .slice none 0 0) rfl
  have fy9 := hR4.free 9
  have y10 := hR4.cell (i := 10) (v := .int .i64 0) rfl
  have fy10 := hR4.free 10
  replace hR4 := Lib.hid hR4
  go_wp2_with fail
  refine bodyPost_ret (v := .tuple #[askZ, (Value.iface 137 (.pointer (some (E 1))))]) ?_ rfl ⟨rfl, ?_⟩
  · refine (res_cell (b := w.heap.size) (t := 31) Tryd.results20 _ _ (hR4.out.set11 rfl _ _ _ _ _ _ _ _ _ _ _) ?_ Tryd.underlying31 (by kernel_rfl)).trans ?_
    · simp
    · simp
  · exact gw4.set11 (Nat.le_refl _) _ _ _ _ _ _ _ _ _ _ _
set_option maxRecDepth 100000 in
set_option maxHeartbeats 6400000 in
theorem getAsk_ent {G : List Nat} {E : Nat → Addr} (w : World) (hE : EAt G E w) (i0 : 0 ∈ G) (i1 : 1 ∈ G) (b off c : Nat) (L : List UInt8) (hS : BytesAt w (some ⟨b, off, none⟩) (frameB L)) (hL : L.length ≤ 32768) (hc : (frameB L).length ≤ c) (m0 m1 k n j : Nat) (P : List UInt8) (hk : numsR 3 L = some ([1, m0, m1], k)) (hq : numR (L.drop k) = some (n, j)) (hn : n ≤ 32768) (hle : k + j + n ≤ L.length) (hP : (L.drop (k + j)).take n = P) (hno : entNo P) :
    Calls Tryd.prog 20 #[.slice (some ⟨b, off, none⟩) (frameB L).length c] w fun r w' => r = .returned (.tuple #[askZ, (Value.iface 137 (.pointer (some (E 1))))]) ∧ Gr w w' := by
  have hop := opened_yes (w.alloc (.cells #[.int .i64 0, .int .i64 0, .int .i64 0, .int .i64 0, .int .i64 0, .int .i64 0, .int .i64 0, .int .i64 0, .int .i64 0, .slice none 0 0, .int .i64 0] 31)) b off c L (hS.gr ((Gr.refl w).alloc _)) hL hc
  obtain ⟨N, hNN⟩ : ∃ N, (frameB L).length = N := ⟨_, rfl⟩
  rw [hNN] at hop ⊢
  replace hNN := Lib.hid hNN
  replace hop := Lib.hid hop
  replace hS := Lib.hid hS
  replace hk := Lib.hid hk
  replace hq := Lib.hid hq
  replace hP := Lib.hid hP
  replace hno := Lib.hid hno
  go_enter Tryd.func20, Tryd.ntmps20
  go_wp2_with fail
  refine hop.out.mono ?_
  rintro r w1 ⟨rb, rfl, hr1, hr2, g1⟩
  have hR1 : Blk w1 w.heap.size #[.int .i64 0, .int .i64 0, .int .i64 0, .int .i64 0, .int .i64 0, .int .i64 0, .int .i64 0, .int .i64 0, .int .i64 0, .slice none 0 0, .int .i64 0] 31 := (Blk.new w _ _).gr g1
  have gw1 : Gr w w1 := ((Gr.refl w).alloc _).trans g1
  have z1 := gw1.size
  simp only [World.size_alloc] at hr2
  obtain ⟨ab, hab⟩ : ∃ ab, w1.heap.size = ab := ⟨_, rfl⟩
  have hzR := hR1.lt
  rw [hab] at z1 hr1 hzR
  have hr2' : RdAt (· ≠ ab) w1 rb L 0 := hr1.mono (fun b hb => by omega)
  have hrl : rb < ab := by obtain ⟨_, _, hh, _⟩ := hr1; have := hh.lt; omega
  replace hr1 := Lib.hid hr1
  replace hr2' := Lib.hid hr2'
  replace hR1 := Lib.hid hR1
  go_wp2_with fail
  refine (numbers_yes w _ hE i1 ((gw1.alloc _).alloc _) rb ab (ab + 1) 3 L 0 #[.int .i64 0, .int .i64 0, .int .i64 0, .int .i64 0, .int .i64 0, .int .i64 0, .int .i64 0, .int .i64 0, .int .i64 0, .slice none 0 0, .int .i64 0] 31 ((hr2'.out.gr ((Gr.refl w1).alloc _)).gr ((Gr.refl _).alloc _)) (by omega) (by omega) (by omega) (by omega) (by omega) (by simp; omega) ((Blk.new1 hab).alloc _) (by decide) (by decide) (ptrs3 (t := 71) (Blk.new1 (by simp [hab]))) hk.out).mono ?_
  rintro r w3 ⟨rfl, g3, hr3, hb3⟩
  have gw3 : Gr w w3 := GrX.all ((gw1.alloc _).alloc _) g3 (fun x hx => by simp at hx; rcases hx with rfl | rfl <;> omega)
  have hb3' : Blk w3 ab #[.int .i64 1, .int .i64 m0, .int .i64 m1, .int .i64 0, .int .i64 0, .int .i64 0, .int .i64 0, .int .i64 0, .int .i64 0, .slice none 0 0, .int .i64 0] 31 := hb3
  have hR3 : Blk w3 w.heap.size #[.int .i64 0, .int .i64 0, .int .i64 0, .int .i64 0, .int .i64 0, .int .i64 0, .int .i64 0, .int .i64 0, .int .i64 0, .slice none 0 0, .int .i64 0] 31 := ((hR1.out.alloc _).alloc _).grx g3 (by simp; omega)
  rw [Nat.zero_add] at hr3
  have hPn : P.length = n := by rw [← hP.out, List.length_take, List.length_drop]; omega
  have hby := rbytes_yes w3 rb L k 32768 hr3 hq.out (by omega) (by omega)
  rw [hP.out] at hby
  have zab := hb3'.lt
  have c3_0 := hb3'.cell (i := 0) (v := .int .i64 1) rfl
  have c3_1 := hb3'.cell (i := 1) (v := .int .i64 m0) rfl
  have c3_2 := hb3'.cell (i := 2) (v := .int .i64 m1) rfl
  have c3_3 := hb3'.cell (i := 3) (v := .int .i64 0) rfl
  have c3_4 := hb3'.cell (i := 4) (v := .int .i64 0) rfl
  have c3_5 := hb3'.cell (i := 5) (v := .int .i64 0) rfl
  have c3_6 := hb3'.cell (i := 6) (v := .int .i64 0) rfl
  have c3_7 := hb3'.cell (i := 7) (v := .int .i64 0) rfl
  have c3_8 := hb3'.cell (i := 8) (v := .int .i64 0) rfl
  have c3_9 := hb3'.cell (i := 9) (v := .slice none 0 0) rfl
  have c3_10 := hb3'.cell (i := 10) (v := .int .i64 0) rfl
  clear g3 hb3
  replace hPn := Lib.hid hPn
  replace hb3' := Lib.hid hb3'
  replace hR3 := Lib.hid hR3
  replace hr3 := Lib.hid hr3
  replace hby := Lib.hid hby
  go_wp2_with fail
  refine hby.out.mono ?_
  rintro r w4 ⟨a4, c4, rfl, ho4, hr4, g4⟩
  have gw4 : Gr w w4 := GrX.all gw3 g4 (fun x hx => by simp at hx; omega)
  have hR4 := hR3.out.grx g4 (by simp; omega)
  have hget := orderGet_no w4 (hE.gr gw4) i0 i1 a4 c4 P ho4.2.1 ho4.2.2.1 (by have := hPn.out; omega) hno.out
  rw [hPn.out] at hget
  replace hR4 := Lib.hid hR4
  replace hr4 := Lib.hid hr4
  replace ho4 := Lib.hid ho4
  replace hget := Lib.hid hget
  go_wp2_with fail
  refine hget.out.mono ?_
  rintro r w5 ⟨rfl, g5⟩
  obtain ⟨w6, hw6⟩ : ∃ w6, w6 = w5.alloc (.cells #[.int .i64 0, .int .i64 0, .int .i64 0, .int .i64 0, .int .i64 0, .int .i64 0, .int .i64 0, .int .i64 0, .slice none 0 0, .int .i64 0] 79) := ⟨_, rfl⟩
  have g6 : Gr w5 w6 := by rw [hw6]; exact (Gr.refl w5).alloc _
  have hR6 := hR4.out.gr (g5.trans g6)
  have gw6 := gw4.trans (g5.trans g6)
  have he := (hE.gr gw6).c0 i1
  have hl1 := hE.lt _ i1
  have y0 := hR6.cell (i := 0) (v := .int .i64 0) rfl
  have fy0 := hR6.free 0
  have y1 := hR6.cell (i := 1) (v := .int .i64 0) rfl
  have fy1 := hR6.free 1
  have y2 := hR6.cell (i := 2) (v := .int .i64 0) rfl
  have fy2 := hR6.free 2
  have y3 := hR6.cell (i := 3) (v := .int .i64 0) rfl
  have fy3 := hR6.free 3
  have y4 := hR6.cell (i := 4) (v := .int .i64 0) rfl
  have fy4 := hR6.free 4
  have y5 := hR6.cell (i := 5) (v := .int .i64 0) rfl
  have fy5 := hR6.free 5
  have y6 := hR6.cell (i := 6) (v := .int .i64 0) rfl
  have fy6 := hR6.free 6
  have y7 := hR6.cell (i := 7) (v := .int .i64 0) rfl
  have fy7 := hR6.free 7
  have y8 := hR6.cell (i := 8) (v := .int .i64 0) rfl
  have fy8 := hR6.free 8
  have y9 := hR6.cell (i := 9) (v := .slice none 0 0) rfl
  have fy9 := hR6.free 9
  have y10 := hR6.cell (i := 10) (v := .int .i64 0) rfl
  have fy10 := hR6.free 10
  have hz6 := hR6.lt
  replace hR6 := Lib.hid hR6
  replace hw6 := Lib.hid hw6
  go_upto_region 14 with fail
  rw [← hw6.out]
  go_region_held3 (fun w' => w'.cell? ⟨1, 0, none⟩ = some (.iface 137 (.pointer (some (E 1))))) (simp (maxDischargeDepth := 8) [go_sem, *])
    (first
      | fail)
  go_wp2_with fail
  refine bodyPost_ret (v := .tuple #[askZ, (Value.iface 137 (.pointer (some (E 1))))]) ?_ rfl ⟨rfl, ?_⟩
  · refine (res_cell (b := w.heap.size) (t := 31) Tryd.results20 _ _ ((hR6.out.set11 rfl _ _ _ _ _ _ _ _ _ _ _).drew) ?_ Tryd.underlying31 (by kernel_rfl)).trans ?_
    · simp
    · simp
  · exact (gw6.set11 (Nat.le_refl _) _ _ _ _ _ _ _ _ _ _ _).drew


set_option maxRecDepth 100000 in
set_option maxHeartbeats 6400000 in
theorem getAsk_end2 {G : List Nat} {E : Nat → Addr} (w : World) (hE : EAt G E w) (i1 : 1 ∈ G) (b off c : Nat) (L : List UInt8) (hS : BytesAt w (some ⟨b, off, none⟩) (frameB L)) (hL : L.length ≤ 32768) (hc : (frameB L).length ≤ c) (n0 n1 n2 k : Nat) (hk : numsR 3 L = some ([n0, n1, n2], k)) (h1 : n0 ≠ 1) (hlt : k < L.length) :
    Calls Tryd.prog 20 #[.slice (some ⟨b, off, none⟩) (frameB L).length c] w fun r w' => r = .returned (.tuple #[askZ, (Value.iface 137 (.pointer (some (E 1))))]) ∧ Gr w w' := by
  have hop := opened_yes (w.alloc (.cells #[.int .i64 0, .int .i64 0, .int .i64 0, .int .i64 0, .int .i64 0, .int .i64 0, .int .i64 0, .int .i64 0, .int .i64 0, .slice none 0 0, .int .i64 0] 31)) b off c L (hS.gr ((Gr.refl w).alloc _)) hL hc
  obtain ⟨N, hNN⟩ : ∃ N, (frameB L).length = N := ⟨_, rfl⟩
  rw [hNN] at hop ⊢
  replace hNN := Lib.hid hNN
  replace hop := Lib.hid hop
  replace hS := Lib.hid hS
  replace hk := Lib.hid hk
  go_enter Tryd.func20, Tryd.ntmps20
  go_wp2_with fail
  refine hop.out.mono ?_
  rintro r w1 ⟨rb, rfl, hr1, hr2, g1⟩
  have hR1 : Blk w1 w.heap.size #[.int .i64 0, .int .i64 0, .int .i64 0, .int .i64 0, .int .i64 0, .int .i64 0, .int .i64 0, .int .i64 0, .int .i64 0, .slice none 0 0, .int .i64 0] 31 := (Blk.new w _ _).gr g1
  have gw1 : Gr w w1 := ((Gr.refl w).alloc _).trans g1
  have z1 := gw1.size
  simp only [World.size_alloc] at hr2
  obtain ⟨ab, hab⟩ : ∃ ab, w1.heap.size = ab := ⟨_, rfl⟩
  have hzR := hR1.lt
  rw [hab] at z1 hr1 hzR
  have hr2' : RdAt (· ≠ ab) w1 rb L 0 := hr1.mono (fun b hb => by omega)
  have hrl : rb < ab := by obtain ⟨_, _, hh, _⟩ := hr1; have := hh.lt; omega
  replace hr1 := Lib.hid hr1
  replace hr2' := Lib.hid hr2'
  replace hR1 := Lib.hid hR1
  go_wp2_with fail
  refine (numbers_yes w _ hE i1 ((gw1.alloc _).alloc _) rb ab (ab + 1) 3 L 0 #[.int .i64 0, .int .i64 0, .int .i64 0, .int .i64 0, .int .i64 0, .int .i64 0, .int .i64 0, .int .i64 0, .int .i64 0, .slice none 0 0, .int .i64 0] 31 ((hr2'.out.gr ((Gr.refl w1).alloc _)).gr ((Gr.refl _).alloc _)) (by omega) (by omega) (by omega) (by omega) (by omega) (by simp; omega) ((Blk.new1 hab).alloc _) (by decide) (by decide) (ptrs3 (t := 71) (Blk.new1 (by simp [hab]))) hk.out).mono ?_
  rintro r w3 ⟨rfl, g3, hr3, hb3⟩
  have gw3 : Gr w w3 := GrX.all ((gw1.alloc _).alloc _) g3 (fun x hx => by simp at hx; rcases hx with rfl | rfl <;> omega)
  have hb3' : Blk w3 ab #[.int .i64 n0, .int .i64 n1, .int .i64 n2, .int .i64 0, .int .i64 0, .int .i64 0, .int .i64 0, .int .i64 0, .int .i64 0, .slice none 0 0, .int .i64 0] 31 := hb3
  have hR3 : Blk w3 w.heap.size #[.int .i64 0, .int .i64 0, .int .i64 0, .int .i64 0, .int .i64 0, .int .i64 0, .int .i64 0, .int .i64 0, .int .i64 0, .slice none 0 0, .int .i64 0] 31 := ((hR1.out.alloc _).alloc _).grx g3 (by simp; omega)
  rw [Nat.zero_add] at hr3
  have t1 : ((n0 : Int) == 1) = false := beq_eq_false_iff_ne.2 (by omega)
  have hen := rend_no w3 rb L k hr3 hlt (hE.gr gw3) i1
  have c3_0 := hb3'.cell (i := 0) (v := .int .i64 n0) rfl
  have c3_1 := hb3'.cell (i := 1) (v := .int .i64 n1) rfl
  have c3_2 := hb3'.cell (i := 2) (v := .int .i64 n2) rfl
  have c3_3 := hb3'.cell (i := 3) (v := .int .i64 0) rfl
  have c3_4 := hb3'.cell (i := 4) (v := .int .i64 0) rfl
  have c3_5 := hb3'.cell (i := 5) (v := .int .i64 0) rfl
  have c3_6 := hb3'.cell (i := 6) (v := .int .i64 0) rfl
  have c3_7 := hb3'.cell (i := 7) (v := .int .i64 0) rfl
  have c3_8 := hb3'.cell (i := 8) (v := .int .i64 0) rfl
  have c3_9 := hb3'.cell (i := 9) (v := .slice none 0 0) rfl
  have c3_10 := hb3'.cell (i := 10) (v := .int .i64 0) rfl
  clear g3 hb3
  replace hb3' := Lib.hid hb3'
  replace hR3 := Lib.hid hR3
  replace hr3 := Lib.hid hr3
  replace hen := Lib.hid hen
  replace h1 := Lib.hid h1
  go_wp2_with fail
  refine hen.out.mono ?_
  rintro r w4 ⟨rfl, g4⟩
  have hR4 := hR3.out.gr g4
  have gw4 := gw3.trans g4
  have he := (hE.gr gw4).c0 i1
  have hl1 := hE.lt _ i1
  have y0 := hR4.cell (i := 0) (v := .int .i64 0) rfl
  have fy0 := hR4.free 0
  have y1 := hR4.cell (i := 1) (v := .int .i64 0) rfl
  have fy1 := hR4.free 1
  have y2 := hR4.cell (i := 2) (v := .int .i64 0) rfl
  have fy2 := hR4.free 2
  have y3 := hR4.cell (i := 3) (v := .int .i64 0) rfl
  have fy3 := hR4.free 3
  have y4 := hR4.cell (i := 4) (v := .int .i64 0) rfl
  have fy4 := hR4.free 4
  have y5 := hR4.cell (i := 5) (v := .int .i64 0) rfl
  have fy5 := hR4.free 5
  have y6 := hR4.cell (i := 6) (v := .int .i64 0) rfl
  have fy6 := hR4.free 6
  have y7 := hR4.cell (i := 7) (v := .int .i64 0) rfl
  have fy7 := hR4.free 7
  have y8 := hR4.cell (i := 8) (v := .int .i64 0) rfl
  have fy8 := hR4.free 8
  have y9 := hR4.cell (i := 9) (v := .slice none 0 0) rfl
  have fy9 := hR4.free 9
  have y10 := hR4.cell (i := 10) (v := .int .i64 0) rfl
  have fy10 := hR4.free 10
  have hz4 := hR4.lt
  replace hR4 := Lib.hid hR4
  go_upto_region 17 with fail
  go_region_held3 (fun w' => w'.cell? ⟨1, 0, none⟩ = some (.iface 137 (.pointer (some (E 1))))) (simp (maxDischargeDepth := 8) [go_sem, *])
    (first
      | fail)
  go_wp2_with fail
  refine bodyPost_ret (v := .tuple #[askZ, (Value.iface 137 (.pointer (some (E 1))))]) ?_ rfl ⟨rfl, ?_⟩
  · refine (res_cell (b := w.heap.size) (t := 31) Tryd.results20 _ _ ((hR4.out.set11 rfl _ _ _ _ _ _ _ _ _ _ _).drew) ?_ Tryd.underlying31 (by kernel_rfl)).trans ?_
    · simp
    · simp
  · exact (gw4.set11 (Nat.le_refl _) _ _ _ _ _ _ _ _ _ _ _).drew
set_option maxRecDepth 100000 in
set_option maxHeartbeats 6400000 in
theorem getAsk_form {G : List Nat} {E : Nat → Addr} (w : World) (hE : EAt G E w) (i0 : 0 ∈ G) (i1 : 1 ∈ G) (b off c : Nat) (L : List UInt8) (hS : BytesAt w (some ⟨b, off, none⟩) (frameB L)) (hL : L.length ≤ 32768) (hc : (frameB L).length ≤ c) (n0 n1 n2 k : Nat) (hk : numsR 3 L = some ([n0, n1, n2], k)) (h1 : n0 ≠ 1) (hl : k = L.length) (hf : askF n0 ⟨n1, n2, 0, 0, ⟨0, 0, 0⟩, 0, [], 0⟩ = false) :
    Calls Tryd.prog 20 #[.slice (some ⟨b, off, none⟩) (frameB L).length c] w fun r w' => r = .returned (.tuple #[askZ, (Value.iface 137 (.pointer (some (E 1))))]) ∧ Gr w w' := by
  have hop := opened_yes (w.alloc (.cells #[.int .i64 0, .int .i64 0, .int .i64 0, .int .i64 0, .int .i64 0, .int .i64 0, .int .i64 0, .int .i64 0, .int .i64 0, .slice none 0 0, .int .i64 0] 31)) b off c L (hS.gr ((Gr.refl w).alloc _)) hL hc
  obtain ⟨N, hNN⟩ : ∃ N, (frameB L).length = N := ⟨_, rfl⟩
  rw [hNN] at hop ⊢
  replace hNN := Lib.hid hNN
  replace hop := Lib.hid hop
  replace hS := Lib.hid hS
  replace hk := Lib.hid hk
  replace hl := Lib.hid hl
  replace hf := Lib.hid hf
  go_enter Tryd.func20, Tryd.ntmps20
  go_wp2_with fail
  refine hop.out.mono ?_
  rintro r w1 ⟨rb, rfl, hr1, hr2, g1⟩
  have hR1 : Blk w1 w.heap.size #[.int .i64 0, .int .i64 0, .int .i64 0, .int .i64 0, .int .i64 0, .int .i64 0, .int .i64 0, .int .i64 0, .int .i64 0, .slice none 0 0, .int .i64 0] 31 := (Blk.new w _ _).gr g1
  have gw1 : Gr w w1 := ((Gr.refl w).alloc _).trans g1
  have z1 := gw1.size
  simp only [World.size_alloc] at hr2
  obtain ⟨ab, hab⟩ : ∃ ab, w1.heap.size = ab := ⟨_, rfl⟩
  have hzR := hR1.lt
  rw [hab] at z1 hr1 hzR
  have hr2' : RdAt (· ≠ ab) w1 rb L 0 := hr1.mono (fun b hb => by omega)
  have hrl : rb < ab := by obtain ⟨_, _, hh, _⟩ := hr1; have := hh.lt; omega
  replace hr1 := Lib.hid hr1
  replace hr2' := Lib.hid hr2'
  replace hR1 := Lib.hid hR1
  go_wp2_with fail
  refine (numbers_yes w _ hE i1 ((gw1.alloc _).alloc _) rb ab (ab + 1) 3 L 0 #[.int .i64 0, .int .i64 0, .int .i64 0, .int .i64 0, .int .i64 0, .int .i64 0, .int .i64 0, .int .i64 0, .int .i64 0, .slice none 0 0, .int .i64 0] 31 ((hr2'.out.gr ((Gr.refl w1).alloc _)).gr ((Gr.refl _).alloc _)) (by omega) (by omega) (by omega) (by omega) (by omega) (by simp; omega) ((Blk.new1 hab).alloc _) (by decide) (by decide) (ptrs3 (t := 71) (Blk.new1 (by simp [hab]))) hk.out).mono ?_
  rintro r w3 ⟨rfl, g3, hr3, hb3⟩
  have gw3 : Gr w w3 := GrX.all ((gw1.alloc _).alloc _) g3 (fun x hx => by simp at hx; rcases hx with rfl | rfl <;> omega)
  have hb3' : Blk w3 ab #[.int .i64 n0, .int .i64 n1, .int .i64 n2, .int .i64 0, .int .i64 0, .int .i64 0, .int .i64 0, .int .i64 0, .int .i64 0, .slice none 0 0, .int .i64 0] 31 := hb3
  have hR3 : Blk w3 w.heap.size #[.int .i64 0, .int .i64 0, .int .i64 0, .int .i64 0, .int .i64 0, .int .i64 0, .int .i64 0, .int .i64 0, .int .i64 0, .slice none 0 0, .int .i64 0] 31 := ((hR1.out.alloc _).alloc _).grx g3 (by simp; omega)
  rw [Nat.zero_add, hl.out] at hr3
  have t1 : ((n0 : Int) == 1) = false := beq_eq_false_iff_ne.2 (by omega)
  have hen := rend_yes w3 rb L hr3
  have hck := fun w4 (g : Gr w3 w4) => checkAsk_any n0 ⟨⟨n1, n2, 0, 0, ⟨0, 0, 0⟩, 0, [], 0⟩, none, 0⟩ w4 (exE_okZ n1 n2 w4) (hE.gr (gw3.trans g)) i0
  dsimp only at hck
  rw [hf.out] at hck
  have c3_0 := hb3'.cell (i := 0) (v := .int .i64 n0) rfl
  have c3_1 := hb3'.cell (i := 1) (v := .int .i64 n1) rfl
  have c3_2 := hb3'.cell (i := 2) (v := .int .i64 n2) rfl
  have c3_3 := hb3'.cell (i := 3) (v := .int .i64 0) rfl
  have c3_4 := hb3'.cell (i := 4) (v := .int .i64 0) rfl
  have c3_5 := hb3'.cell (i := 5) (v := .int .i64 0) rfl
  have c3_6 := hb3'.cell (i := 6) (v := .int .i64 0) rfl
  have c3_7 := hb3'.cell (i := 7) (v := .int .i64 0) rfl
  have c3_8 := hb3'.cell (i := 8) (v := .int .i64 0) rfl
  have c3_9 := hb3'.cell (i := 9) (v := .slice none 0 0) rfl
  have c3_10 := hb3'.cell (i := 10) (v := .int .i64 0) rfl
  clear g3 hb3
  replace hb3' := Lib.hid hb3'
  replace hR3 := Lib.hid hR3
  replace hr3 := Lib.hid hr3
  replace hen := Lib.hid hen
  replace hck := Lib.hid hck
  replace h1 := Lib.hid h1
  go_wp2_with fail
  refine hen.out.mono ?_
  rintro r w4 ⟨rfl, g4⟩
  have hb4 := hb3'.out.gr g4
  have hck4 : Calls Tryd.prog 36 #[.agg #[.int .i64 n0, .int .i64 n1, .int .i64 n2, .int .i64 0, .int .i64 0, .int .i64 0, .int .i64 0, .int .i64 0, .int .i64 0, .slice none 0 0, .int .i64 0]] w4 fun e w' => e = .returned (Value.iface 137 (.pointer (some (E 0)))) ∧ Gr w4 w' := hck.out w4 g4
  have c4_0 := hb4.cell (i := 0) (v := .int .i64 n0) rfl
  have c4_1 := hb4.cell (i := 1) (v := .int .i64 n1) rfl
  have c4_2 := hb4.cell (i := 2) (v := .int .i64 n2) rfl
  have c4_3 := hb4.cell (i := 3) (v := .int .i64 0) rfl
  have c4_4 := hb4.cell (i := 4) (v := .int .i64 0) rfl
  have c4_5 := hb4.cell (i := 5) (v := .int .i64 0) rfl
  have c4_6 := hb4.cell (i := 6) (v := .int .i64 0) rfl
  have c4_7 := hb4.cell (i := 7) (v := .int .i64 0) rfl
  have c4_8 := hb4.cell (i := 8) (v := .int .i64 0) rfl
  have c4_9 := hb4.cell (i := 9) (v := .slice none 0 0) rfl
  have c4_10 := hb4.cell (i := 10) (v := .int .i64 0) rfl
  replace hb4 := Lib.hid hb4
  replace hck4 := Lib.hid hck4
  go_wp2_with fail
  refine hck4.out.mono ?_
  rintro r w5 ⟨rfl, g5⟩
  have hR5 := hR3.out.gr (g4.trans g5)
  have gw5 := gw3.trans (g4.trans g5)
  have he := (hE.gr gw5).c0 i1
  have hl1 := hE.lt _ i1
  have y0 := hR5.cell (i := 0) (v := .int .i64 0) rfl
  have fy0 := hR5.free 0
  have y1 := hR5.cell (i := 1) (v := .int .i64 0) rfl
  have fy1 := hR5.free 1
  have y2 := hR5.cell (i := 2) (v := .int .i64 0) rfl
  have fy2 := hR5.free 2
  have y3 := hR5.cell (i := 3) (v := .int .i64 0) rfl
  have fy3 := hR5.free 3
  have y4 := hR5.cell (i := 4) (v := .int .i64 0) rfl
  have fy4 := hR5.free 4
  have y5 := hR5.cell (i := 5) (v := .int .i64 0) rfl
  have fy5 := hR5.free 5
  have y6 := hR5.cell (i := 6) (v := .int .i64 0) rfl
  have fy6 := hR5.free 6
  have y7 := hR5.cell (i := 7) (v := .int .i64 0) rfl
  have fy7 := hR5.free 7
  have y8 := hR5.cell (i := 8) (v := .int .i64 0) rfl
  have fy8 := hR5.free 8
  have y9 := hR5.cell (i := 9) (v := .slice none 0 0) rfl
  have fy9 := hR5.free 9
  have y10 := hR5.cell (i := 10) (v := .int .i64 0) rfl
  have fy10 := hR5.free 10
  have hz5 := hR5.lt
  replace hR5 := Lib.hid hR5
  go_upto_region 17 with fail
  go_region_held3 (fun w' => w'.cell? ⟨1, 0, none⟩ = some (.iface 137 (.pointer (some (E 1))))) (simp (maxDischargeDepth := 8) [go_sem, *])
    (first
      | fail)
  go_wp2_with fail
  refine bodyPost_ret (v := .tuple #[askZ, (Value.iface 137 (.pointer (some (E 1))))]) ?_ rfl ⟨rfl, ?_⟩
  · refine (res_cell (b := w.heap.size) (t := 31) Tryd.results20 _ _ ((hR5.out.set11 rfl _ _ _ _ _ _ _ _ _ _ _).drew) ?_ Tryd.underlying31 (by kernel_rfl)).trans ?_
    · simp
    · simp
  · exact (gw5.set11 (Nat.le_refl _) _ _ _ _ _ _ _ _ _ _ _).drew


set_option maxRecDepth 100000 in
set_option maxHeartbeats 12800000 in
theorem getAsk_unlike {G : List Nat} {E : Nat → Addr} (w : World) (hE : EAt G E w) (i0 : 0 ∈ G) (i1 : 1 ∈ G) (b off c : Nat) (L : List UInt8) (hS : BytesAt w (some ⟨b, off, none⟩) (frameB L)) (hL : L.length ≤ 32768) (hc : (frameB L).length ≤ c) (q0 q1 m0 m1 m2 m3 m4 m5 m6 m7 m8 k j n : Nat) (P : List UInt8) (hk : numsR 3 L = some ([1, q0, q1], k)) (hq : numR (L.drop k) = some (n, j)) (hP : (L.drop (k + j)).take n = P) (hPn : P.length = n) (hn : n ≤ 32768) (he : k + j + n ≤ L.length)
    (kk jj : Nat) (L0 : List Tsk) (hN : numsR 10 P = some ([m0, m1, m2, m3, m4, m5, m6, m7, m8, L0.length], kk)) (hT : numsR (4 * L0.length) (P.drop kk) = some (L0.flatMap tskNat, jj)) (hl : kk + jj = P.length) (hf : entF (⟨m0, m1, m2, m4, ⟨m5, m6, m7⟩, m8, L0, m3⟩ : Ent) = true) (hne : m0 ≠ q0 ∨ m1 ≠ q1) :
    Calls Tryd.prog 20 #[.slice (some ⟨b, off, none⟩) (frameB L).length c] w fun r w' => r = .returned (.tuple #[askZ, (Value.iface 137 (.pointer (some (E 1))))]) ∧ Gr w w' := by
  have hop := opened_yes (w.alloc (.cells #[.int .i64 0, .int .i64 0, .int .i64 0, .int .i64 0, .int .i64 0, .int .i64 0, .int .i64 0, .int .i64 0, .int .i64 0, .slice none 0 0, .int .i64 0] 31)) b off c L (hS.gr ((Gr.refl w).alloc _)) hL hc
  obtain ⟨N, hNN⟩ : ∃ N, (frameB L).length = N := ⟨_, rfl⟩
  rw [hNN] at hop ⊢
  have ht8 := (ent_tasks hf).1
  dsimp only at ht8
  have hget := fun w1 (g : Gr w w1) a c (hb : BytesAt w1 a P) (hcn : a = none → c = 0) => orderGet_yes w1 (hE.gr g) i0 a c P hb hcn (by omega) m0 m1 m2 m3 m4 m5 m6 m7 m8 kk jj L0 hN hT hl hf
  rw [hPn] at hget
  replace hNN := Lib.hid hNN
  replace hop := Lib.hid hop
  replace hS := Lib.hid hS
  replace hk := Lib.hid hk
  replace hq := Lib.hid hq
  replace hP := Lib.hid hP
  replace hPn := Lib.hid hPn
  have hle := he
  clear he
  replace hN := Lib.hid hN
  replace hT := Lib.hid hT
  replace hl := Lib.hid hl
  replace hf := Lib.hid hf
  replace hget := Lib.hid hget
  go_enter Tryd.func20, Tryd.ntmps20
  go_wp2_with fail
  refine hop.out.mono ?_
  rintro r w1 ⟨rb, rfl, hr1, hr2, g1⟩
  have hR1 : Blk w1 w.heap.size #[.int .i64 0, .int .i64 0, .int .i64 0, .int .i64 0, .int .i64 0, .int .i64 0, .int .i64 0, .int .i64 0, .int .i64 0, .slice none 0 0, .int .i64 0] 31 := (Blk.new w _ _).gr g1
  have gw1 : Gr w w1 := ((Gr.refl w).alloc _).trans g1
  have z1 := gw1.size
  simp only [World.size_alloc] at hr2
  obtain ⟨ab, hab⟩ : ∃ ab, w1.heap.size = ab := ⟨_, rfl⟩
  have hzR := hR1.lt
  rw [hab] at z1 hr1 hzR
  have hr2' : RdAt (· ≠ ab) w1 rb L 0 := hr1.mono (fun b hb => by omega)
  have hrl : rb < ab := by obtain ⟨_, _, hh, _⟩ := hr1; have := hh.lt; omega
  replace hr1 := Lib.hid hr1
  replace hr2' := Lib.hid hr2'
  replace hR1 := Lib.hid hR1
  go_wp2_with fail
  refine (numbers_yes w _ hE i1 ((gw1.alloc _).alloc _) rb ab (ab + 1) 3 L 0 #[.int .i64 0, .int .i64 0, .int .i64 0, .int .i64 0, .int .i64 0, .int .i64 0, .int .i64 0, .int .i64 0, .int .i64 0, .slice none 0 0, .int .i64 0] 31 ((hr2'.out.gr ((Gr.refl w1).alloc _)).gr ((Gr.refl _).alloc _)) (by omega) (by omega) (by omega) (by omega) (by omega) (by simp; omega) ((Blk.new1 hab).alloc _) (by decide) (by decide) (ptrs3 (t := 71) (Blk.new1 (by simp [hab]))) hk.out).mono ?_
  rintro r w3 ⟨rfl, g3, hr3, hb3⟩
  have gw3 : Gr w w3 := GrX.all ((gw1.alloc _).alloc _) g3 (fun x hx => by simp at hx; rcases hx with rfl | rfl <;> omega)
  have hb3' : Blk w3 ab #[.int .i64 1, .int .i64 q0, .int .i64 q1, .int .i64 0, .int .i64 0, .int .i64 0, .int .i64 0, .int .i64 0, .int .i64 0, .slice none 0 0, .int .i64 0] 31 := hb3
  have hR3 : Blk w3 w.heap.size #[.int .i64 0, .int .i64 0, .int .i64 0, .int .i64 0, .int .i64 0, .int .i64 0, .int .i64 0, .int .i64 0, .int .i64 0, .slice none 0 0, .int .i64 0] 31 := ((hR1.out.alloc _).alloc _).grx g3 (by simp; omega)
  have hkb := (numR_bd hq.out).2.2.2
  dsimp only at hkb
  rw [List.length_drop] at hkb
  rw [Nat.zero_add] at hr3
  have hby := rbytes_yes w3 rb L k 32768 hr3 hq.out (by omega) (by omega)
  rw [hP.out] at hby
  have zab := hb3'.lt
  have c3_0 := hb3'.cell (i := 0) (v := .int .i64 1) rfl
  have c3_1 := hb3'.cell (i := 1) (v := .int .i64 q0) rfl
  have c3_2 := hb3'.cell (i := 2) (v := .int .i64 q1) rfl
  have c3_3 := hb3'.cell (i := 3) (v := .int .i64 0) rfl
  have c3_4 := hb3'.cell (i := 4) (v := .int .i64 0) rfl
  have c3_5 := hb3'.cell (i := 5) (v := .int .i64 0) rfl
  have c3_6 := hb3'.cell (i := 6) (v := .int .i64 0) rfl
  have c3_7 := hb3'.cell (i := 7) (v := .int .i64 0) rfl
  have c3_8 := hb3'.cell (i := 8) (v := .int .i64 0) rfl
  have c3_9 := hb3'.cell (i := 9) (v := .slice none 0 0) rfl
  have c3_10 := hb3'.cell (i := 10) (v := .int .i64 0) rfl
  clear g3 hb3
  replace hb3' := Lib.hid hb3'
  replace hR3 := Lib.hid hR3
  replace hr3 := Lib.hid hr3
  replace hby := Lib.hid hby
  go_wp2_with fail
  refine hby.out.mono ?_
  rintro r w4 ⟨a4, c4, rfl, ho4, hr4, g4⟩
  have gw4 : Gr w w4 := GrX.all gw3 g4 (fun x hx => by simp at hx; omega)
  have hb4 := hb3'.out.grx g4 (by simp; omega)
  have hR4 := hR3.out.grx g4 (by simp; omega)
  have hget4 := hget.out w4 gw4 a4 c4 ho4.2.1 ho4.2.2.1
  replace hb4 := Lib.hid hb4
  replace hR4 := Lib.hid hR4
  replace hr4 := Lib.hid hr4
  replace ho4 := Lib.hid ho4
  replace hget4 := Lib.hid hget4
  go_wp2_with fail
  refine hget4.out.mono ?_
  rintro r w5 ⟨a5, c5, rfl, ⟨ht5, hn5, hl5, hm5, hB5⟩, g5⟩
  have gw5 := gw4.trans g5
  have hb5 := hb4.out.gr g5
  have hR5 := hR4.out.gr g5
  have hr5 := hr4.out.gr g5
  have zab5 := hb5.lt
  have z45 := g4.size
  have z5 := g5.size
  have c5_0 := hb5.cell (i := 0) (v := .int .i64 1) rfl
  have c5_1 := hb5.cell (i := 1) (v := .int .i64 q0) rfl
  have c5_2 := hb5.cell (i := 2) (v := .int .i64 q1) rfl
  have c5_3 := hb5.cell (i := 3) (v := .int .i64 0) rfl
  have c5_4 := hb5.cell (i := 4) (v := .int .i64 0) rfl
  have c5_5 := hb5.cell (i := 5) (v := .int .i64 0) rfl
  have c5_6 := hb5.cell (i := 6) (v := .int .i64 0) rfl
  have c5_7 := hb5.cell (i := 7) (v := .int .i64 0) rfl
  have c5_8 := hb5.cell (i := 8) (v := .int .i64 0) rfl
  have c5_9 := hb5.cell (i := 9) (v := .slice none 0 0) rfl
  have c5_10 := hb5.cell (i := 10) (v := .int .i64 0) rfl
  obtain ⟨w6, hw6⟩ : ∃ w6, w6 = w5.alloc (.cells #[.int .i64 m0, .int .i64 m1, .int .i64 m2, .int .i64 m4, .int .i64 m5, .int .i64 m6, .int .i64 m7, .int .i64 m8, .slice a5 L0.length c5, .int .i64 m3] 79) := ⟨_, rfl⟩
  have g6 : Gr w5 w6 := by rw [hw6]; exact (Gr.refl w5).alloc _
  have hb6 := hb5.gr g6
  have hx6 : Blk w6 w5.heap.size #[.int .i64 m0, .int .i64 m1, .int .i64 m2, .int .i64 m4, .int .i64 m5, .int .i64 m6, .int .i64 m7, .int .i64 m8, .slice a5 L0.length c5, .int .i64 m3] 79 := by rw [hw6]; exact Blk.new w5 _ _
  have hR6 := hR5.gr g6
  have gw6 := gw5.trans g6
  have he := (hE.gr gw6).c0 i1
  have hl1 := hE.lt _ i1
  have c6_0 := hb6.cell (i := 0) (v := .int .i64 1) rfl
  have c6_1 := hb6.cell (i := 1) (v := .int .i64 q0) rfl
  have c6_2 := hb6.cell (i := 2) (v := .int .i64 q1) rfl
  have c6_3 := hb6.cell (i := 3) (v := .int .i64 0) rfl
  have c6_4 := hb6.cell (i := 4) (v := .int .i64 0) rfl
  have c6_5 := hb6.cell (i := 5) (v := .int .i64 0) rfl
  have c6_6 := hb6.cell (i := 6) (v := .int .i64 0) rfl
  have c6_7 := hb6.cell (i := 7) (v := .int .i64 0) rfl
  have c6_8 := hb6.cell (i := 8) (v := .int .i64 0) rfl
  have c6_9 := hb6.cell (i := 9) (v := .slice none 0 0) rfl
  have c6_10 := hb6.cell (i := 10) (v := .int .i64 0) rfl
  have x6_0 := hx6.cell (i := 0) (v := .int .i64 m0) rfl
  have x6_1 := hx6.cell (i := 1) (v := .int .i64 m1) rfl
  have x6_2 := hx6.cell (i := 2) (v := .int .i64 m2) rfl
  have x6_3 := hx6.cell (i := 3) (v := .int .i64 m4) rfl
  have x6_4 := hx6.cell (i := 4) (v := .int .i64 m5) rfl
  have x6_5 := hx6.cell (i := 5) (v := .int .i64 m6) rfl
  have x6_6 := hx6.cell (i := 6) (v := .int .i64 m7) rfl
  have x6_7 := hx6.cell (i := 7) (v := .int .i64 m8) rfl
  have x6_8 := hx6.cell (i := 8) (v := .slice a5 L0.length c5) rfl
  have x6_9 := hx6.cell (i := 9) (v := .int .i64 m3) rfl
  have y0 := hR6.cell (i := 0) (v := .int .i64 0) rfl
  have fy0 := hR6.free 0
  have y1 := hR6.cell (i := 1) (v := .int .i64 0) rfl
  have fy1 := hR6.free 1
  have y2 := hR6.cell (i := 2) (v := .int .i64 0) rfl
  have fy2 := hR6.free 2
  have y3 := hR6.cell (i := 3) (v := .int .i64 0) rfl
  have fy3 := hR6.free 3
  have y4 := hR6.cell (i := 4) (v := .int .i64 0) rfl
  have fy4 := hR6.free 4
  have y5 := hR6.cell (i := 5) (v := .int .i64 0) rfl
  have fy5 := hR6.free 5
  have y6 := hR6.cell (i := 6) (v := .int .i64 0) rfl
  have fy6 := hR6.free 6
  have y7 := hR6.cell (i := 7) (v := .int .i64 0) rfl
  have fy7 := hR6.free 7
  have y8 := hR6.cell (i := 8) (v := .int .i64 0) rfl
  have fy8 := hR6.free 8
  have y9 := hR6.cell (i := 9) (v := .slice none 0 0) rfl
  have fy9 := hR6.free 9
  have y10 := hR6.cell (i := 10) (v := .int .i64 0) rfl
  have fy10 := hR6.free 10
  have hz6 := hR6.lt
  replace hb6 := Lib.hid hb6
  replace hx6 := Lib.hid hx6
  replace hR6 := Lib.hid hR6
  replace hw6 := Lib.hid hw6
  replace hb5 := Lib.hid hb5
  replace hR5 := Lib.hid hR5
  replace hr5 := Lib.hid hr5
  replace ht5 := Lib.hid ht5
  replace hB5 := Lib.hid hB5
  replace hn5 := Lib.hid hn5
  by_cases h0 : m0 = q0
  · have h1 : m1 ≠ q1 := by rcases hne with h | h; exact absurd h0 h; exact h
    have t0 : ((m0 : Int) != (q0 : Int)) = false := by rw [h0]; simp
    have t1 : ((m1 : Int) != (q1 : Int)) = true := bne_iff_ne.2 (by omega)
    replace h0 := Lib.hid h0
    replace hne := Lib.hid hne
    go_upto_region 14 with fail
    rw [← hw6.out]
    go_region_held3 (fun w' => w'.cell? ⟨1, 0, none⟩ = some (.iface 137 (.pointer (some (E 1))))) (simp (maxDischargeDepth := 8) [go_sem, *])
      (first
        | fail)
    go_wp2_with fail
    refine bodyPost_ret (v := .tuple #[askZ, (Value.iface 137 (.pointer (some (E 1))))]) ?_ rfl ⟨rfl, ?_⟩
    · refine (res_cell (b := w.heap.size) (t := 31) Tryd.results20 _ _ ((hR6.out.set11 rfl _ _ _ _ _ _ _ _ _ _ _).drew) ?_ Tryd.underlying31 (by kernel_rfl)).trans ?_
      · simp
      · simp
    · exact (gw6.set11 (Nat.le_refl _) _ _ _ _ _ _ _ _ _ _ _).drew
  · have t0 : ((m0 : Int) != (q0 : Int)) = true := bne_iff_ne.2 (by omega)
    replace hne := Lib.hid hne
    go_upto_region 14 with fail
    rw [← hw6.out]
    go_region_held3 (fun w' => w'.cell? ⟨1, 0, none⟩ = some (.iface 137 (.pointer (some (E 1))))) (simp (maxDischargeDepth := 8) [go_sem, *])
      (first
        | fail)
    go_wp2_with fail
    refine bodyPost_ret (v := .tuple #[askZ, (Value.iface 137 (.pointer (some (E 1))))]) ?_ rfl ⟨rfl, ?_⟩
    · refine (res_cell (b := w.heap.size) (t := 31) Tryd.results20 _ _ ((hR6.out.set11 rfl _ _ _ _ _ _ _ _ _ _ _).drew) ?_ Tryd.underlying31 (by kernel_rfl)).trans ?_
      · simp
      · simp
    · exact (gw6.set11 (Nat.le_refl _) _ _ _ _ _ _ _ _ _ _ _).drew


set_option maxRecDepth 100000 in
set_option maxHeartbeats 12800000 in
theorem getAsk_end1 {G : List Nat} {E : Nat → Addr} (w : World) (hE : EAt G E w) (i0 : 0 ∈ G) (i1 : 1 ∈ G) (b off c : Nat) (L : List UInt8) (hS : BytesAt w (some ⟨b, off, none⟩) (frameB L)) (hL : L.length ≤ 32768) (hc : (frameB L).length ≤ c) (m0 m1 m2 m3 m4 m5 m6 m7 m8 k j n : Nat) (P : List UInt8) (hk : numsR 3 L = some ([1, m0, m1], k)) (hq : numR (L.drop k) = some (n, j)) (hP : (L.drop (k + j)).take n = P) (hPn : P.length = n) (hn : n ≤ 32768) (he : k + j + n < L.length)
    (kk jj : Nat) (L0 : List Tsk) (hN : numsR 10 P = some ([m0, m1, m2, m3, m4, m5, m6, m7, m8, L0.length], kk)) (hT : numsR (4 * L0.length) (P.drop kk) = some (L0.flatMap tskNat, jj)) (hl : kk + jj = P.length) (hf : entF (⟨m0, m1, m2, m4, ⟨m5, m6, m7⟩, m8, L0, m3⟩ : Ent) = true) :
    Calls Tryd.prog 20 #[.slice (some ⟨b, off, none⟩) (frameB L).length c] w fun r w' => r = .returned (.tuple #[askZ, (Value.iface 137 (.pointer (some (E 1))))]) ∧ Gr w w' := by
  have hop := opened_yes (w.alloc (.cells #[.int .i64 0, .int .i64 0, .int .i64 0, .int .i64 0, .int .i64 0, .int .i64 0, .int .i64 0, .int .i64 0, .int .i64 0, .slice none 0 0, .int .i64 0] 31)) b off c L (hS.gr ((Gr.refl w).alloc _)) hL hc
  obtain ⟨N, hNN⟩ : ∃ N, (frameB L).length = N := ⟨_, rfl⟩
  rw [hNN] at hop ⊢
  have ht8 := (ent_tasks hf).1
  dsimp only at ht8
  have hget := fun w1 (g : Gr w w1) a c (hb : BytesAt w1 a P) (hcn : a = none → c = 0) => orderGet_yes w1 (hE.gr g) i0 a c P hb hcn (by omega) m0 m1 m2 m3 m4 m5 m6 m7 m8 kk jj L0 hN hT hl hf
  rw [hPn] at hget
  replace hNN := Lib.hid hNN
  replace hop := Lib.hid hop
  replace hS := Lib.hid hS
  replace hk := Lib.hid hk
  replace hq := Lib.hid hq
  replace hP := Lib.hid hP
  replace hPn := Lib.hid hPn
  have hle := he
  replace he := Lib.hid he
  replace hN := Lib.hid hN
  replace hT := Lib.hid hT
  replace hl := Lib.hid hl
  replace hf := Lib.hid hf
  replace hget := Lib.hid hget
  go_enter Tryd.func20, Tryd.ntmps20
  go_wp2_with fail
  refine hop.out.mono ?_
  rintro r w1 ⟨rb, rfl, hr1, hr2, g1⟩
  have hR1 : Blk w1 w.heap.size #[.int .i64 0, .int .i64 0, .int .i64 0, .int .i64 0, .int .i64 0, .int .i64 0, .int .i64 0, .int .i64 0, .int .i64 0, .slice none 0 0, .int .i64 0] 31 := (Blk.new w _ _).gr g1
  have gw1 : Gr w w1 := ((Gr.refl w).alloc _).trans g1
  have z1 := gw1.size
  simp only [World.size_alloc] at hr2
  obtain ⟨ab, hab⟩ : ∃ ab, w1.heap.size = ab := ⟨_, rfl⟩
  have hzR := hR1.lt
  rw [hab] at z1 hr1 hzR
  have hr2' : RdAt (· ≠ ab) w1 rb L 0 := hr1.mono (fun b hb => by omega)
  have hrl : rb < ab := by obtain ⟨_, _, hh, _⟩ := hr1; have := hh.lt; omega
  replace hr1 := Lib.hid hr1
  replace hr2' := Lib.hid hr2'
  replace hR1 := Lib.hid hR1
  go_wp2_with fail
  refine (numbers_yes w _ hE i1 ((gw1.alloc _).alloc _) rb ab (ab + 1) 3 L 0 #[.int .i64 0, .int .i64 0, .int .i64 0, .int .i64 0, .int .i64 0, .int .i64 0, .int .i64 0, .int .i64 0, .int .i64 0, .slice none 0 0, .int .i64 0] 31 ((hr2'.out.gr ((Gr.refl w1).alloc _)).gr ((Gr.refl _).alloc _)) (by omega) (by omega) (by omega) (by omega) (by omega) (by simp; omega) ((Blk.new1 hab).alloc _) (by decide) (by decide) (ptrs3 (t := 71) (Blk.new1 (by simp [hab]))) hk.out).mono ?_
  rintro r w3 ⟨rfl, g3, hr3, hb3⟩
  have gw3 : Gr w w3 := GrX.all ((gw1.alloc _).alloc _) g3 (fun x hx => by simp at hx; rcases hx with rfl | rfl <;> omega)
  have hb3' : Blk w3 ab #[.int .i64 1, .int .i64 m0, .int .i64 m1, .int .i64 0, .int .i64 0, .int .i64 0, .int .i64 0, .int .i64 0, .int .i64 0, .slice none 0 0, .int .i64 0] 31 := hb3
  have hR3 : Blk w3 w.heap.size #[.int .i64 0, .int .i64 0, .int .i64 0, .int .i64 0, .int .i64 0, .int .i64 0, .int .i64 0, .int .i64 0, .int .i64 0, .slice none 0 0, .int .i64 0] 31 := ((hR1.out.alloc _).alloc _).grx g3 (by simp; omega)
  have hkb := (numR_bd hq.out).2.2.2
  dsimp only at hkb
  rw [List.length_drop] at hkb
  have he' := he.out
  rw [Nat.zero_add] at hr3
  have hby := rbytes_yes w3 rb L k 32768 hr3 hq.out (by omega) (by omega)
  rw [hP.out] at hby
  have zab := hb3'.lt
  have c3_0 := hb3'.cell (i := 0) (v := .int .i64 1) rfl
  have c3_1 := hb3'.cell (i := 1) (v := .int .i64 m0) rfl
  have c3_2 := hb3'.cell (i := 2) (v := .int .i64 m1) rfl
  have c3_3 := hb3'.cell (i := 3) (v := .int .i64 0) rfl
  have c3_4 := hb3'.cell (i := 4) (v := .int .i64 0) rfl
  have c3_5 := hb3'.cell (i := 5) (v := .int .i64 0) rfl
  have c3_6 := hb3'.cell (i := 6) (v := .int .i64 0) rfl
  have c3_7 := hb3'.cell (i := 7) (v := .int .i64 0) rfl
  have c3_8 := hb3'.cell (i := 8) (v := .int .i64 0) rfl
  have c3_9 := hb3'.cell (i := 9) (v := .slice none 0 0) rfl
  have c3_10 := hb3'.cell (i := 10) (v := .int .i64 0) rfl
  clear g3 hb3
  replace hb3' := Lib.hid hb3'
  replace hR3 := Lib.hid hR3
  replace hr3 := Lib.hid hr3
  replace hby := Lib.hid hby
  replace he' := Lib.hid he'
  go_wp2_with fail
  refine hby.out.mono ?_
  rintro r w4 ⟨a4, c4, rfl, ho4, hr4, g4⟩
  have gw4 : Gr w w4 := GrX.all gw3 g4 (fun x hx => by simp at hx; omega)
  have hb4 := hb3'.out.grx g4 (by simp; omega)
  have hR4 := hR3.out.grx g4 (by simp; omega)
  have hget4 := hget.out w4 gw4 a4 c4 ho4.2.1 ho4.2.2.1
  replace hb4 := Lib.hid hb4
  replace hR4 := Lib.hid hR4
  replace hr4 := Lib.hid hr4
  replace ho4 := Lib.hid ho4
  replace hget4 := Lib.hid hget4
  go_wp2_with fail
  refine hget4.out.mono ?_
  rintro r w5 ⟨a5, c5, rfl, ⟨ht5, hn5, hl5, hm5, hB5⟩, g5⟩
  have gw5 := gw4.trans g5
  have hb5 := hb4.out.gr g5
  have hR5 := hR4.out.gr g5
  have hr5 := hr4.out.gr g5
  have zab5 := hb5.lt
  have z45 := g4.size
  have z5 := g5.size
  have c5_0 := hb5.cell (i := 0) (v := .int .i64 1) rfl
  have c5_1 := hb5.cell (i := 1) (v := .int .i64 m0) rfl
  have c5_2 := hb5.cell (i := 2) (v := .int .i64 m1) rfl
  have c5_3 := hb5.cell (i := 3) (v := .int .i64 0) rfl
  have c5_4 := hb5.cell (i := 4) (v := .int .i64 0) rfl
  have c5_5 := hb5.cell (i := 5) (v := .int .i64 0) rfl
  have c5_6 := hb5.cell (i := 6) (v := .int .i64 0) rfl
  have c5_7 := hb5.cell (i := 7) (v := .int .i64 0) rfl
  have c5_8 := hb5.cell (i := 8) (v := .int .i64 0) rfl
  have c5_9 := hb5.cell (i := 9) (v := .slice none 0 0) rfl
  have c5_10 := hb5.cell (i := 10) (v := .int .i64 0) rfl
  have f5_3 := hb5.free 3
  have f5_4 := hb5.free 4
  have f5_5 := hb5.free 5
  have f5_6 := hb5.free 6
  have f5_7 := hb5.free 7
  have f5_8 := hb5.free 8
  have f5_9 := hb5.free 9
  have f5_10 := hb5.free 10
  replace hb5 := Lib.hid hb5
  replace hR5 := Lib.hid hR5
  replace hr5 := Lib.hid hr5
  replace ht5 := Lib.hid ht5
  replace hB5 := Lib.hid hB5
  replace hn5 := Lib.hid hn5
  go_upto_region 16 with fail
  have hb7 : Blk _ ab #[.int .i64 1, .int .i64 m0, .int .i64 m1, .int .i64 m2, .int .i64 m4, .int .i64 m5, .int .i64 m6, .int .i64 m7, .int .i64 m8, .slice a5 L0.length c5, .int .i64 m3] 31 := (hb5.out.set38 rfl (.int .i64 m2) (.int .i64 m4) (.int .i64 m5) (.int .i64 m6) (.int .i64 m7) (.int .i64 m8) (.slice a5 L0.length c5) (.int .i64 m3)).alloc (.cells #[.int .i64 m0, .int .i64 m1, .int .i64 m2, .int .i64 m4, .int .i64 m5, .int .i64 m6, .int .i64 m7, .int .i64 m8, .slice a5 L0.length c5, .int .i64 m3] 79)
  have gx7 : GrX [ab] w5 _ := ((GrX.refl [ab] w5).set38 (b := ab) (by simp) (.int .i64 m2) (.int .i64 m4) (.int .i64 m5) (.int .i64 m6) (.int .i64 m7) (.int .i64 m8) (.slice a5 L0.length c5) (.int .i64 m3)).alloc (.cells #[.int .i64 m0, .int .i64 m1, .int .i64 m2, .int .i64 m4, .int .i64 m5, .int .i64 m6, .int .i64 m7, .int .i64 m8, .slice a5 L0.length c5, .int .i64 m3] 79)
  obtain ⟨w7, hw7⟩ : ∃ w7, w7 = (((((((((w5.setCell ⟨ab, 3, none⟩ (.int .i64 m2)).setCell ⟨ab, 4, none⟩ (.int .i64 m4)).setCell ⟨ab, 5, none⟩ (.int .i64 m5)).setCell ⟨ab, 6, none⟩ (.int .i64 m6)).setCell ⟨ab, 7, none⟩ (.int .i64 m7)).setCell ⟨ab, 8, none⟩ (.int .i64 m8)).setCell ⟨ab, 9, none⟩ (.slice a5 L0.length c5)).setCell ⟨ab, 10, none⟩ (.int .i64 m3)).alloc (.cells #[.int .i64 m0, .int .i64 m1, .int .i64 m2, .int .i64 m4, .int .i64 m5, .int .i64 m6, .int .i64 m7, .int .i64 m8, .slice a5 L0.length c5, .int .i64 m3] 79)) := ⟨_, rfl⟩
  rw [← hw7] at hb7 gx7
  have hR7 := hR5.out.grx gx7 (by simp; omega)
  have gw7 : Gr w w7 := GrX.all gw5 gx7 (fun x hx => by simp at hx; omega)
  have ht7 : RecsAt 4 Tsk.cells w7 a5 L0 := (RecsIn.grx (K := fun b => w4.heap.size ≤ b) ⟨ht5.out, fun x hx _ => hB5.out x hx⟩ gx7 (fun x hx => by simp at hx; omega)).1
  have hr7 := hr5.out.grx gx7 (by simp; omega) (fun b hb => by simpa using hb)
  have hen := rend_no w7 rb L _ hr7 he'.out (hE.gr gw7) i1
  replace hw7 := Lib.hid hw7
  replace hb7 := Lib.hid hb7
  replace hR7 := Lib.hid hR7
  replace hr7 := Lib.hid hr7
  replace hen := Lib.hid hen
  replace ht7 := Lib.hid ht7
  rw [← hw7.out]
  go_wp2_with fail
  refine hen.out.mono ?_
  rintro r w8 ⟨rfl, g8⟩
  have hR8 := hR7.out.gr g8
  have gw8 := gw7.trans g8
  have he8 := (hE.gr gw8).c0 i1
  have hl1 := hE.lt _ i1
  have y0 := hR8.cell (i := 0) (v := .int .i64 0) rfl
  have fy0 := hR8.free 0
  have y1 := hR8.cell (i := 1) (v := .int .i64 0) rfl
  have fy1 := hR8.free 1
  have y2 := hR8.cell (i := 2) (v := .int .i64 0) rfl
  have fy2 := hR8.free 2
  have y3 := hR8.cell (i := 3) (v := .int .i64 0) rfl
  have fy3 := hR8.free 3
  have y4 := hR8.cell (i := 4) (v := .int .i64 0) rfl
  have fy4 := hR8.free 4
  have y5 := hR8.cell (i := 5) (v := .int .i64 0) rfl
  have fy5 := hR8.free 5
  have y6 := hR8.cell (i := 6) (v := .int .i64 0) rfl
  have fy6 := hR8.free 6
  have y7 := hR8.cell (i := 7) (v := .int .i64 0) rfl
  have fy7 := hR8.free 7
  have y8 := hR8.cell (i := 8) (v := .int .i64 0) rfl
  have fy8 := hR8.free 8
  have y9 := hR8.cell (i := 9) (v := .slice none 0 0) rfl
  have fy9 := hR8.free 9
  have y10 := hR8.cell (i := 10) (v := .int .i64 0) rfl
  have fy10 := hR8.free 10
  have hz8 := hR8.lt
  replace hR8 := Lib.hid hR8
  go_upto_region 17 with fail
  go_region_held3 (fun w' => w'.cell? ⟨1, 0, none⟩ = some (.iface 137 (.pointer (some (E 1))))) (simp (maxDischargeDepth := 8) [go_sem, *])
    (first
      | fail)
  go_wp2_with fail
  refine bodyPost_ret (v := .tuple #[askZ, (Value.iface 137 (.pointer (some (E 1))))]) ?_ rfl ⟨rfl, ?_⟩
  · refine (res_cell (b := w.heap.size) (t := 31) Tryd.results20 _ _ ((hR8.out.set11 rfl _ _ _ _ _ _ _ _ _ _ _).drew) ?_ Tryd.underlying31 (by kernel_rfl)).trans ?_
    · simp
    · simp
  · exact (gw8.set11 (Nat.le_refl _) _ _ _ _ _ _ _ _ _ _ _).drew
end Go.Proofs.YtlgbnjaoadlolaaDoor
