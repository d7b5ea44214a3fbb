/- DeskGets: the walk. Printed by gen_p63.py. DeskGets: of all bytes. -/
import Derived.Test.YtlgbnjaoadlolaaDoorP62
import Derived.Test.YtlgbnjaoadlolaaDoorP28
import Derived.Test.YtlgbnjaoadlolaaDoorP47
namespace Go.Proofs.YtlgbnjaoadlolaaDoor
open Go.RowKit

theorem neq_same (E : Nat → Addr) (g : Nat) (w : World) : (binOp .neq 35 (.iface 137 (.pointer (some (E g)))) (.iface 137 (.pointer (some (E g))))).run Tryd.prog w = .ok (.bool false) w := by
  obtain ⟨i, hi, hc⟩ := Option.map_eq_some_iff.1 Tryd.errComp
  obtain ⟨j, hj, hs⟩ := Option.map_eq_some_iff.1 Tryd.errSize
  simp only [binOp]
  simp [Op.equal, Op.maxDepth, run_equalIn_iface_ptr_same w 9998 (E g) Tryd.underlying35 Tryd.underlying137 hi hc hj]
set_option maxRecDepth 100000 in
set_option maxHeartbeats 6400000 in
theorem gets_nn {G : List Nat} {E : Nat → Addr} (w : World) (hE : EAt G E w) (i0 : 0 ∈ G) (i1 : 1 ∈ G) (a : Option Addr) (c : Nat) (S : List UInt8) (hB : BytesAt w a S) (hcn : a = none → c = 0) (hl : S.length ≤ 140737488351232)
    (hA : ∀ (w1 : World) (g c1 : Nat), Gr w w1 → BytesAt w1 (some ⟨g, 0, none⟩) S → S.length ≤ c1 → Calls Tryd.prog 20 #[.slice (some ⟨g, 0, none⟩) S.length c1] w1 fun r w' => r = .returned (.tuple #[askZ, (Value.iface 137 (.pointer (some (E 1))))]) ∧ Gr w1 w')
    (hA2 : ∀ w1, Gr w w1 → Calls Tryd.prog 22 #[.slice a S.length c] w1 fun r w' => r = .returned (.tuple #[askZ, .bool false]) ∧ Gr w1 w')
    (hR : ∀ (w1 : World) (g c1 : Nat), Gr w w1 → BytesAt w1 (some ⟨g, 0, none⟩) S → S.length ≤ c1 → Calls Tryd.prog 14 #[.slice (some ⟨g, 0, none⟩) S.length c1] w1 fun x w' => x = .returned (.tuple #[repZ, (Value.iface 137 (.pointer (some (E 1))))]) ∧ Gr w1 w')
    (hR2 : ∀ w1, Gr w w1 → Calls Tryd.prog 23 #[.slice a S.length c] w1 fun x w' => x = .returned (.tuple #[repZ, .bool false]) ∧ Gr w1 w') :
    Calls Tryd.prog 6 #[.slice a S.length c] w fun r w' => r = .returned (.bool true) ∧ Gr w w' := by
  have heq0 := fun w => neq_same E 1 w
  have hN := fun w1 (g : Gr w w1) => nBytes_any w1 a c S (hB.gr g) hcn hl
  obtain ⟨n, hn⟩ : ∃ n, S.length = n := ⟨_, rfl⟩
  have hK := fun w1 (g : Gr w w1) g' c' hM hc' hcm => kept_yes w1 g' c' S a c hM hc' hcm (hB.gr g) hl
  rw [hn] at hN hA hA2 hR hR2 hK ⊢
  replace hN := Lib.hid hN
  replace hA := Lib.hid hA
  replace hA2 := Lib.hid hA2
  replace hR := Lib.hid hR
  replace hR2 := Lib.hid hR2
  replace hK := Lib.hid hK
  replace hn := Lib.hid hn
  replace hl := Lib.hid hl
  go_enter Tryd.func6, Tryd.ntmps6
  go_wp2_with fail
  refine (alive20_any _ hE i0).mono ?_
  rintro e wa ⟨rfl, ga⟩
  obtain ⟨ca, fa, sa⟩ := ga.cells
  try simp only [size_drewN] at ca fa sa
  try simp only [World.size_alloc] at ca fa sa
  try simp only [World.size_drew] at ca fa sa
  try simp only [World.size_setCell] at ca fa sa
  go_wp2_with fail
  refine (hN.out wa ga).mono ?_
  rintro x w2 ⟨g, c2, rfl, ho2, hc2⟩
  have g2 := ho2.2.2.2.2
  have gw2 := ga.trans g2
  have hM2 := ho2.2.1
  have hcm2 := ho2.x.cmax
  have hS2 : BytesAt w2 (some ⟨g, 0, none⟩) S := by
    have := hM2.take S.length
    rwa [List.take_left] at this
  have hnc : n ≤ c2 := by omega
  replace ho2 := Lib.hid ho2
  replace hM2 := Lib.hid hM2
  replace hS2 := Lib.hid hS2
  go_wp2_with fail
  refine (hA.out w2 g c2 gw2 hS2.out hnc).mono ?_
  rintro x w3 ⟨rfl, g3⟩
  have gw3 := gw2.trans g3
  obtain ⟨w4, hw4⟩ : ∃ w4, w4 = w3.alloc (.cells #[.int .i64 0, .int .i64 0, .int .i64 0, .int .i64 0, .int .i64 0, .int .i64 0, .int .i64 0, .int .i64 0, .int .i64 0, .slice none 0 0, .int .i64 0] 31) := ⟨_, rfl⟩
  have g4 : Gr w3 w4 := by rw [hw4]; exact (Gr.refl w3).alloc _
  have gw4 := gw3.trans g4
  have hb1 : Blk w4 w3.heap.size #[.int .i64 0, .int .i64 0, .int .i64 0, .int .i64 0, .int .i64 0, .int .i64 0, .int .i64 0, .int .i64 0, .int .i64 0, .slice none 0 0, .int .i64 0] 31 := by rw [hw4]; exact Blk.new w3 _ _
  replace hw4 := Lib.hid hw4
  replace hb1 := Lib.hid hb1
  go_upto_region 5 with fail
  rw [← hw4.out]
  go_wp2_with fail
  refine (hA2.out w4 gw4).mono ?_
  rintro x w5 ⟨rfl, g5⟩
  have gw5 := gw4.trans g5
  obtain ⟨w6, hw6⟩ : ∃ w6, w6 = w5.alloc (.cells #[.int .i64 0, .int .i64 0, .int .i64 0, .int .i64 0, .int .i64 0, .int .i64 0, .int .i64 0, .int .i64 0, .int .i64 0, .slice none 0 0, .int .i64 0] 31) := ⟨_, rfl⟩
  have g6 : Gr w5 w6 := by rw [hw6]; exact (Gr.refl w5).alloc _
  have gw6 := gw5.trans g6
  have hb2 : Blk w6 w5.heap.size #[.int .i64 0, .int .i64 0, .int .i64 0, .int .i64 0, .int .i64 0, .int .i64 0, .int .i64 0, .int .i64 0, .int .i64 0, .slice none 0 0, .int .i64 0] 31 := by rw [hw6]; exact Blk.new w5 _ _
  replace hw6 := Lib.hid hw6
  replace hb2 := Lib.hid hb2
  go_upto_region 6 with fail
  rw [← hw6.out]
  go_wp2_with fail
  refine (hR.out w6 g c2 gw6 (hS2.out.gr ((((g3.trans g4).trans g5).trans g6))) hnc).mono ?_
  rintro x w7 ⟨rfl, g7⟩
  have gw7 := gw6.trans g7
  obtain ⟨w8, hw8⟩ : ∃ w8, w8 = w7.alloc (.cells #[.int .i64 0, .int .i64 0, .int .i64 0, .int .i64 0, .slice none 0 0] 24) := ⟨_, rfl⟩
  have g8 : Gr w7 w8 := by rw [hw8]; exact (Gr.refl w7).alloc _
  have gw8 := gw7.trans g8
  have hb3 : Blk w8 w7.heap.size #[.int .i64 0, .int .i64 0, .int .i64 0, .int .i64 0, .slice none 0 0] 24 := by rw [hw8]; exact Blk.new w7 _ _
  replace hw8 := Lib.hid hw8
  replace hb3 := Lib.hid hb3
  go_upto_region 7 with fail
  rw [← hw8.out]
  go_wp2_with fail
  refine (hR2.out w8 gw8).mono ?_
  rintro x w9 ⟨rfl, g9⟩
  have gw9 := gw8.trans g9
  obtain ⟨w10, hw10⟩ : ∃ w10, w10 = w9.alloc (.cells #[.int .i64 0, .int .i64 0, .int .i64 0, .int .i64 0, .slice none 0 0] 24) := ⟨_, rfl⟩
  have g10 : Gr w9 w10 := by rw [hw10]; exact (Gr.refl w9).alloc _
  have gw10 := gw9.trans g10
  have hb4 : Blk w10 w9.heap.size #[.int .i64 0, .int .i64 0, .int .i64 0, .int .i64 0, .slice none 0 0] 24 := by rw [hw10]; exact Blk.new w9 _ _
  replace hw10 := Lib.hid hw10
  replace hb4 := Lib.hid hb4
  go_upto_region 8 with fail
  rw [← hw10.out]
  have g38 := ((((g3.trans g4).trans g5).trans g6).trans g7).trans g8
  have g410 := (((g5.trans g6).trans g7).trans g8).trans (g9.trans g10)
  have gb1 := hb1.out.gr g410
  have gb2 := hb2.out.gr ((g7.trans g8).trans (g9.trans g10))
  have gb3 := hb3.out.gr (g9.trans g10)
  have gb4 := hb4.out
  have p0 := gb1.cell (i := 0) (v := .int .i64 0) rfl
  have p1 := gb1.cell (i := 1) (v := .int .i64 0) rfl
  have p2 := gb1.cell (i := 2) (v := .int .i64 0) rfl
  have p3 := gb1.cell (i := 3) (v := .int .i64 0) rfl
  have p4 := gb1.cell (i := 4) (v := .int .i64 0) rfl
  have p5 := gb1.cell (i := 5) (v := .int .i64 0) rfl
  have p6 := gb1.cell (i := 6) (v := .int .i64 0) rfl
  have p7 := gb1.cell (i := 7) (v := .int .i64 0) rfl
  have p8 := gb1.cell (i := 8) (v := .int .i64 0) rfl
  have p9 := gb1.cell (i := 9) (v := .slice none 0 0) rfl
  have p10 := gb1.cell (i := 10) (v := .int .i64 0) rfl
  have q0 := gb2.cell (i := 0) (v := .int .i64 0) rfl
  have q1 := gb2.cell (i := 1) (v := .int .i64 0) rfl
  have q2 := gb2.cell (i := 2) (v := .int .i64 0) rfl
  have q3 := gb2.cell (i := 3) (v := .int .i64 0) rfl
  have q4 := gb2.cell (i := 4) (v := .int .i64 0) rfl
  have q5 := gb2.cell (i := 5) (v := .int .i64 0) rfl
  have q6 := gb2.cell (i := 6) (v := .int .i64 0) rfl
  have q7 := gb2.cell (i := 7) (v := .int .i64 0) rfl
  have q8 := gb2.cell (i := 8) (v := .int .i64 0) rfl
  have q9 := gb2.cell (i := 9) (v := .slice none 0 0) rfl
  have q10 := gb2.cell (i := 10) (v := .int .i64 0) rfl
  replace gb1 := Lib.hid gb1
  replace gb2 := Lib.hid gb2
  replace gb3 := Lib.hid gb3
  replace gb4 := Lib.hid gb4
  have hsa : Calls Tryd.prog 18 #[askZ, askZ] w10 fun x w' => x = .returned (.bool true) ∧ Gr w10 w' := rSameAsk_eq 0 (EN0 0 0) none 0 none 0 w10 (exE_okZ 0 0 w10) (exE_okZ 0 0 w10)
  replace hsa := Lib.hid hsa
  go_wp2_with fail
  refine hsa.out.mono ?_
  rintro x w11 ⟨rfl, g11⟩
  have gw11 := gw10.trans g11
  have gc3 := gb3.out.gr g11
  have gc4 := gb4.out.gr g11
  have r0 := gc3.cell (i := 0) (v := .int .i64 0) rfl
  have r1 := gc3.cell (i := 1) (v := .int .i64 0) rfl
  have r2 := gc3.cell (i := 2) (v := .int .i64 0) rfl
  have r3 := gc3.cell (i := 3) (v := .int .i64 0) rfl
  have r4 := gc3.cell (i := 4) (v := .slice none 0 0) rfl
  have s0 := gc4.cell (i := 0) (v := .int .i64 0) rfl
  have s1 := gc4.cell (i := 1) (v := .int .i64 0) rfl
  have s2 := gc4.cell (i := 2) (v := .int .i64 0) rfl
  have s3 := gc4.cell (i := 3) (v := .int .i64 0) rfl
  have s4 := gc4.cell (i := 4) (v := .slice none 0 0) rfl
  replace gc3 := Lib.hid gc3
  replace gc4 := Lib.hid gc4
  have hsr : Calls Tryd.prog 11 #[repZ, repZ] w11 fun x w' => x = .returned (.bool true) ∧ Gr w11 w' := rSameReply_yes w11 ⟨0, 0, 0, 0, []⟩ none none 0 0 (fun i s h => by simp at h) (fun i s h => by simp at h)
  replace hsr := Lib.hid hsr
  go_wp2_with fail
  refine hsr.out.mono ?_
  rintro x w12 ⟨rfl, g12⟩
  have gw12 := gw11.trans g12
  have hkp := hK.out w12 gw12 g c2 (hM2.out.gr (g38.trans ((g9.trans g10).trans (g11.trans g12)))) (by have := hn.out; omega) hcm2
  replace hkp := Lib.hid hkp
  go_wp2_with fail
  refine hkp.out.mono ?_
  rintro x w13 ⟨rfl, g13⟩
  have gw13 := gw12.trans g13
  have g1013 := (g11.trans g12).trans g13
  have he := (hE.gr gw13).c0 i1
  go_wp2_with fail
  go_ret
  exact ⟨rfl, gw13⟩
set_option maxRecDepth 100000 in
set_option maxHeartbeats 6400000 in
theorem gets_ny {G : List Nat} {E : Nat → Addr} (w : World) (hE : EAt G E w) (i0 : 0 ∈ G) (i1 : 1 ∈ G) (a : Option Addr) (c : Nat) (S : List UInt8) (hB : BytesAt w a S) (hcn : a = none → c = 0) (hl : S.length ≤ 140737488351232)
    (hA : ∀ (w1 : World) (g c1 : Nat), Gr w w1 → BytesAt w1 (some ⟨g, 0, none⟩) S → S.length ≤ c1 → Calls Tryd.prog 20 #[.slice (some ⟨g, 0, none⟩) S.length c1] w1 fun r w' => r = .returned (.tuple #[askZ, (Value.iface 137 (.pointer (some (E 1))))]) ∧ Gr w1 w')
    (hA2 : ∀ w1, Gr w w1 → Calls Tryd.prog 22 #[.slice a S.length c] w1 fun r w' => r = .returned (.tuple #[askZ, .bool false]) ∧ Gr w1 w')
    (r : Rep) (hg : repF r = true) (hSr : S = frameB (repB r))
    (hR : ∀ (w1 : World) (g c1 : Nat), Gr w w1 → BytesAt w1 (some ⟨g, 0, none⟩) S → S.length ≤ c1 → Calls Tryd.prog 14 #[.slice (some ⟨g, 0, none⟩) S.length c1] w1 fun x w' => ∃ a' c', x = .returned (.tuple #[.agg #[.int .i64 r.cl, .int .i64 r.nu, .int .i64 r.co, .int .i64 r.id, .slice a' r.tree.length c'], .nilIface]) ∧ Own w1 w' a' c' r.tree)
    (hR2 : ∀ w1, Gr w w1 → Calls Tryd.prog 23 #[.slice a S.length c] w1 fun x w' => ∃ a' c', x = .returned (.tuple #[.agg #[.int .i64 r.cl, .int .i64 r.nu, .int .i64 r.co, .int .i64 r.id, .slice a' r.tree.length c'], .bool true]) ∧ Own w1 w' a' c' r.tree) :
    Calls Tryd.prog 6 #[.slice a S.length c] w fun r w' => r = .returned (.bool true) ∧ Gr w w' := by
  have heq0 := fun w => neq_same E 1 w
  have hN := fun w1 (g : Gr w w1) => nBytes_any w1 a c S (hB.gr g) hcn hl
  obtain ⟨n, hn⟩ : ∃ n, S.length = n := ⟨_, rfl⟩
  have hK := fun w1 (g : Gr w w1) g' c' hM hc' hcm => kept_yes w1 g' c' S a c hM hc' hcm (hB.gr g) hl
  rw [hn] at hN hA hA2 hR hR2 hK ⊢
  replace hN := Lib.hid hN
  replace hA := Lib.hid hA
  replace hA2 := Lib.hid hA2
  replace hR := Lib.hid hR
  replace hR2 := Lib.hid hR2
  replace hK := Lib.hid hK
  replace hn := Lib.hid hn
  replace hl := Lib.hid hl
  replace hg := Lib.hid hg
  replace hSr := Lib.hid hSr
  go_enter Tryd.func6, Tryd.ntmps6
  go_wp2_with fail
  refine (alive20_any _ hE i0).mono ?_
  rintro e wa ⟨rfl, ga⟩
  obtain ⟨ca, fa, sa⟩ := ga.cells
  try simp only [size_drewN] at ca fa sa
  try simp only [World.size_alloc] at ca fa sa
  try simp only [World.size_drew] at ca fa sa
  try simp only [World.size_setCell] at ca fa sa
  go_wp2_with fail
  refine (hN.out wa ga).mono ?_
  rintro x w2 ⟨g, c2, rfl, ho2, hc2⟩
  have g2 := ho2.2.2.2.2
  have gw2 := ga.trans g2
  have hM2 := ho2.2.1
  have hcm2 := ho2.x.cmax
  have hS2 : BytesAt w2 (some ⟨g, 0, none⟩) S := by
    have := hM2.take S.length
    rwa [List.take_left] at this
  have hnc : n ≤ c2 := by omega
  replace ho2 := Lib.hid ho2
  replace hM2 := Lib.hid hM2
  replace hS2 := Lib.hid hS2
  go_wp2_with fail
  refine (hA.out w2 g c2 gw2 hS2.out hnc).mono ?_
  rintro x w3 ⟨rfl, g3⟩
  have gw3 := gw2.trans g3
  obtain ⟨w4, hw4⟩ : ∃ w4, w4 = w3.alloc (.cells #[.int .i64 0, .int .i64 0, .int .i64 0, .int .i64 0, .int .i64 0, .int .i64 0, .int .i64 0, .int .i64 0, .int .i64 0, .slice none 0 0, .int .i64 0] 31) := ⟨_, rfl⟩
  have g4 : Gr w3 w4 := by rw [hw4]; exact (Gr.refl w3).alloc _
  have gw4 := gw3.trans g4
  have hb1 : Blk w4 w3.heap.size #[.int .i64 0, .int .i64 0, .int .i64 0, .int .i64 0, .int .i64 0, .int .i64 0, .int .i64 0, .int .i64 0, .int .i64 0, .slice none 0 0, .int .i64 0] 31 := by rw [hw4]; exact Blk.new w3 _ _
  replace hw4 := Lib.hid hw4
  replace hb1 := Lib.hid hb1
  go_upto_region 5 with fail
  rw [← hw4.out]
  go_wp2_with fail
  refine (hA2.out w4 gw4).mono ?_
  rintro x w5 ⟨rfl, g5⟩
  have gw5 := gw4.trans g5
  obtain ⟨w6, hw6⟩ : ∃ w6, w6 = w5.alloc (.cells #[.int .i64 0, .int .i64 0, .int .i64 0, .int .i64 0, .int .i64 0, .int .i64 0, .int .i64 0, .int .i64 0, .int .i64 0, .slice none 0 0, .int .i64 0] 31) := ⟨_, rfl⟩
  have g6 : Gr w5 w6 := by rw [hw6]; exact (Gr.refl w5).alloc _
  have gw6 := gw5.trans g6
  have hb2 : Blk w6 w5.heap.size #[.int .i64 0, .int .i64 0, .int .i64 0, .int .i64 0, .int .i64 0, .int .i64 0, .int .i64 0, .int .i64 0, .int .i64 0, .slice none 0 0, .int .i64 0] 31 := by rw [hw6]; exact Blk.new w5 _ _
  replace hw6 := Lib.hid hw6
  replace hb2 := Lib.hid hb2
  go_upto_region 6 with fail
  rw [← hw6.out]
  go_wp2_with fail
  refine (hR.out w6 g c2 gw6 (hS2.out.gr ((((g3.trans g4).trans g5).trans g6))) hnc).mono ?_
  rintro x w7 ⟨a7, c7, rfl, ho7⟩
  have g7 := ho7.2.2.2.2
  have gw7 := gw6.trans g7
  obtain ⟨w8, hw8⟩ : ∃ w8, w8 = w7.alloc (.cells #[.int .i64 r.cl, .int .i64 r.nu, .int .i64 r.co, .int .i64 r.id, .slice a7 r.tree.length c7] 24) := ⟨_, rfl⟩
  have g8 : Gr w7 w8 := by rw [hw8]; exact (Gr.refl w7).alloc _
  have gw8 := gw7.trans g8
  have hb3 : Blk w8 w7.heap.size #[.int .i64 r.cl, .int .i64 r.nu, .int .i64 r.co, .int .i64 r.id, .slice a7 r.tree.length c7] 24 := by rw [hw8]; exact Blk.new w7 _ _
  replace hw8 := Lib.hid hw8
  replace hb3 := Lib.hid hb3
  replace ho7 := Lib.hid ho7
  go_upto_region 7 with fail
  rw [← hw8.out]
  go_wp2_with fail
  refine (hR2.out w8 gw8).mono ?_
  rintro x w9 ⟨a9, c9, rfl, ho9⟩
  have g9 := ho9.2.2.2.2
  have gw9 := gw8.trans g9
  obtain ⟨w10, hw10⟩ : ∃ w10, w10 = w9.alloc (.cells #[.int .i64 r.cl, .int .i64 r.nu, .int .i64 r.co, .int .i64 r.id, .slice a9 r.tree.length c9] 24) := ⟨_, rfl⟩
  have g10 : Gr w9 w10 := by rw [hw10]; exact (Gr.refl w9).alloc _
  have gw10 := gw9.trans g10
  have hb4 : Blk w10 w9.heap.size #[.int .i64 r.cl, .int .i64 r.nu, .int .i64 r.co, .int .i64 r.id, .slice a9 r.tree.length c9] 24 := by rw [hw10]; exact Blk.new w9 _ _
  replace hw10 := Lib.hid hw10
  replace hb4 := Lib.hid hb4
  replace ho9 := Lib.hid ho9
  go_upto_region 8 with fail
  rw [← hw10.out]
  have g38 := ((((g3.trans g4).trans g5).trans g6).trans g7).trans g8
  have g410 := (((g5.trans g6).trans g7).trans g8).trans (g9.trans g10)
  have gb1 := hb1.out.gr g410
  have gb2 := hb2.out.gr ((g7.trans g8).trans (g9.trans g10))
  have gb3 := hb3.out.gr (g9.trans g10)
  have gb4 := hb4.out
  have p0 := gb1.cell (i := 0) (v := .int .i64 0) rfl
  have p1 := gb1.cell (i := 1) (v := .int .i64 0) rfl
  have p2 := gb1.cell (i := 2) (v := .int .i64 0) rfl
  have p3 := gb1.cell (i := 3) (v := .int .i64 0) rfl
  have p4 := gb1.cell (i := 4) (v := .int .i64 0) rfl
  have p5 := gb1.cell (i := 5) (v := .int .i64 0) rfl
  have p6 := gb1.cell (i := 6) (v := .int .i64 0) rfl
  have p7 := gb1.cell (i := 7) (v := .int .i64 0) rfl
  have p8 := gb1.cell (i := 8) (v := .int .i64 0) rfl
  have p9 := gb1.cell (i := 9) (v := .slice none 0 0) rfl
  have p10 := gb1.cell (i := 10) (v := .int .i64 0) rfl
  have q0 := gb2.cell (i := 0) (v := .int .i64 0) rfl
  have q1 := gb2.cell (i := 1) (v := .int .i64 0) rfl
  have q2 := gb2.cell (i := 2) (v := .int .i64 0) rfl
  have q3 := gb2.cell (i := 3) (v := .int .i64 0) rfl
  have q4 := gb2.cell (i := 4) (v := .int .i64 0) rfl
  have q5 := gb2.cell (i := 5) (v := .int .i64 0) rfl
  have q6 := gb2.cell (i := 6) (v := .int .i64 0) rfl
  have q7 := gb2.cell (i := 7) (v := .int .i64 0) rfl
  have q8 := gb2.cell (i := 8) (v := .int .i64 0) rfl
  have q9 := gb2.cell (i := 9) (v := .slice none 0 0) rfl
  have q10 := gb2.cell (i := 10) (v := .int .i64 0) rfl
  replace gb1 := Lib.hid gb1
  replace gb2 := Lib.hid gb2
  replace gb3 := Lib.hid gb3
  replace gb4 := Lib.hid gb4
  have hsa : Calls Tryd.prog 18 #[askZ, askZ] w10 fun x w' => x = .returned (.bool true) ∧ Gr w10 w' := rSameAsk_eq 0 (EN0 0 0) none 0 none 0 w10 (exE_okZ 0 0 w10) (exE_okZ 0 0 w10)
  replace hsa := Lib.hid hsa
  go_wp2_with fail
  refine hsa.out.mono ?_
  rintro x w11 ⟨rfl, g11⟩
  have gw11 := gw10.trans g11
  have gc3 := gb3.out.gr g11
  have gc4 := gb4.out.gr g11
  have r0 := gc3.cell (i := 0) (v := .int .i64 r.cl) rfl
  have r1 := gc3.cell (i := 1) (v := .int .i64 r.nu) rfl
  have r2 := gc3.cell (i := 2) (v := .int .i64 r.co) rfl
  have r3 := gc3.cell (i := 3) (v := .int .i64 r.id) rfl
  have r4 := gc3.cell (i := 4) (v := .slice a7 r.tree.length c7) rfl
  have s0 := gc4.cell (i := 0) (v := .int .i64 r.cl) rfl
  have s1 := gc4.cell (i := 1) (v := .int .i64 r.nu) rfl
  have s2 := gc4.cell (i := 2) (v := .int .i64 r.co) rfl
  have s3 := gc4.cell (i := 3) (v := .int .i64 r.id) rfl
  have s4 := gc4.cell (i := 4) (v := .slice a9 r.tree.length c9) rfl
  replace gc3 := Lib.hid gc3
  replace gc4 := Lib.hid gc4
  have hsr := rSameReply_yes w11 r a7 a9 c7 c9 (ho7.out.2.1.gr ((g8.trans (g9.trans g10)).trans g11)) (ho9.out.2.1.gr (g10.trans g11))
  replace hsr := Lib.hid hsr
  go_wp2_with fail
  refine hsr.out.mono ?_
  rintro x w12 ⟨rfl, g12⟩
  have gw12 := gw11.trans g12
  have hkp := hK.out w12 gw12 g c2 (hM2.out.gr (g38.trans ((g9.trans g10).trans (g11.trans g12)))) (by have := hn.out; omega) hcm2
  replace hkp := Lib.hid hkp
  go_wp2_with fail
  refine hkp.out.mono ?_
  rintro x w13 ⟨rfl, g13⟩
  have gw13 := gw12.trans g13
  have g1013 := (g11.trans g12).trans g13
  have he := (hE.gr gw13).c0 i1
  have ge3 := gb3.out.gr g1013
  have u0 := ge3.cell (i := 0) (v := .int .i64 r.cl) rfl
  have u1 := ge3.cell (i := 1) (v := .int .i64 r.nu) rfl
  have u2 := ge3.cell (i := 2) (v := .int .i64 r.co) rfl
  have u3 := ge3.cell (i := 3) (v := .int .i64 r.id) rfl
  have u4 := ge3.cell (i := 4) (v := .slice a7 r.tree.length c7) rfl
  replace ge3 := Lib.hid ge3
  have hpr := putReply_yes w13 (hE.gr gw13) i0 r a7 c7 hg.out (ho7.out.2.1.gr ((g8.trans (g9.trans g10)).trans g1013)) ho7.out.2.2.1 (fun x hx => by have h1 := ho7.out.lt hx; have h2 := ((g8.trans (g9.trans g10)).trans g1013).size; omega)
  rw [← hSr.out, hn.out] at hpr
  replace hpr := Lib.hid hpr
  go_wp2_with fail
  refine hpr.out.mono ?_
  rintro x w15 ⟨a15, c15, rfl, ho15⟩
  have gw15 := gw13.trans ho15.2.2.2.2
  have q3 := conv_any c15 ho15.2.1
  have q4 := conv_any c (hB.gr gw15)
  rw [hn.out] at q3 q4
  replace ho15 := Lib.hid ho15
  go_wp2_with fail
  go_ret
  exact ⟨rfl, gw15⟩
set_option maxRecDepth 100000 in
set_option maxHeartbeats 6400000 in
theorem gets_yn {G : List Nat} {E : Nat → Addr} (w : World) (hE : EAt G E w) (i0 : 0 ∈ G) (i1 : 1 ∈ G) (a : Option Addr) (c : Nat) (S : List UInt8) (hB : BytesAt w a S) (hcn : a = none → c = 0) (hl : S.length ≤ 140737488351232) (k : Int) (e : Ent) (hf : askF k e = true) (hSe : S = frameB (askB k e))
    (hA : ∀ (w1 : World) (g c1 : Nat), Gr w w1 → BytesAt w1 (some ⟨g, 0, none⟩) S → S.length ≤ c1 → Calls Tryd.prog 20 #[.slice (some ⟨g, 0, none⟩) S.length c1] w1 fun r w' => ∃ a' c', r = .returned (.tuple #[askV k e a' c', .nilIface]) ∧ (⟨e, a', c'⟩ : EntM).ok Any w' ∧ Gr w1 w')
    (hA2 : ∀ w1, Gr w w1 → Calls Tryd.prog 22 #[.slice a S.length c] w1 fun r w' => ∃ a' c', r = .returned (.tuple #[askV k e a' c', .bool true]) ∧ (⟨e, a', c'⟩ : EntM).ok Any w' ∧ Gr w1 w')
    (hR : ∀ (w1 : World) (g c1 : Nat), Gr w w1 → BytesAt w1 (some ⟨g, 0, none⟩) S → S.length ≤ c1 → Calls Tryd.prog 14 #[.slice (some ⟨g, 0, none⟩) S.length c1] w1 fun x w' => x = .returned (.tuple #[repZ, (Value.iface 137 (.pointer (some (E 1))))]) ∧ Gr w1 w')
    (hR2 : ∀ w1, Gr w w1 → Calls Tryd.prog 23 #[.slice a S.length c] w1 fun x w' => x = .returned (.tuple #[repZ, .bool false]) ∧ Gr w1 w') :
    Calls Tryd.prog 6 #[.slice a S.length c] w fun r w' => r = .returned (.bool true) ∧ Gr w w' := by
  have heq0 := fun w => neq_same E 1 w
  have hN := fun w1 (g : Gr w w1) => nBytes_any w1 a c S (hB.gr g) hcn hl
  obtain ⟨n, hn⟩ : ∃ n, S.length = n := ⟨_, rfl⟩
  have hK := fun w1 (g : Gr w w1) g' c' hM hc' hcm => kept_yes w1 g' c' S a c hM hc' hcm (hB.gr g) hl
  rw [hn] at hN hA hA2 hR hR2 hK ⊢
  replace hN := Lib.hid hN
  replace hA := Lib.hid hA
  replace hA2 := Lib.hid hA2
  replace hR := Lib.hid hR
  replace hR2 := Lib.hid hR2
  replace hK := Lib.hid hK
  replace hn := Lib.hid hn
  replace hl := Lib.hid hl
  replace hf := Lib.hid hf
  replace hSe := Lib.hid hSe
  go_enter Tryd.func6, Tryd.ntmps6
  go_wp2_with fail
  refine (alive20_any _ hE i0).mono ?_
  rintro e wa ⟨rfl, ga⟩
  obtain ⟨ca, fa, sa⟩ := ga.cells
  try simp only [size_drewN] at ca fa sa
  try simp only [World.size_alloc] at ca fa sa
  try simp only [World.size_drew] at ca fa sa
  try simp only [World.size_setCell] at ca fa sa
  go_wp2_with fail
  refine (hN.out wa ga).mono ?_
  rintro x w2 ⟨g, c2, rfl, ho2, hc2⟩
  have g2 := ho2.2.2.2.2
  have gw2 := ga.trans g2
  have hM2 := ho2.2.1
  have hcm2 := ho2.x.cmax
  have hS2 : BytesAt w2 (some ⟨g, 0, none⟩) S := by
    have := hM2.take S.length
    rwa [List.take_left] at this
  have hnc : n ≤ c2 := by omega
  replace ho2 := Lib.hid ho2
  replace hM2 := Lib.hid hM2
  replace hS2 := Lib.hid hS2
  go_wp2_with fail
  refine (hA.out w2 g c2 gw2 hS2.out hnc).mono ?_
  rintro x w3 ⟨a3, c3, rfl, ok3, g3⟩
  have gw3 := gw2.trans g3
  obtain ⟨w4, hw4⟩ : ∃ w4, w4 = w3.alloc (.cells #[.int .i64 k, .int .i64 e.cl, .int .i64 e.nu, .int .i64 e.kd, .int .i64 e.id, .int .i64 e.srv.k, .int .i64 e.srv.q, .int .i64 e.srv.t, .int .i64 e.po, .slice a3 e.tasks.length c3, .int .i64 e.at_] 31) := ⟨_, rfl⟩
  have g4 : Gr w3 w4 := by rw [hw4]; exact (Gr.refl w3).alloc _
  have gw4 := gw3.trans g4
  have hb1 : Blk w4 w3.heap.size #[.int .i64 k, .int .i64 e.cl, .int .i64 e.nu, .int .i64 e.kd, .int .i64 e.id, .int .i64 e.srv.k, .int .i64 e.srv.q, .int .i64 e.srv.t, .int .i64 e.po, .slice a3 e.tasks.length c3, .int .i64 e.at_] 31 := by rw [hw4]; exact Blk.new w3 _ _
  replace hw4 := Lib.hid hw4
  replace hb1 := Lib.hid hb1
  replace ok3 := Lib.hid ok3
  go_upto_region 5 with fail
  rw [← hw4.out]
  go_wp2_with fail
  refine (hA2.out w4 gw4).mono ?_
  rintro x w5 ⟨a5, c5, rfl, ok5, g5⟩
  have gw5 := gw4.trans g5
  obtain ⟨w6, hw6⟩ : ∃ w6, w6 = w5.alloc (.cells #[.int .i64 k, .int .i64 e.cl, .int .i64 e.nu, .int .i64 e.kd, .int .i64 e.id, .int .i64 e.srv.k, .int .i64 e.srv.q, .int .i64 e.srv.t, .int .i64 e.po, .slice a5 e.tasks.length c5, .int .i64 e.at_] 31) := ⟨_, rfl⟩
  have g6 : Gr w5 w6 := by rw [hw6]; exact (Gr.refl w5).alloc _
  have gw6 := gw5.trans g6
  have hb2 : Blk w6 w5.heap.size #[.int .i64 k, .int .i64 e.cl, .int .i64 e.nu, .int .i64 e.kd, .int .i64 e.id, .int .i64 e.srv.k, .int .i64 e.srv.q, .int .i64 e.srv.t, .int .i64 e.po, .slice a5 e.tasks.length c5, .int .i64 e.at_] 31 := by rw [hw6]; exact Blk.new w5 _ _
  replace hw6 := Lib.hid hw6
  replace hb2 := Lib.hid hb2
  replace ok5 := Lib.hid ok5
  go_upto_region 6 with fail
  rw [← hw6.out]
  go_wp2_with fail
  refine (hR.out w6 g c2 gw6 (hS2.out.gr ((((g3.trans g4).trans g5).trans g6))) hnc).mono ?_
  rintro x w7 ⟨rfl, g7⟩
  have gw7 := gw6.trans g7
  obtain ⟨w8, hw8⟩ : ∃ w8, w8 = w7.alloc (.cells #[.int .i64 0, .int .i64 0, .int .i64 0, .int .i64 0, .slice none 0 0] 24) := ⟨_, rfl⟩
  have g8 : Gr w7 w8 := by rw [hw8]; exact (Gr.refl w7).alloc _
  have gw8 := gw7.trans g8
  have hb3 : Blk w8 w7.heap.size #[.int .i64 0, .int .i64 0, .int .i64 0, .int .i64 0, .slice none 0 0] 24 := by rw [hw8]; exact Blk.new w7 _ _
  replace hw8 := Lib.hid hw8
  replace hb3 := Lib.hid hb3
  go_upto_region 7 with fail
  rw [← hw8.out]
  go_wp2_with fail
  refine (hR2.out w8 gw8).mono ?_
  rintro x w9 ⟨rfl, g9⟩
  have gw9 := gw8.trans g9
  obtain ⟨w10, hw10⟩ : ∃ w10, w10 = w9.alloc (.cells #[.int .i64 0, .int .i64 0, .int .i64 0, .int .i64 0, .slice none 0 0] 24) := ⟨_, rfl⟩
  have g10 : Gr w9 w10 := by rw [hw10]; exact (Gr.refl w9).alloc _
  have gw10 := gw9.trans g10
  have hb4 : Blk w10 w9.heap.size #[.int .i64 0, .int .i64 0, .int .i64 0, .int .i64 0, .slice none 0 0] 24 := by rw [hw10]; exact Blk.new w9 _ _
  replace hw10 := Lib.hid hw10
  replace hb4 := Lib.hid hb4
  go_upto_region 8 with fail
  rw [← hw10.out]
  have g38 := ((((g3.trans g4).trans g5).trans g6).trans g7).trans g8
  have g410 := (((g5.trans g6).trans g7).trans g8).trans (g9.trans g10)
  have gb1 := hb1.out.gr g410
  have gb2 := hb2.out.gr ((g7.trans g8).trans (g9.trans g10))
  have gb3 := hb3.out.gr (g9.trans g10)
  have gb4 := hb4.out
  have p0 := gb1.cell (i := 0) (v := .int .i64 k) rfl
  have p1 := gb1.cell (i := 1) (v := .int .i64 e.cl) rfl
  have p2 := gb1.cell (i := 2) (v := .int .i64 e.nu) rfl
  have p3 := gb1.cell (i := 3) (v := .int .i64 e.kd) rfl
  have p4 := gb1.cell (i := 4) (v := .int .i64 e.id) rfl
  have p5 := gb1.cell (i := 5) (v := .int .i64 e.srv.k) rfl
  have p6 := gb1.cell (i := 6) (v := .int .i64 e.srv.q) rfl
  have p7 := gb1.cell (i := 7) (v := .int .i64 e.srv.t) rfl
  have p8 := gb1.cell (i := 8) (v := .int .i64 e.po) rfl
  have p9 := gb1.cell (i := 9) (v := .slice a3 e.tasks.length c3) rfl
  have p10 := gb1.cell (i := 10) (v := .int .i64 e.at_) rfl
  have q0 := gb2.cell (i := 0) (v := .int .i64 k) rfl
  have q1 := gb2.cell (i := 1) (v := .int .i64 e.cl) rfl
  have q2 := gb2.cell (i := 2) (v := .int .i64 e.nu) rfl
  have q3 := gb2.cell (i := 3) (v := .int .i64 e.kd) rfl
  have q4 := gb2.cell (i := 4) (v := .int .i64 e.id) rfl
  have q5 := gb2.cell (i := 5) (v := .int .i64 e.srv.k) rfl
  have q6 := gb2.cell (i := 6) (v := .int .i64 e.srv.q) rfl
  have q7 := gb2.cell (i := 7) (v := .int .i64 e.srv.t) rfl
  have q8 := gb2.cell (i := 8) (v := .int .i64 e.po) rfl
  have q9 := gb2.cell (i := 9) (v := .slice a5 e.tasks.length c5) rfl
  have q10 := gb2.cell (i := 10) (v := .int .i64 e.at_) rfl
  replace gb1 := Lib.hid gb1
  replace gb2 := Lib.hid gb2
  replace gb3 := Lib.hid gb3
  replace gb4 := Lib.hid gb4
  have hsa := rSameAsk_eq k e a3 c3 a5 c5 w10 (ok3.out.gr (g4.trans g410)) (ok5.out.gr (((g6.trans g7).trans g8).trans (g9.trans g10)))
  replace hsa := Lib.hid hsa
  go_wp2_with fail
  refine hsa.out.mono ?_
  rintro x w11 ⟨rfl, g11⟩
  have gw11 := gw10.trans g11
  have gc3 := gb3.out.gr g11
  have gc4 := gb4.out.gr g11
  have r0 := gc3.cell (i := 0) (v := .int .i64 0) rfl
  have r1 := gc3.cell (i := 1) (v := .int .i64 0) rfl
  have r2 := gc3.cell (i := 2) (v := .int .i64 0) rfl
  have r3 := gc3.cell (i := 3) (v := .int .i64 0) rfl
  have r4 := gc3.cell (i := 4) (v := .slice none 0 0) rfl
  have s0 := gc4.cell (i := 0) (v := .int .i64 0) rfl
  have s1 := gc4.cell (i := 1) (v := .int .i64 0) rfl
  have s2 := gc4.cell (i := 2) (v := .int .i64 0) rfl
  have s3 := gc4.cell (i := 3) (v := .int .i64 0) rfl
  have s4 := gc4.cell (i := 4) (v := .slice none 0 0) rfl
  replace gc3 := Lib.hid gc3
  replace gc4 := Lib.hid gc4
  have hsr : Calls Tryd.prog 11 #[repZ, repZ] w11 fun x w' => x = .returned (.bool true) ∧ Gr w11 w' := rSameReply_yes w11 ⟨0, 0, 0, 0, []⟩ none none 0 0 (fun i s h => by simp at h) (fun i s h => by simp at h)
  replace hsr := Lib.hid hsr
  go_wp2_with fail
  refine hsr.out.mono ?_
  rintro x w12 ⟨rfl, g12⟩
  have gw12 := gw11.trans g12
  have hkp := hK.out w12 gw12 g c2 (hM2.out.gr (g38.trans ((g9.trans g10).trans (g11.trans g12)))) (by have := hn.out; omega) hcm2
  replace hkp := Lib.hid hkp
  go_wp2_with fail
  refine hkp.out.mono ?_
  rintro x w13 ⟨rfl, g13⟩
  have gw13 := gw12.trans g13
  have g1013 := (g11.trans g12).trans g13
  have he := (hE.gr gw13).c0 i1
  have gd1 := gb1.out.gr g1013
  have t0 := gd1.cell (i := 0) (v := .int .i64 k) rfl
  have t1 := gd1.cell (i := 1) (v := .int .i64 e.cl) rfl
  have t2 := gd1.cell (i := 2) (v := .int .i64 e.nu) rfl
  have t3 := gd1.cell (i := 3) (v := .int .i64 e.kd) rfl
  have t4 := gd1.cell (i := 4) (v := .int .i64 e.id) rfl
  have t5 := gd1.cell (i := 5) (v := .int .i64 e.srv.k) rfl
  have t6 := gd1.cell (i := 6) (v := .int .i64 e.srv.q) rfl
  have t7 := gd1.cell (i := 7) (v := .int .i64 e.srv.t) rfl
  have t8 := gd1.cell (i := 8) (v := .int .i64 e.po) rfl
  have t9 := gd1.cell (i := 9) (v := .slice a3 e.tasks.length c3) rfl
  have t10 := gd1.cell (i := 10) (v := .int .i64 e.at_) rfl
  replace gd1 := Lib.hid gd1
  have hpa := putAsk_yes k e a3 c3 w13 (ok3.out.gr ((g4.trans g410).trans g1013)) (hE.gr gw13) i0 hf.out
  rw [← hSe.out, hn.out] at hpa
  replace hpa := Lib.hid hpa
  go_wp2_with fail
  refine hpa.out.mono ?_
  rintro x w14 ⟨a14, c14, rfl, ho14⟩
  have g14 := ho14.2.2.2.2
  have gw14 := gw13.trans g14
  have q1 := conv_any c14 ho14.2.1
  have q2 := conv_any c (hB.gr gw14)
  rw [hn.out] at q1 q2
  replace ho14 := Lib.hid ho14
  go_wp2_with fail
  go_ret
  exact ⟨rfl, gw14⟩
set_option maxRecDepth 100000 in
set_option maxHeartbeats 6400000 in
theorem gets_yy {G : List Nat} {E : Nat → Addr} (w : World) (hE : EAt G E w) (i0 : 0 ∈ G) (a : Option Addr) (c : Nat) (S : List UInt8) (hB : BytesAt w a S) (hcn : a = none → c = 0) (hl : S.length ≤ 140737488351232) (k : Int) (e : Ent) (hf : askF k e = true) (hSe : S = frameB (askB k e))
    (hA : ∀ (w1 : World) (g c1 : Nat), Gr w w1 → BytesAt w1 (some ⟨g, 0, none⟩) S → S.length ≤ c1 → Calls Tryd.prog 20 #[.slice (some ⟨g, 0, none⟩) S.length c1] w1 fun r w' => ∃ a' c', r = .returned (.tuple #[askV k e a' c', .nilIface]) ∧ (⟨e, a', c'⟩ : EntM).ok Any w' ∧ Gr w1 w')
    (hA2 : ∀ w1, Gr w w1 → Calls Tryd.prog 22 #[.slice a S.length c] w1 fun r w' => ∃ a' c', r = .returned (.tuple #[askV k e a' c', .bool true]) ∧ (⟨e, a', c'⟩ : EntM).ok Any w' ∧ Gr w1 w')
    (r : Rep) (hg : repF r = true) (hSr : S = frameB (repB r))
    (hR : ∀ (w1 : World) (g c1 : Nat), Gr w w1 → BytesAt w1 (some ⟨g, 0, none⟩) S → S.length ≤ c1 → Calls Tryd.prog 14 #[.slice (some ⟨g, 0, none⟩) S.length c1] w1 fun x w' => ∃ a' c', x = .returned (.tuple #[.agg #[.int .i64 r.cl, .int .i64 r.nu, .int .i64 r.co, .int .i64 r.id, .slice a' r.tree.length c'], .nilIface]) ∧ Own w1 w' a' c' r.tree)
    (hR2 : ∀ w1, Gr w w1 → Calls Tryd.prog 23 #[.slice a S.length c] w1 fun x w' => ∃ a' c', x = .returned (.tuple #[.agg #[.int .i64 r.cl, .int .i64 r.nu, .int .i64 r.co, .int .i64 r.id, .slice a' r.tree.length c'], .bool true]) ∧ Own w1 w' a' c' r.tree) :
    Calls Tryd.prog 6 #[.slice a S.length c] w fun r w' => r = .returned (.bool true) ∧ Gr w w' := by
  have hN := fun w1 (g : Gr w w1) => nBytes_any w1 a c S (hB.gr g) hcn hl
  obtain ⟨n, hn⟩ : ∃ n, S.length = n := ⟨_, rfl⟩
  have hK := fun w1 (g : Gr w w1) g' c' hM hc' hcm => kept_yes w1 g' c' S a c hM hc' hcm (hB.gr g) hl
  rw [hn] at hN hA hA2 hR hR2 hK ⊢
  replace hN := Lib.hid hN
  replace hA := Lib.hid hA
  replace hA2 := Lib.hid hA2
  replace hR := Lib.hid hR
  replace hR2 := Lib.hid hR2
  replace hK := Lib.hid hK
  replace hn := Lib.hid hn
  replace hl := Lib.hid hl
  replace hf := Lib.hid hf
  replace hSe := Lib.hid hSe
  replace hg := Lib.hid hg
  replace hSr := Lib.hid hSr
  go_enter Tryd.func6, Tryd.ntmps6
  go_wp2_with fail
  refine (alive20_any _ hE i0).mono ?_
  rintro e wa ⟨rfl, ga⟩
  obtain ⟨ca, fa, sa⟩ := ga.cells
  try simp only [size_drewN] at ca fa sa
  try simp only [World.size_alloc] at ca fa sa
  try simp only [World.size_drew] at ca fa sa
  try simp only [World.size_setCell] at ca fa sa
  go_wp2_with fail
  refine (hN.out wa ga).mono ?_
  rintro x w2 ⟨g, c2, rfl, ho2, hc2⟩
  have g2 := ho2.2.2.2.2
  have gw2 := ga.trans g2
  have hM2 := ho2.2.1
  have hcm2 := ho2.x.cmax
  have hS2 : BytesAt w2 (some ⟨g, 0, none⟩) S := by
    have := hM2.take S.length
    rwa [List.take_left] at this
  have hnc : n ≤ c2 := by omega
  replace ho2 := Lib.hid ho2
  replace hM2 := Lib.hid hM2
  replace hS2 := Lib.hid hS2
  go_wp2_with fail
  refine (hA.out w2 g c2 gw2 hS2.out hnc).mono ?_
  rintro x w3 ⟨a3, c3, rfl, ok3, g3⟩
  have gw3 := gw2.trans g3
  obtain ⟨w4, hw4⟩ : ∃ w4, w4 = w3.alloc (.cells #[.int .i64 k, .int .i64 e.cl, .int .i64 e.nu, .int .i64 e.kd, .int .i64 e.id, .int .i64 e.srv.k, .int .i64 e.srv.q, .int .i64 e.srv.t, .int .i64 e.po, .slice a3 e.tasks.length c3, .int .i64 e.at_] 31) := ⟨_, rfl⟩
  have g4 : Gr w3 w4 := by rw [hw4]; exact (Gr.refl w3).alloc _
  have gw4 := gw3.trans g4
  have hb1 : Blk w4 w3.heap.size #[.int .i64 k, .int .i64 e.cl, .int .i64 e.nu, .int .i64 e.kd, .int .i64 e.id, .int .i64 e.srv.k, .int .i64 e.srv.q, .int .i64 e.srv.t, .int .i64 e.po, .slice a3 e.tasks.length c3, .int .i64 e.at_] 31 := by rw [hw4]; exact Blk.new w3 _ _
  replace hw4 := Lib.hid hw4
  replace hb1 := Lib.hid hb1
  replace ok3 := Lib.hid ok3
  go_upto_region 5 with fail
  rw [← hw4.out]
  go_wp2_with fail
  refine (hA2.out w4 gw4).mono ?_
  rintro x w5 ⟨a5, c5, rfl, ok5, g5⟩
  have gw5 := gw4.trans g5
  obtain ⟨w6, hw6⟩ : ∃ w6, w6 = w5.alloc (.cells #[.int .i64 k, .int .i64 e.cl, .int .i64 e.nu, .int .i64 e.kd, .int .i64 e.id, .int .i64 e.srv.k, .int .i64 e.srv.q, .int .i64 e.srv.t, .int .i64 e.po, .slice a5 e.tasks.length c5, .int .i64 e.at_] 31) := ⟨_, rfl⟩
  have g6 : Gr w5 w6 := by rw [hw6]; exact (Gr.refl w5).alloc _
  have gw6 := gw5.trans g6
  have hb2 : Blk w6 w5.heap.size #[.int .i64 k, .int .i64 e.cl, .int .i64 e.nu, .int .i64 e.kd, .int .i64 e.id, .int .i64 e.srv.k, .int .i64 e.srv.q, .int .i64 e.srv.t, .int .i64 e.po, .slice a5 e.tasks.length c5, .int .i64 e.at_] 31 := by rw [hw6]; exact Blk.new w5 _ _
  replace hw6 := Lib.hid hw6
  replace hb2 := Lib.hid hb2
  replace ok5 := Lib.hid ok5
  go_upto_region 6 with fail
  rw [← hw6.out]
  go_wp2_with fail
  refine (hR.out w6 g c2 gw6 (hS2.out.gr ((((g3.trans g4).trans g5).trans g6))) hnc).mono ?_
  rintro x w7 ⟨a7, c7, rfl, ho7⟩
  have g7 := ho7.2.2.2.2
  have gw7 := gw6.trans g7
  obtain ⟨w8, hw8⟩ : ∃ w8, w8 = w7.alloc (.cells #[.int .i64 r.cl, .int .i64 r.nu, .int .i64 r.co, .int .i64 r.id, .slice a7 r.tree.length c7] 24) := ⟨_, rfl⟩
  have g8 : Gr w7 w8 := by rw [hw8]; exact (Gr.refl w7).alloc _
  have gw8 := gw7.trans g8
  have hb3 : Blk w8 w7.heap.size #[.int .i64 r.cl, .int .i64 r.nu, .int .i64 r.co, .int .i64 r.id, .slice a7 r.tree.length c7] 24 := by rw [hw8]; exact Blk.new w7 _ _
  replace hw8 := Lib.hid hw8
  replace hb3 := Lib.hid hb3
  replace ho7 := Lib.hid ho7
  go_upto_region 7 with fail
  rw [← hw8.out]
  go_wp2_with fail
  refine (hR2.out w8 gw8).mono ?_
  rintro x w9 ⟨a9, c9, rfl, ho9⟩
  have g9 := ho9.2.2.2.2
  have gw9 := gw8.trans g9
  obtain ⟨w10, hw10⟩ : ∃ w10, w10 = w9.alloc (.cells #[.int .i64 r.cl, .int .i64 r.nu, .int .i64 r.co, .int .i64 r.id, .slice a9 r.tree.length c9] 24) := ⟨_, rfl⟩
  have g10 : Gr w9 w10 := by rw [hw10]; exact (Gr.refl w9).alloc _
  have gw10 := gw9.trans g10
  have hb4 : Blk w10 w9.heap.size #[.int .i64 r.cl, .int .i64 r.nu, .int .i64 r.co, .int .i64 r.id, .slice a9 r.tree.length c9] 24 := by rw [hw10]; exact Blk.new w9 _ _
  replace hw10 := Lib.hid hw10
  replace hb4 := Lib.hid hb4
  replace ho9 := Lib.hid ho9
  go_upto_region 8 with fail
  rw [← hw10.out]
  have g38 := ((((g3.trans g4).trans g5).trans g6).trans g7).trans g8
  have g410 := (((g5.trans g6).trans g7).trans g8).trans (g9.trans g10)
  have gb1 := hb1.out.gr g410
  have gb2 := hb2.out.gr ((g7.trans g8).trans (g9.trans g10))
  have gb3 := hb3.out.gr (g9.trans g10)
  have gb4 := hb4.out
  have p0 := gb1.cell (i := 0) (v := .int .i64 k) rfl
  have p1 := gb1.cell (i := 1) (v := .int .i64 e.cl) rfl
  have p2 := gb1.cell (i := 2) (v := .int .i64 e.nu) rfl
  have p3 := gb1.cell (i := 3) (v := .int .i64 e.kd) rfl
  have p4 := gb1.cell (i := 4) (v := .int .i64 e.id) rfl
  have p5 := gb1.cell (i := 5) (v := .int .i64 e.srv.k) rfl
  have p6 := gb1.cell (i := 6) (v := .int .i64 e.srv.q) rfl
  have p7 := gb1.cell (i := 7) (v := .int .i64 e.srv.t) rfl
  have p8 := gb1.cell (i := 8) (v := .int .i64 e.po) rfl
  have p9 := gb1.cell (i := 9) (v := .slice a3 e.tasks.length c3) rfl
  have p10 := gb1.cell (i := 10) (v := .int .i64 e.at_) rfl
  have q0 := gb2.cell (i := 0) (v := .int .i64 k) rfl
  have q1 := gb2.cell (i := 1) (v := .int .i64 e.cl) rfl
  have q2 := gb2.cell (i := 2) (v := .int .i64 e.nu) rfl
  have q3 := gb2.cell (i := 3) (v := .int .i64 e.kd) rfl
  have q4 := gb2.cell (i := 4) (v := .int .i64 e.id) rfl
  have q5 := gb2.cell (i := 5) (v := .int .i64 e.srv.k) rfl
  have q6 := gb2.cell (i := 6) (v := .int .i64 e.srv.q) rfl
  have q7 := gb2.cell (i := 7) (v := .int .i64 e.srv.t) rfl
  have q8 := gb2.cell (i := 8) (v := .int .i64 e.po) rfl
  have q9 := gb2.cell (i := 9) (v := .slice a5 e.tasks.length c5) rfl
  have q10 := gb2.cell (i := 10) (v := .int .i64 e.at_) rfl
  replace gb1 := Lib.hid gb1
  replace gb2 := Lib.hid gb2
  replace gb3 := Lib.hid gb3
  replace gb4 := Lib.hid gb4
  have hsa := rSameAsk_eq k e a3 c3 a5 c5 w10 (ok3.out.gr (g4.trans g410)) (ok5.out.gr (((g6.trans g7).trans g8).trans (g9.trans g10)))
  replace hsa := Lib.hid hsa
  go_wp2_with fail
  refine hsa.out.mono ?_
  rintro x w11 ⟨rfl, g11⟩
  have gw11 := gw10.trans g11
  have gc3 := gb3.out.gr g11
  have gc4 := gb4.out.gr g11
  have r0 := gc3.cell (i := 0) (v := .int .i64 r.cl) rfl
  have r1 := gc3.cell (i := 1) (v := .int .i64 r.nu) rfl
  have r2 := gc3.cell (i := 2) (v := .int .i64 r.co) rfl
  have r3 := gc3.cell (i := 3) (v := .int .i64 r.id) rfl
  have r4 := gc3.cell (i := 4) (v := .slice a7 r.tree.length c7) rfl
  have s0 := gc4.cell (i := 0) (v := .int .i64 r.cl) rfl
  have s1 := gc4.cell (i := 1) (v := .int .i64 r.nu) rfl
  have s2 := gc4.cell (i := 2) (v := .int .i64 r.co) rfl
  have s3 := gc4.cell (i := 3) (v := .int .i64 r.id) rfl
  have s4 := gc4.cell (i := 4) (v := .slice a9 r.tree.length c9) rfl
  replace gc3 := Lib.hid gc3
  replace gc4 := Lib.hid gc4
  have hsr := rSameReply_yes w11 r a7 a9 c7 c9 (ho7.out.2.1.gr ((g8.trans (g9.trans g10)).trans g11)) (ho9.out.2.1.gr (g10.trans g11))
  replace hsr := Lib.hid hsr
  go_wp2_with fail
  refine hsr.out.mono ?_
  rintro x w12 ⟨rfl, g12⟩
  have gw12 := gw11.trans g12
  have hkp := hK.out w12 gw12 g c2 (hM2.out.gr (g38.trans ((g9.trans g10).trans (g11.trans g12)))) (by have := hn.out; omega) hcm2
  replace hkp := Lib.hid hkp
  go_wp2_with fail
  refine hkp.out.mono ?_
  rintro x w13 ⟨rfl, g13⟩
  have gw13 := gw12.trans g13
  have g1013 := (g11.trans g12).trans g13
  have gd1 := gb1.out.gr g1013
  have t0 := gd1.cell (i := 0) (v := .int .i64 k) rfl
  have t1 := gd1.cell (i := 1) (v := .int .i64 e.cl) rfl
  have t2 := gd1.cell (i := 2) (v := .int .i64 e.nu) rfl
  have t3 := gd1.cell (i := 3) (v := .int .i64 e.kd) rfl
  have t4 := gd1.cell (i := 4) (v := .int .i64 e.id) rfl
  have t5 := gd1.cell (i := 5) (v := .int .i64 e.srv.k) rfl
  have t6 := gd1.cell (i := 6) (v := .int .i64 e.srv.q) rfl
  have t7 := gd1.cell (i := 7) (v := .int .i64 e.srv.t) rfl
  have t8 := gd1.cell (i := 8) (v := .int .i64 e.po) rfl
  have t9 := gd1.cell (i := 9) (v := .slice a3 e.tasks.length c3) rfl
  have t10 := gd1.cell (i := 10) (v := .int .i64 e.at_) rfl
  replace gd1 := Lib.hid gd1
  have hpa := putAsk_yes k e a3 c3 w13 (ok3.out.gr ((g4.trans g410).trans g1013)) (hE.gr gw13) i0 hf.out
  rw [← hSe.out, hn.out] at hpa
  replace hpa := Lib.hid hpa
  go_wp2_with fail
  refine hpa.out.mono ?_
  rintro x w14 ⟨a14, c14, rfl, ho14⟩
  have g14 := ho14.2.2.2.2
  have gw14 := gw13.trans g14
  have q1 := conv_any c14 ho14.2.1
  have q2 := conv_any c (hB.gr gw14)
  rw [hn.out] at q1 q2
  replace ho14 := Lib.hid ho14
  have ge3 := gb3.out.gr (g1013.trans g14)
  have u0 := ge3.cell (i := 0) (v := .int .i64 r.cl) rfl
  have u1 := ge3.cell (i := 1) (v := .int .i64 r.nu) rfl
  have u2 := ge3.cell (i := 2) (v := .int .i64 r.co) rfl
  have u3 := ge3.cell (i := 3) (v := .int .i64 r.id) rfl
  have u4 := ge3.cell (i := 4) (v := .slice a7 r.tree.length c7) rfl
  replace ge3 := Lib.hid ge3
  have hpr := putReply_yes w14 (hE.gr gw14) i0 r a7 c7 hg.out (ho7.out.2.1.gr ((g8.trans (g9.trans g10)).trans (g1013.trans g14))) ho7.out.2.2.1 (fun x hx => by have h1 := ho7.out.lt hx; have h2 := ((g8.trans (g9.trans g10)).trans (g1013.trans g14)).size; omega)
  rw [← hSr.out, hn.out] at hpr
  replace hpr := Lib.hid hpr
  go_wp2_with fail
  refine hpr.out.mono ?_
  rintro x w15 ⟨a15, c15, rfl, ho15⟩
  have gw15 := gw14.trans ho15.2.2.2.2
  have q3 := conv_any c15 ho15.2.1
  have q4 := conv_any c (hB.gr gw15)
  rw [hn.out] at q3 q4
  replace ho15 := Lib.hid ho15
  go_wp2_with fail
  go_ret
  exact ⟨rfl, gw15⟩


theorem ask_shut {G : List Nat} {E : Nat → Addr} (S : List UInt8) (hf : ¬ isFr S) (hm : S.length ≤ maxLen) (i1 : 1 ∈ G) (i2 : 4 ∈ G) (i3 : 3 ∈ G) (w : World) (hE : EAt G E w) (g c : Nat) (hS : BytesAt w (some ⟨g, 0, none⟩) S) (hc : S.length ≤ c) :
    Calls Tryd.prog 20 #[.slice (some ⟨g, 0, none⟩) S.length c] w fun e w' => e = .returned (.tuple #[askZ, (Value.iface 137 (.pointer (some (E 1))))]) ∧ Gr w w' :=
  getAsk_shut w _ (fun w1 g1 => opened_no w1 (hE.gr g1) i1 i2 i3 g 0 c S (hS.gr g1) hc hm hf)
theorem reply_shut {G : List Nat} {E : Nat → Addr} (S : List UInt8) (hf : ¬ isFr S) (hm : S.length ≤ maxLen) (i1 : 1 ∈ G) (i2 : 4 ∈ G) (i3 : 3 ∈ G) (w : World) (hE : EAt G E w) (g c : Nat) (hS : BytesAt w (some ⟨g, 0, none⟩) S) (hc : S.length ≤ c) :
    Calls Tryd.prog 14 #[.slice (some ⟨g, 0, none⟩) S.length c] w fun e w' => e = .returned (.tuple #[repZ, (Value.iface 137 (.pointer (some (E 1))))]) ∧ Gr w w' :=
  getReply_shut w _ (fun w1 g1 => opened_no w1 (hE.gr g1) i1 i2 i3 g 0 c S (hS.gr g1) hc hm hf)
theorem gets_any {G : List Nat} {E : Nat → Addr} (w : World) (hE : EAt G E w) (i0 : 0 ∈ G) (i1 : 1 ∈ G) (i2 : 4 ∈ G) (i3 : 3 ∈ G) (a : Option Addr) (c : Nat) (S : List UInt8) (hB : BytesAt w a S) (hcn : a = none → c = 0) (hc : S.length ≤ c) (hl : S.length ≤ 140737488351232) :
    Calls Tryd.prog 6 #[.slice a S.length c] w fun r w' => r = .returned (.bool true) ∧ Gr w w' := by
  have hm : S.length ≤ maxLen := by unfold maxLen; omega
  by_cases hf : isFr S
  · obtain ⟨L, hSL, hL⟩ := hf
    have hfl := frameB_len L
    obtain ⟨y, t, hyt⟩ := List.exists_cons_of_ne_nil (show S ≠ [] by intro e; rw [e] at hSL; rw [← hSL] at hfl; simp at hfl)
    obtain ⟨b, off, rfl, -⟩ := hB.get (i := 0) (d := y) (by rw [hyt]; rfl)
    by_cases ha : askNo L
    · by_cases hr : repNo L
      · refine gets_nn w hE i0 i1 _ c S hB hcn hl ?_ ?_ ?_ ?_
        · intro w1 g c1 g1 hS hc1
          subst hSL
          exact getAsk_no w1 (hE.gr g1) i0 i1 g 0 c1 L hS hL hc1 ha
        · intro w1 g1
          subst hSL
          exact rGetAsk_no w1 b off c L (hB.gr g1) hL hc ha
        · intro w1 g c1 g1 hS hc1
          subst hSL
          exact getReply_no w1 (hE.gr g1) i1 g 0 c1 L hS hL hc1 hr
        · intro w1 g1
          subst hSL
          exact rGetReply_no w1 b off c L (hB.gr g1) hL hc hr
      · obtain ⟨r, hg, hLr, hR, hR2⟩ := rep_taken (G := G) (E := E) L hL hr
        refine gets_ny w hE i0 i1 _ c S hB hcn hl ?_ ?_ r hg (by rw [hSL, ← hLr]) ?_ ?_
        · intro w1 g c1 g1 hS hc1
          subst hSL
          exact getAsk_no w1 (hE.gr g1) i0 i1 g 0 c1 L hS hL hc1 ha
        · intro w1 g1
          subst hSL
          exact rGetAsk_no w1 b off c L (hB.gr g1) hL hc ha
        · intro w1 g c1 g1 hS hc1
          subst hSL
          exact hR w1 g c1 (hE.gr g1) i1 hS hc1
        · intro w1 g1
          subst hSL
          exact hR2 w1 b off c (hB.gr g1) hc
    · obtain ⟨k, e, hf, hLa, hA, hA2⟩ := ask_taken (G := G) (E := E) L hL ha
      by_cases hr : repNo L
      · refine gets_yn w hE i0 i1 _ c S hB hcn hl k e hf (by rw [hSL, ← hLa]) ?_ ?_ ?_ ?_
        · intro w1 g c1 g1 hS hc1
          subst hSL
          exact hA w1 g c1 (hE.gr g1) i0 i1 hS hc1
        · intro w1 g1
          subst hSL
          exact hA2 w1 b off c (hB.gr g1) hc
        · intro w1 g c1 g1 hS hc1
          subst hSL
          exact getReply_no w1 (hE.gr g1) i1 g 0 c1 L hS hL hc1 hr
        · intro w1 g1
          subst hSL
          exact rGetReply_no w1 b off c L (hB.gr g1) hL hc hr
      · obtain ⟨r, hg, hLr, hR, hR2⟩ := rep_taken (G := G) (E := E) L hL hr
        refine gets_yy w hE i0 _ c S hB hcn hl k e hf (by rw [hSL, ← hLa]) ?_ ?_ r hg (by rw [hSL, ← hLr]) ?_ ?_
        · intro w1 g c1 g1 hS hc1
          subst hSL
          exact hA w1 g c1 (hE.gr g1) i0 i1 hS hc1
        · intro w1 g1
          subst hSL
          exact hA2 w1 b off c (hB.gr g1) hc
        · intro w1 g c1 g1 hS hc1
          subst hSL
          exact hR w1 g c1 (hE.gr g1) i1 hS hc1
        · intro w1 g1
          subst hSL
          exact hR2 w1 b off c (hB.gr g1) hc
  · exact gets_nn w hE i0 i1 a c S hB hcn hl
      (fun w1 g c1 g1 hS hc1 => ask_shut S hf hm i1 i2 i3 w1 (hE.gr g1) g c1 hS hc1)
      (fun w1 g1 => rGetAsk_shut w1 _ (fun w2 g2 => rnumbers_no w2 a c 3 S (hB.gr (g1.trans g2)) hc hm hf))
      (fun w1 g c1 g1 hS hc1 => reply_shut S hf hm i1 i2 i3 w1 (hE.gr g1) g c1 hS hc1)
      (fun w1 g1 => rGetReply_shut w1 _ (fun w2 g2 => rnumbers_no w2 a c 4 S (hB.gr (g1.trans g2)) hc hm hf))
end Go.Proofs.YtlgbnjaoadlolaaDoor
