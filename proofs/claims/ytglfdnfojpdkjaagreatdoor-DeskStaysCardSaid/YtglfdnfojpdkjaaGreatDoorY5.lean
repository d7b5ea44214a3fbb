/- desk.fold, desk.Results. Printed by gen_y5.py. -/
import Derived.Test.YtglfdnfojpdkjaaGreatDoorJ35
import Derived.Test.YtglfdnfojpdkjaaGreatDoorY4
import Derived.Test.YtglfdnfojpdkjaaGreatDoorJ21
import Derived.StillTailTactics
namespace Go.Proofs.YtglfdnfojpdkjaaGreatDoor
open Go.RowKit

/-- The cells of an answer. -/
abbrev resC (r : Int × Int) : List Value := [.int .i64 r.1, .int .i64 r.2]
theorem resC_len (r : Int × Int) : (resC r).length = 2 := rfl
theorem resC_one (r : Int × Int) : ∀ u ∈ resC r, u.oneCell' = true := by
  intro u hu
  simp at hu
  rcases hu with rfl | rfl <;> rfl
theorem Tryz.infoRes : (Tryz.prog.info? 43).map (fun i => (i.zero, i.size, i.bytes)) = some (some (.agg #[.int .i64 0, .int .i64 0]), 2, 16) := by kernel_rfl
/-- A tree, written into its variable. -/
theorem tree_set {w w1 wf : World} {tb B : Nat} {cs : Array Value} {T : TM} (hB : tb < B) (hb : Blk w tb cs 35) (hc : cs.size = 4) (hT : TreeAt (fun k => B ≤ k) w T) (hw : wf = (((w.setCell ⟨tb, 0, none⟩ (.slice T.an T.N.length T.cn)).setCell ⟨tb, 1, none⟩ (.slice T.ag T.G.length T.cg)).setCell ⟨tb, 2, none⟩ (.int .i64 T.last)).setCell ⟨tb, 3, none⟩ (.int .i64 T.now)) (g : Gr w1 w) (h1 : w1.heap.size ≤ tb) : Blk wf tb T.row 35 ∧ TreeAt (fun k => B ≤ k) wf T ∧ GrX [tb] w wf ∧ Gr w1 wf := by
  have gx : GrX [tb] w wf := by
    rw [hw]
    exact ((((GrX.refl _ _).set (.inl (by simp)) _).set (.inl (by simp)) _).set (.inl (by simp)) _).set (.inl (by simp)) _
  refine ⟨?_, hT.grx gx (fun y hy hk => by simp at hy; omega), gx, gx.all g (fun y hy => by simp at hy; omega)⟩
  have h2 := (((hb.set 0 (.slice T.an T.N.length T.cn)).set 1 (.slice T.ag T.G.length T.cg)).set 2 (.int .i64 T.last)).set 3 (.int .i64 T.now)
  rw [hw]
  obtain ⟨l⟩ := cs
  match l, hc with
  | [_, _, _, _], _ => exact h2
abbrev resL (L : List EntM) : List (Int × Int) := resG ⟨[], [], 0, 0⟩ ((L.map (·.e)).map ordOf)
theorem resL_len (L : List EntM) : (resL L).length = L.length := by rw [resG_len, List.length_map, List.length_map]
def treeL (L : List EntM) : TreeV := madeV ((L.map (·.e)).map ordOf)
theorem treeL_snoc (L : List EntM) (x : EntM) : treeL (L ++ [x]) = ((treeL L).apply (ordOf x.e)).1 := by
  unfold treeL
  rw [List.map_append, List.map_append]
  exact madeV_snoc _ _
theorem resL_snoc (L : List EntM) (x : EntM) : resL (L ++ [x]) = resL L ++ [((treeL L).apply (ordOf x.e)).2] := by
  unfold resL
  rw [List.map_append, List.map_append]
  exact resG_snoc _ _ _
theorem sane_treeL (L : List EntM) : Sane L.length (treeL L) := by
  have := sane_made ((L.map (·.e)).map ordOf)
  rw [List.length_map, List.length_map] at this
  exact this
/-- What a ledger makes: the tree, the answers. -/
def FoldP (L : List EntM) (w : World) (e : Ending) (w' : World) : Prop := ∃ (T : TM) (ra : Option Addr) (rc : Nat), e = .returned (.tuple #[.agg T.row, .slice ra (resL L).length rc]) ∧ T.v = treeL L ∧ w'.ownsRow w.heap.size 43 2 (.slice ra (resL L).length rc) (resL L).length ((resL L).flatMap resC) ∧ Gr w w'
theorem owns_nilR (w : World) (B : Nat) : w.ownsRow B 43 2 (.slice none 0 0) ([] : List (Int × Int)).length (([] : List (Int × Int)).flatMap resC) := ⟨rfl, .inl ⟨rfl, rfl⟩⟩
set_option maxRecDepth 100000 in
set_option maxHeartbeats 6400000 in
theorem fold_any {G : List Nat} {E : Nat → Addr} (a : Option Addr) (c : Nat) (L : List EntM) (w : World) (hE : EAt G E w) (i0 : 4 ∈ G) (i1 : 5 ∈ G) (i3 : 7 ∈ G) (i4 : 6 ∈ G) (h : LedM Any w a L) (hi : ∀ x ∈ L, EntB x.e) (hm : L.length ≤ 100000) :
    Calls Tryz.prog 19 #[.slice a L.length c] w (FoldP L w) := by
  obtain ⟨i16, hi6, hz0, hz1, hz2⟩ := info_parts Tryz.infoRes
  obtain ⟨W, hW⟩ : ∃ W, W = (w.alloc (.cells #[.slice none 0 0, .slice none 0 0, .int .i64 0, .int .i64 0] 35)).alloc (.cells #[.slice none 0 0, .slice none 0 0, .int .i64 0, .int .i64 0] 35) := ⟨_, rfl⟩
  have gW : Gr w W := by rw [hW]; exact ((Gr.refl w).alloc _).alloc _
  have hRW : Blk W w.heap.size #[.slice none 0 0, .slice none 0 0, .int .i64 0, .int .i64 0] 35 := by rw [hW]; exact (Blk.new w _ _).alloc _
  have hTW : Blk W (w.heap.size + 1) #[.slice none 0 0, .slice none 0 0, .int .i64 0, .int .i64 0] 35 := by
    rw [hW]
    have := Blk.new (w.alloc (.cells #[.slice none 0 0, .slice none 0 0, .int .i64 0, .int .i64 0] 35)) #[.slice none 0 0, .slice none 0 0, .int .i64 0, .int .i64 0] 35
    rw [World.size_alloc] at this
    exact this
  replace hW := Lib.hid hW
  replace hRW := Lib.hid hRW
  replace hTW := Lib.hid hTW
  replace h := Lib.hid h
  replace hi := Lib.hid hi
  go_enter Tryz.func19, Tryz.ntmps19
  go_upto_region 2 with fail
  rw [← hW.out]
  go_wp2_with fail
  go_loopw [5, 12] (fun sv iv wr => ∃ (k : Nat) (T : TM), k ≤ L.length ∧ iv = .int .i64 k ∧ Hid (Blk wr (w.heap.size + 1) T.row 35 ∧ TreeAt (fun b => w.heap.size + 2 ≤ b) wr T ∧ T.v = treeL (L.take k) ∧ Blk wr w.heap.size #[.slice none 0 0, .slice none 0 0, .int .i64 0, .int .i64 0] 35 ∧ wr.ownsRow w.heap.size 43 2 sv (resL (L.take k)).length ((resL (L.take k)).flatMap resC)) ∧ Gr w wr) (fun _ iv _ => L.length - (intOf iv).toNat)
  case atStart => exact ⟨0, ⟨[], none, 0, [], none, 0, 0, 0⟩, Nat.zero_le _, rfl, Lib.hid ⟨hTW.out, TreeAt.none _ _ _ _, rfl, hRW.out, owns_nilR _ _⟩, gW⟩
  case round =>
    obtain ⟨k, T, hk, rfl, hI, hg⟩ := hrel
    obtain ⟨hTb, hTt, hTv, hRb, hO⟩ := hI.out
    clear hI
    obtain ⟨wo, rfl⟩ : ∃ wo : World, wo = wr := ⟨wr, rfl⟩
    obtain ⟨Rs, hRs⟩ : ∃ Rs, Rs = resL (L.take k) := ⟨_, rfl⟩
    rw [← hRs] at hO
    have hRl : Rs.length = k := by rw [hRs, resL_len, List.length_take]; omega
    obtain ⟨ra, rc, e5, hro, -, -⟩ := recs_of_owns resC_len hO
    subst e5
    by_cases hlt : k < L.length
    · obtain ⟨x, hx⟩ := get_some L k hlt
      obtain ⟨b, off, hag, hb, _, d0, d1, d2, d3, d4, d5, d6, d7, d8, d9⟩ := (h.out.gr hg).get hx
      subst hag
      obtain ⟨x1, x2, x3⟩ := hi.out x (get_mem hx)
      have hxo := (h.out.gr hg).2 x (get_mem hx)
      have tk : L.take (k + 1) = L.take k ++ [x] := take_snoc hx
      have hS : Sane (L.take k).length T.v := by rw [hTv]; exact sane_treeL _
      have hkl : (L.take k).length ≤ 100000 := by rw [List.length_take]; omega
      obtain ⟨eb, heb⟩ : ∃ eb, eb = wo.heap.size := ⟨_, rfl⟩
      obtain ⟨wa, hwa⟩ : ∃ wa, wa = wo.alloc (.cells #[.int .i64 x.e.cl, .int .i64 x.e.nu, .int .i64 x.e.kd, .int .i64 x.e.id, .int .i64 x.e.srv.k, .int .i64 x.e.srv.q, .int .i64 x.e.srv.t, .int .i64 x.e.po, .slice x.a x.e.tasks.length x.c, .int .i64 x.e.at_] 60) := ⟨_, rfl⟩
      have ga : Gr wo wa := by rw [hwa]; exact (Gr.refl _).alloc _
      have hXa : Blk wa eb #[.int .i64 x.e.cl, .int .i64 x.e.nu, .int .i64 x.e.kd, .int .i64 x.e.id, .int .i64 x.e.srv.k, .int .i64 x.e.srv.q, .int .i64 x.e.srv.t, .int .i64 x.e.po, .slice x.a x.e.tasks.length x.c, .int .i64 x.e.at_] 60 := by rw [hwa, heb]; exact Blk.new _ _ _
      have gAa := hg.trans ga
      have hTa := hTb.gr ga
      have hta := hTt.gr ga
      have hc := apply_any T wa (hE.gr gAa) i0 i1 i3 i4 hta.any hS (by omega) (ordOf x.e) x.a x.c x3 ((hxo.gr ga).1.1) hxo.2.1 hxo.2.2.2.2
      obtain ⟨V, hV⟩ : ∃ V, V = T.v.apply (ordOf x.e) := ⟨_, rfl⟩
      rw [← hV] at hc
      have t0 := hTa.cell (i := 0) (v := .slice T.an T.N.length T.cn) rfl
      have t1 := hTa.cell (i := 1) (v := .slice T.ag T.G.length T.cg) rfl
      have t2 := hTa.cell (i := 2) (v := .int .i64 T.last) rfl
      have t3 := hTa.cell (i := 3) (v := .int .i64 T.now) rfl
      have y0 := hXa.cell (i := 0) (v := .int .i64 x.e.cl) rfl
      have y1 := hXa.cell (i := 1) (v := .int .i64 x.e.nu) rfl
      have y2 := hXa.cell (i := 2) (v := .int .i64 x.e.kd) rfl
      have y3 := hXa.cell (i := 3) (v := .int .i64 x.e.id) rfl
      have y4 := hXa.cell (i := 4) (v := .int .i64 x.e.srv.k) rfl
      have y5 := hXa.cell (i := 5) (v := .int .i64 x.e.srv.q) rfl
      have y6 := hXa.cell (i := 6) (v := .int .i64 x.e.srv.t) rfl
      have y7 := hXa.cell (i := 7) (v := .int .i64 x.e.po) rfl
      have y8 := hXa.cell (i := 8) (v := .slice x.a x.e.tasks.length x.c) rfl
      have y9 := hXa.cell (i := 9) (v := .int .i64 x.e.at_) rfl
      replace hx := Lib.hid hx
      replace heb := Lib.hid heb
      replace hwa := Lib.hid hwa
      replace hXa := Lib.hid hXa
      replace hTb := Lib.hid hTb
      replace hTt := Lib.hid hTt
      replace hTv := Lib.hid hTv
      replace hRb := Lib.hid hRb
      replace hO := Lib.hid hO
      replace hRs := Lib.hid hRs
      replace hTa := Lib.hid hTa
      replace hta := Lib.hid hta
      replace hc := Lib.hid hc
      replace hV := Lib.hid hV
      replace hxo := Lib.hid hxo
      replace tk := Lib.hid tk
      replace hS := Lib.hid hS
      go_upto_region 6 with fail
      rw [← heb.out, ← hwa.out]
      clear d0 d1 d2 d3 d4 d5 d6 d7 d8 d9
      go_wp2_with fail
      refine hc.out.mono ?_
      rintro e wb ⟨U, rfl, hU, hUt, gb⟩
      clear t0 t1 t2 t3 y0 y1 y2 y3 y4 y5 y6 y7 y8 y9
      obtain ⟨V1, vc, vi⟩ := V
      dsimp only at hU ⊢
      obtain ⟨ub, hub⟩ : ∃ ub, ub = wb.heap.size := ⟨_, rfl⟩
      obtain ⟨wq, hwq⟩ : ∃ wq, wq = (wb.alloc (.cells U.row 35)).alloc (.cells #[.int .i64 vc, .int .i64 vi] 43) := ⟨_, rfl⟩
      have gq : Gr wb wq := by rw [hwq]; exact ((Gr.refl _).alloc _).alloc _
      have hUb : Blk wq ub U.row 35 := by rw [hwq, hub]; exact (Blk.new _ _ _).alloc _
      have hRq : Blk wq (ub + 1) #[.int .i64 vc, .int .i64 vi] 43 := by
        rw [hwq, hub]
        have := Blk.new (wb.alloc (.cells U.row 35)) #[.int .i64 vc, .int .i64 vi] 43
        rw [World.size_alloc] at this
        exact this
      have gaq := (ga.trans gb).trans gq
      have gAq := hg.trans gaq
      have hTq := hTb.out.gr gaq
      have hUq := hUt.gr gq
      have hRbq := hRb.out.gr gaq
      have hOq := owns_gr hO.out gaq
      have zub : wa.heap.size ≤ wb.heap.size := gb.size
      have zua : wo.heap.size ≤ wa.heap.size := ga.size
      have zto := hTb.out.lt
      have zrl := fun y hy => (owns_lt hO.out y hy).1
      replace hRl := Lib.hid hRl
      have hRk : Rs.length ≤ 100000 := by have := hRl.out; omega
      have zu1 := hUb.lt
      have zu2 := hRq.lt
      have zu3 := hTq.lt
      have n1 : ub ≠ w.heap.size + 1 := by omega
      have n2 : ub + 1 ≠ w.heap.size + 1 := by omega
      have n1s : w.heap.size + 1 ≠ ub := by omega
      have n2s : w.heap.size + 1 ≠ ub + 1 := by omega
      have gz : Gr wq (wq.alloc (.cells #[.int .i64 vc, .int .i64 vi] 43)).drew := ((Gr.refl wq).alloc _).drew
      have hOz := owns_gr hOq gz
      have hsz : RecsAt 2 resC (wq.alloc (.cells #[.int .i64 vc, .int .i64 vi] 43)).drew (some ⟨wq.heap.size, 0, none⟩) [(vc, vi)] := (RecsIn.grx (K := Any) ⟨recs_alloc resC_len wq [(vc, vi)] 43 #[.int .i64 vc, .int .i64 vi] (by simp), fun _ _ _ => trivial⟩ ((Gr.refl _).drew.x []) (fun _ h => by cases h)).1
      have hbz : w.heap.size ≤ (wq.alloc (.cells #[.int .i64 vc, .int .i64 vi] 43)).drew.heap.size := (gAq.trans gz).size
      have tf := fun i => hTq.free i
      have u0 := hUb.cell (i := 0) (v := .slice U.an U.N.length U.cn) rfl
      have u1 := hUb.cell (i := 1) (v := .slice U.ag U.G.length U.cg) rfl
      have u2 := hUb.cell (i := 2) (v := .int .i64 U.last) rfl
      have u3 := hUb.cell (i := 3) (v := .int .i64 U.now) rfl
      have r0 := hRq.cell (i := 0) (v := .int .i64 vc) rfl
      have r1 := hRq.cell (i := 1) (v := .int .i64 vi) rfl
      have t0 := hTq.cell (i := 0) (v := .slice T.an T.N.length T.cn) rfl
      have t1 := hTq.cell (i := 1) (v := .slice T.ag T.G.length T.cg) rfl
      have t2 := hTq.cell (i := 2) (v := .int .i64 T.last) rfl
      have t3 := hTq.cell (i := 3) (v := .int .i64 T.now) rfl
      replace hub := Lib.hid hub
      replace hwq := Lib.hid hwq
      replace hUb := Lib.hid hUb
      replace hRq := Lib.hid hRq
      replace hTq := Lib.hid hTq
      replace hUq := Lib.hid hUq
      replace hRbq := Lib.hid hRbq
      replace hOq := Lib.hid hOq
      replace hUt := Lib.hid hUt
      replace hU := Lib.hid hU
      replace zub := Lib.hid zub
      replace zua := Lib.hid zua
      replace zto := Lib.hid zto
      replace zrl := Lib.hid zrl
      replace hOz := Lib.hid hOz
      replace hsz := Lib.hid hsz
      go_upto_region 7 with fail
      rw [← hub.out, ← hwq.out]
      go_region_held3 (fun w' => w'.cell? ⟨ub, 0, none⟩ = some (.slice U.an U.N.length U.cn) ∧ w'.cell? ⟨ub, 1, none⟩ = some (.slice U.ag U.G.length U.cg) ∧ w'.cell? ⟨ub, 2, none⟩ = some (.int .i64 U.last) ∧ w'.cell? ⟨ub, 3, none⟩ = some (.int .i64 U.now) ∧ w'.cell? ⟨ub + 1, 0, none⟩ = some (.int .i64 vc) ∧ w'.cell? ⟨ub + 1, 1, none⟩ = some (.int .i64 vi)) (simp (maxDischargeDepth := 8) [go_sem, *])
        (first
          | (refine step_append_recs (k := 2) (enc := resC) (by rfl) _ _ 36 (by rfl) w.heap.size 43 i16 _ 16 Tryz.underlying36 hi6 hz0 hz1 hz2 rfl (by decide) resC_len resC_one (.slice ra Rs.length rc) Rs (by rfl) hOz.out ⟨wq.heap.size, 0, none⟩ 1 1 [(vc, vi)] rfl (by rfl) hsz.out (by unfold maxLen; omega) (by omega) hbz ?_; intro v9 w9 hown9 hgr9; obtain ⟨a9, c9, e9, -, -, -⟩ := recs_of_owns resC_len hown9; subst e9; have gx9 : GrX (Value.slice ra Rs.length rc).ownBlock.toList (wq.alloc (.cells #[.int .i64 vc, .int .i64 vi] 43)).drew w9 := ⟨hgr9.os, hgr9.tape, hgr9.output, hgr9.size, fun k hk hn => hgr9.block k hk (fun e => hn (by simp [← e]))⟩; have hin9 : ∀ y, y ∈ (Value.slice ra Rs.length rc).ownBlock.toList → (Value.slice ra Rs.length rc).ownBlock = some y := fun y hy => (by simpa using hy); have hU9 := (hUb.out.gr gz).grx gx9 (fun hm => owns_blk hOz.out (hUb.out.gr gz) (by decide) (hin9 _ hm)); have hT9 := (hTq.out.gr gz).grx gx9 (fun hm => owns_blk hOz.out (hTq.out.gr gz) (by decide) (hin9 _ hm)); have hR9 := (hRq.out.gr gz).grx gx9 (fun hm => by have h1 := zrl.out _ (hin9 _ hm); have h2 := hub.out; have h3 := zub.out; have h4 := zua.out; omega); have hRb9 := (hRbq.out.gr gz).grx gx9 (fun hm => owns_blk hOz.out (hRbq.out.gr gz) (by decide) (hin9 _ hm)); have hUt9 := (hUq.out.gr gz).grx gx9 (fun y hy hk => by have h1 := zrl.out _ (hin9 _ hy); have h4 := zua.out; omega); have gA9 : Gr w w9 := gx9.all (gAq.trans gz) (fun y hy => (owns_lt hOz.out y (hin9 y hy)).2); have o0 := hU9.cell (i := 0) (v := .slice U.an U.N.length U.cn) rfl; have o1 := hU9.cell (i := 1) (v := .slice U.ag U.G.length U.cg) rfl; have o2 := hU9.cell (i := 2) (v := .int .i64 U.last) rfl; have o3 := hU9.cell (i := 3) (v := .int .i64 U.now) rfl; have p0 := hR9.cell (i := 0) (v := .int .i64 vc) rfl; have p1 := hR9.cell (i := 1) (v := .int .i64 vi) rfl; have q0 := hT9.cell (i := 0) (v := .slice T.an T.N.length T.cn) rfl; have q1 := hT9.cell (i := 1) (v := .slice T.ag T.G.length T.cg) rfl; have q2 := hT9.cell (i := 2) (v := .int .i64 T.last) rfl; have q3 := hT9.cell (i := 3) (v := .int .i64 T.now) rfl; have qf := fun i => hT9.free i; replace hU9 := Lib.hid hU9; replace hT9 := Lib.hid hT9; replace hR9 := Lib.hid hR9; replace hRb9 := Lib.hid hRb9; replace hUt9 := Lib.hid hUt9; replace hown9 := Lib.hid hown9; replace gx9 := Lib.hid gx9; clear hgr9 hin9)
          | fail)
      clear u0 u1 u2 u3 o0 o1 o2 o3 q0 q1 q2 q3 t0 t1 t2 t3 r0 r1 p0 p1 tf qf
      obtain ⟨wf, hwf⟩ : ∃ wf, wf = (((w9.setCell ⟨w.heap.size + 1, 0, none⟩ (.slice U.an U.N.length U.cn)).setCell ⟨w.heap.size + 1, 1, none⟩ (.slice U.ag U.G.length U.cg)).setCell ⟨w.heap.size + 1, 2, none⟩ (.int .i64 U.last)).setCell ⟨w.heap.size + 1, 3, none⟩ (.int .i64 U.now) := ⟨_, rfl⟩
      rw [← hwf]
      obtain ⟨hTf, hUf, gxf, gAf⟩ := tree_set (B := wa.heap.size) (by have h1 := zto.out; have h2 := zua.out; omega) hT9.out rfl hUt9.out hwf gA9 (by omega)
      have hRbf := hRb9.out.grx gxf (by simp)
      have hOf := owns_gx hown9.out gxf (fun k hk hm => owns_blk hown9.out hT9.out (by decide) (by rw [List.mem_singleton.1 hm] at hk; exact hk))
      have hle : (Rs ++ [(vc, vi)]).length = Rs.length + 1 := by simp
      rw [hle] at hOf
      have hOf2 : wf.ownsRow w.heap.size 43 2 (.slice a9 (Rs.length + 1) c9) (resL (L.take (k + 1))).length ((resL (L.take (k + 1))).flatMap resC) := by
        have h1 : resL (L.take (k + 1)) = Rs ++ [(vc, vi)] := by rw [tk.out, resL_snoc, ← hRs.out, ← hTv.out, ← hV.out]
        rw [h1, hle]
        exact hOf
      have hUv : U.v = treeL (L.take (k + 1)) := by rw [tk.out, treeL_snoc, ← hTv.out, ← hV.out]; exact hU.out
      have hUm := hUf.mono (K' := fun b => w.heap.size + 2 ≤ b) (fun b _ hb => by have h1 := zto.out; have h2 := zua.out; omega)
      replace hwf := Lib.hid hwf
      replace hTf := Lib.hid hTf
      replace hUf := Lib.hid hUf
      replace gxf := Lib.hid gxf
      replace hRbf := Lib.hid hRbf
      replace hOf := Lib.hid hOf
      replace hOf2 := Lib.hid hOf2
      replace hUv := Lib.hid hUv
      replace hUm := Lib.hid hUm
      clear hle
      go_wp2_with fail
      go_roundw
      case rel => exact ⟨k + 1, U, by omega, by go_num, Lib.hid ⟨hTf.out, hUm.out, hUv.out, hRbf.out, hOf2.out⟩, gAf⟩
      case measure => simp [intOf]; omega
    · have hkl : k = L.length := by omega
      have ti : ¬ (k : Int) < L.length := by omega
      have tib : decide ((k : Int) < L.length) = false := decide_eq_false ti
      have hall : L.take k = L := List.take_of_length_le (by omega)
      rw [hall] at hRs hTv
      have rf := fun i => hRb.free i
      have t0 := hTb.cell (i := 0) (v := .slice T.an T.N.length T.cn) rfl
      have t1 := hTb.cell (i := 1) (v := .slice T.ag T.G.length T.cg) rfl
      have t2 := hTb.cell (i := 2) (v := .int .i64 T.last) rfl
      have t3 := hTb.cell (i := 3) (v := .int .i64 T.now) rfl
      have r0 := hRb.cell (i := 0) (v := .slice none 0 0) rfl
      have r1 := hRb.cell (i := 1) (v := .slice none 0 0) rfl
      have r2 := hRb.cell (i := 2) (v := .int .i64 0) rfl
      have r3 := hRb.cell (i := 3) (v := .int .i64 0) rfl
      obtain ⟨wf, hwf⟩ : ∃ wf, wf = (((wo.setCell ⟨w.heap.size, 0, none⟩ (.slice T.an T.N.length T.cn)).setCell ⟨w.heap.size, 1, none⟩ (.slice T.ag T.G.length T.cg)).setCell ⟨w.heap.size, 2, none⟩ (.int .i64 T.last)).setCell ⟨w.heap.size, 3, none⟩ (.int .i64 T.now) := ⟨_, rfl⟩
      obtain ⟨hRf, hTf, gxf, gAf⟩ := tree_set (B := w.heap.size + 2) (by omega) hRb rfl hTt hwf hg (Nat.le_refl _)
      have hOf := owns_gx hO gxf (fun k hk hm => owns_blk hO hRb (by decide) (by rw [List.mem_singleton.1 hm] at hk; exact hk))
      have z0 := hRf.cell (i := 0) (v := .slice T.an T.N.length T.cn) rfl
      have z1 := hRf.cell (i := 1) (v := .slice T.ag T.G.length T.cg) rfl
      have z2 := hRf.cell (i := 2) (v := .int .i64 T.last) rfl
      have z3 := hRf.cell (i := 3) (v := .int .i64 T.now) rfl
      replace hTb := Lib.hid hTb
      replace hTt := Lib.hid hTt
      replace hTv := Lib.hid hTv
      replace hRb := Lib.hid hRb
      replace hO := Lib.hid hO
      replace hRs := Lib.hid hRs
      replace hRl := Lib.hid hRl
      replace hall := Lib.hid hall
      replace hkl := Lib.hid hkl
      replace hRf := Lib.hid hRf
      replace hTf := Lib.hid hTf
      replace gxf := Lib.hid gxf
      replace hOf := Lib.hid hOf
      go_wp2_with fail
      rw [← hwf]
      refine bodyPost_ret (v := .tuple #[.agg T.row, .slice ra Rs.length rc]) (by simp [results, Tryz.results19, go_sem, z0, z1, z2, z3]) rfl ?_
      exact ⟨T, ra, rc, by rw [hRs.out], hTv.out, by rw [← hRs.out]; exact hOf.out, gAf⟩
end Go.Proofs.YtglfdnfojpdkjaaGreatDoor
