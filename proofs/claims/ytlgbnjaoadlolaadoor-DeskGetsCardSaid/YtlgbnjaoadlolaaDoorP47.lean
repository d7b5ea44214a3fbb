/- almonerref20.numbers of what is no frame; GetReply. almonerref20.GetReply of a frame. GetReply of what is no answer: the reference's. desk.GetReply of what is no answer. Printed by gen_p47.py. -/
import Derived.Test.YtlgbnjaoadlolaaDoorP43
namespace Go.Proofs.YtlgbnjaoadlolaaDoor
open Go.RowKit

set_option maxHeartbeats 1600000 in
theorem rnums_err (w : World) (s : Value) (m : Int) (d : Int) (hd : d ≠ 0)
    (hR : Calls Tryd.prog 60 #[s] w fun e w' => e = .returned (.tuple #[.slice none 0 0, .int .i64 0, .int .i64 d]) ∧ Gr w w') :
    Calls Tryd.prog 44 #[s, .int .i64 m] w fun e w' => e = .returned (.tuple #[.slice none 0 0, .pointer none]) ∧ Gr w w' := by
  have e1 : (d != 0) = true := bne_iff_ne.2 hd
  replace hR := Lib.hid hR
  replace hd := Lib.hid hd
  go_enter Tryd.func44, Tryd.ntmps44
  go_wp2_with fail
  refine (hR.out).mono ?_
  rintro e wa ⟨rfl, ga⟩
  obtain ⟨ca, fa, sa⟩ := ga.cells
  try simp only [size_drewN] at ca fa sa
  try simp only [World.size_alloc] at ca fa sa
  try simp only [World.size_drew] at ca fa sa
  try simp only [World.size_setCell] at ca fa sa
  go_wp2_with fail
  go_ret2
  exact ⟨rfl, ga⟩
set_option maxHeartbeats 1600000 in
theorem rnums_zero (w : World) (s : Value) (m : Int)
    (hR : Calls Tryd.prog 60 #[s] w fun e w' => e = .returned (.tuple #[.slice none 0 0, .int .i64 0, .int .i64 0]) ∧ Gr w w') :
    Calls Tryd.prog 44 #[s, .int .i64 m] w fun e w' => e = .returned (.tuple #[.slice none 0 0, .pointer none]) ∧ Gr w w' := by
  replace hR := Lib.hid hR
  go_enter Tryd.func44, Tryd.ntmps44
  go_wp2_with fail
  refine (hR.out).mono ?_
  rintro e wa ⟨rfl, ga⟩
  obtain ⟨ca, fa, sa⟩ := ga.cells
  try simp only [size_drewN] at ca fa sa
  try simp only [World.size_alloc] at ca fa sa
  try simp only [World.size_drew] at ca fa sa
  try simp only [World.size_setCell] at ca fa sa
  go_wp2_with fail
  go_ret2
  exact ⟨rfl, ga⟩
set_option maxRecDepth 100000 in
set_option maxHeartbeats 1600000 in
theorem rnums_more (w : World) (s : Value) (m : Int) (a : Option Addr) (N c n : Nat) (hs : s = .slice a N c) (P : List UInt8) (hne : n + 8 ≠ N)
    (hR : Calls Tryd.prog 60 #[s] w fun e w' => ∃ a' c', e = .returned (.tuple #[.slice a' n c', .int .i64 ((n : Int) + 8), .int .i64 0]) ∧ Own w w' a' c' P) :
    Calls Tryd.prog 44 #[s, .int .i64 m] w fun e w' => e = .returned (.tuple #[.slice none 0 0, .pointer none]) ∧ Gr w w' := by
  subst hs
  have e1 : ((n : Int) + 8 == 0) = false := beq_eq_false_iff_ne.2 (by omega)
  have e2 : ((n : Int) + 8 != (N : Int)) = true := bne_iff_ne.2 (by omega)
  replace hR := Lib.hid hR
  go_enter Tryd.func44, Tryd.ntmps44
  go_wp2_with fail
  refine hR.out.mono ?_
  rintro r w1 ⟨a1, c1, rfl, ho1⟩
  have g1 := ho1.2.2.2.2
  replace ho1 := Lib.hid ho1
  go_wp2_with fail
  go_ret2
  exact ⟨rfl, g1⟩
theorem rnumbers_no (w : World) (a : Option Addr) (c : Nat) (m : Int) (S : List UInt8) (hS : BytesAt w a S) (hc : S.length ≤ c) (hm : S.length ≤ maxLen) (hf : ¬ isFr S) :
    Calls Tryd.prog 44 #[.slice a S.length c, .int .i64 m] w fun e w' => e = .returned (.tuple #[.slice none 0 0, .pointer none]) ∧ Gr w w' := by
  rcases read_parts S hf with h4 | ⟨x0, x1, x2, x3, t, hs, hh⟩
  · exact rnums_zero w _ m (rread_short w a c S.length h4)
  · obtain ⟨b, off, rfl, -⟩ := hS.get (i := 0) (d := x0) (by rw [hs]; rfl)
    rcases hh with hn | ⟨hn, hl | ⟨hl, y0, y1, y2, y3, r, hy, hq | ⟨hq, hne⟩⟩⟩
    · exact rnums_err w _ m 8 (by decide) (rread_large w b off c S hS x0 x1 x2 x3 t hs hn)
    · exact rnums_zero w _ m (rread_part w b off c S hS x0 x1 x2 x3 t hs hn hl)
    · exact rnums_err w _ m 4 (by decide) (rread_sum w b off c S hS x0 x1 x2 x3 y0 y1 y2 y3 t r hs hn hl hc hm hy hq)
    · exact rnums_more w _ m _ S.length c _ rfl _ hne (rread_good w b off c S hS x0 x1 x2 x3 y0 y1 y2 y3 t r hs hn hl hc hm hy hq)
set_option maxRecDepth 100000 in
set_option maxHeartbeats 1600000 in
theorem rGetReply_shut (w : World) (s : Value)
    (hN : ∀ w1, Gr w w1 → Calls Tryd.prog 44 #[s, .int .i64 4] w1 fun e w' => e = .returned (.tuple #[.slice none 0 0, .pointer none]) ∧ Gr w1 w') :
    Calls Tryd.prog 23 #[s] w fun e w' => e = .returned (.tuple #[repZ, .bool false]) ∧ Gr w w' := by
  replace hN := Lib.hid hN
  go_enter Tryd.func23, Tryd.ntmps23
  go_wp2_with fail
  refine (hN.out _ ((Gr.refl w).alloc _)).mono ?_
  rintro e wa ⟨rfl, ga⟩
  obtain ⟨ca, fa, sa⟩ := ga.cells
  try simp only [size_drewN] at ca fa sa
  try simp only [World.size_alloc] at ca fa sa
  try simp only [World.size_drew] at ca fa sa
  try simp only [World.size_setCell] at ca fa sa
  have za0 : w.heap.size < wa.heap.size := by omega
  have ya0 : w.heap.size ≤ wa.heap.size := by omega
  have ka0 := fun o => ca (w.heap.size) o (by omega)
  have ja0 := fun o => fa (w.heap.size) o (by omega)
  go_wp2_with fail
  refine bodyPost_ret (v := .tuple #[repZ, .bool false]) ?_ rfl ⟨rfl, ?_⟩
  · refine (res_cell (b := w.heap.size) (t := 24) Tryd.results23 _ _ (((Blk.new w _ _).gr ga).set5 ?_ _ _ _ _ _) ?_ Tryd.underlying24 (by kernel_rfl)).trans ?_
    · rfl
    · simp
    · simp
  · exact (((Gr.refl w).alloc _).trans ga).set5 (Nat.le_refl _) _ _ _ _ _


theorem rnumbers_yes (w : World) (b off c m : Nat) (L : List UInt8) (hS : BytesAt w (some ⟨b, off, none⟩) (frameB L)) (hL : L.length ≤ 32768) (hc : (frameB L).length ≤ c) (hm : m ≤ 100) {ns : List Nat} {k : Nat} (hn : numsR m L = some (ns, k)) :
    Calls Tryd.prog 44 #[.slice (some ⟨b, off, none⟩) (frameB L).length c, .int .i64 m] w fun e w' => ∃ a' c' rb, e = .returned (.tuple #[.slice a' m c', .pointer (some ⟨rb, 0, none⟩)]) ∧ RecsAt 1 numC w' a' (ns.map fun (n : Nat) => (n : Int)) ∧ (∀ y, a' = some y → rb < y.block ∧ y.block < w'.heap.size) ∧ RrAt (· < rb) w' rb L k ∧ w.heap.size ≤ rb ∧ Gr w w' :=
  (rnumbers_any w b off c m L hS hL hc hm).mono fun e w' ⟨h1, h2⟩ => by
    rw [hn] at h2
    obtain ⟨a', c', rb, e1, e2, e3, e4, e5⟩ := h2
    exact ⟨a', c', rb, e1, e2, e3, e4, e5, h1⟩
theorem rnumbers_none (w : World) (b off c m : Nat) (L : List UInt8) (hS : BytesAt w (some ⟨b, off, none⟩) (frameB L)) (hL : L.length ≤ 32768) (hc : (frameB L).length ≤ c) (hm : m ≤ 100) (hn : numsR m L = none) :
    Calls Tryd.prog 44 #[.slice (some ⟨b, off, none⟩) (frameB L).length c, .int .i64 m] w fun e w' => e = .returned (.tuple #[.slice none 0 0, .pointer none]) ∧ Gr w w' :=
  (rnumbers_any w b off c m L hS hL hc hm).mono fun e w' ⟨h1, h2⟩ => by rw [hn] at h2; exact ⟨h2, h1⟩
set_option maxRecDepth 100000 in
set_option maxHeartbeats 6400000 in
theorem rGetReply_yes (w : World) (b off c : Nat) (L : List UInt8) (hS : BytesAt w (some ⟨b, off, none⟩) (frameB L)) (hL : L.length ≤ 32768) (hc : (frameB L).length ≤ c)
    (n0 n1 n2 n3 k n j : Nat) (hk : numsR 4 L = some ([n0, n1, n2, n3], k)) (hq : numR (L.drop k) = some (n, j)) (hn : n ≤ 16000) (he : k + j + n = L.length) :
    Calls Tryd.prog 23 #[.slice (some ⟨b, off, none⟩) (frameB L).length c] w fun e w' => ∃ a' c', e = .returned (.tuple #[.agg #[.int .i64 n0, .int .i64 n1, .int .i64 n2, .int .i64 n3, .slice a' n c'], .bool true]) ∧ Own w w' a' c' (L.drop (k + j)) := by
  have hnb := rnumbers_yes (w.alloc (.cells #[.int .i64 0, .int .i64 0, .int .i64 0, .int .i64 0, .slice none 0 0] 24)) b off c 4 L (hS.gr ((Gr.refl w).alloc _)) hL hc (by decide) hk
  obtain ⟨N, hN⟩ : ∃ N, (frameB L).length = N := ⟨_, rfl⟩
  rw [hN] at hnb ⊢
  replace hN := Lib.hid hN
  replace hnb := Lib.hid hnb
  replace hS := Lib.hid hS
  replace hk := Lib.hid hk
  replace hq := Lib.hid hq
  replace he := Lib.hid he
  go_enter Tryd.func23, Tryd.ntmps23
  go_wp2_with fail
  refine hnb.out.mono ?_
  rintro e w1 ⟨a1, c1, rb, rfl, hi1, hy1, hr1, hz1, g1⟩
  have hR1 : Blk w1 w.heap.size #[.int .i64 0, .int .i64 0, .int .i64 0, .int .i64 0, .slice none 0 0] 24 := (Blk.new w _ _).gr g1
  have gw1 : Gr w w1 := ((Gr.refl w).alloc _).trans g1
  simp only [World.size_alloc] at hz1
  have hkb := (numR_bd hq.out).2.2.2
  dsimp only at hkb
  rw [List.length_drop] at hkb
  have he' := he.out
  have hby := rrbytes_yes w1 rb L k 16000 hr1 hq.out (by omega) (by omega)
  obtain ⟨bi, oi, rfl, hbi, hci⟩ : ∃ bi oi, a1 = some ⟨bi, oi, none⟩ ∧ bi < w1.heap.size ∧ ∀ (i : Nat) (x : Int), ([n0, n1, n2, n3].map fun (n : Nat) => (n : Int))[i]? = some x → w1.cell? ⟨bi, oi + i, none⟩ = some (.int .i64 x) := by
    obtain ⟨bi, oi, e1, e2, -⟩ := hi1 0 (n0 : Int) rfl
    refine ⟨bi, oi, e1, e2, fun i x hx => ?_⟩
    obtain ⟨bi', oi', e3, -, e5⟩ := hi1 i x hx
    rw [e1] at e3
    cases e3
    have := e5 0 _ rfl
    simpa using this
  have hbr : rb < bi := (hy1 _ rfl).1
  replace hi1 := Lib.hid hi1
  replace hy1 := Lib.hid hy1
  replace hr1 := Lib.hid hr1
  replace hR1 := Lib.hid hR1
  replace hci := Lib.hid hci
  replace hby := Lib.hid hby
  go_wp2_with fail
  refine hby.out.mono ?_
  rintro e w4 ⟨a4, c4, rfl, ho4, hr4, g4⟩
  rw [he'] at hr4
  have hR4 := hR1.out.grx g4 (by simp; omega)
  have gw4 : Gr w w4 := GrX.all gw1 g4 (fun x hx => by simp at hx; omega)
  obtain ⟨ar, cr, hbr4, -⟩ := hr4
  have q0 := GrW.cell (hbr4.cell (i := 0) (v := .slice ar L.length cr) rfl)
  have q1 := GrW.cell (hbr4.cell (i := 1) (v := .int .i64 (L.length : Nat)) rfl)
  replace hbr4 := Lib.hid hbr4
  replace hR4 := Lib.hid hR4
  replace ho4 := Lib.hid ho4
  replace he' := Lib.hid he'
  go_upto_region 5 with fail
  refine wp_region_grows (by kernel_rfl) (by kernel_rfl) ?_
  repeat (any_goals (first | go_big_quiet_step (first | fail) | quiet_step (first | fail)))
  refine wpQuiet_nil ?_
  intro wz hwq
  have gz := GrW.of hwq
  clear hwq
  obtain ⟨cz, fz, sz⟩ := gz.cells
  try simp only [size_drewN] at cz fz sz
  try simp only [World.size_alloc] at cz fz sz
  try simp only [World.size_drew] at cz fz sz
  try simp only [World.size_setCell] at cz fz sz
  clear cz fz q0 q1
  have gX : GrX [rb] w1 wz := g4.gr gz
  have cI := fun i x hx => (gX.cell hbi (by simp; omega) (oi + i)).trans (hci.out i x hx)
  have i0 := cI 0 n0 rfl
  have i1 := cI 1 n1 rfl
  have i2 := cI 2 n2 rfl
  have i3 := cI 3 n3 rfl
  rw [Nat.add_zero] at i0
  have hRz := hR4.out.gr gz
  have gwz := gw4.trans gz
  have y0 := hRz.cell (i := 0) (v := .int .i64 0) rfl
  have y1 := hRz.cell (i := 1) (v := .int .i64 0) rfl
  have y2 := hRz.cell (i := 2) (v := .int .i64 0) rfl
  have y3 := hRz.cell (i := 3) (v := .int .i64 0) rfl
  have y4 := hRz.cell (i := 4) (v := .slice none 0 0) rfl
  have f0 := hRz.free 0
  have f1 := hRz.free 1
  have f2 := hRz.free 2
  have f3 := hRz.free 3
  have f4 := hRz.free 4
  clear cI
  replace hRz := Lib.hid hRz
  replace hci := Lib.hid hci
  go_upto_region 7 with fail
  go_region_held3 (fun w' => w'.cell? ⟨bi, oi, none⟩ = some (.int .i64 n0) ∧ w'.cell? ⟨bi, oi + 1, none⟩ = some (.int .i64 n1) ∧ w'.cell? ⟨bi, oi + 2, none⟩ = some (.int .i64 n2) ∧ w'.cell? ⟨bi, oi + 3, none⟩ = some (.int .i64 n3)) (simp (maxDischargeDepth := 8) [go_sem, *])
    (first
      | fail)
  go_wp2_with fail
  refine bodyPost_ret (v := .tuple #[.agg #[.int .i64 n0, .int .i64 n1, .int .i64 n2, .int .i64 n3, .slice a4 n c4], .bool true]) ?_ rfl ⟨a4, c4, rfl, ?_⟩
  · refine (res_cell (b := w.heap.size) (t := 24) Tryd.results23 _ _ ((hRz.out.set5 ?_ _ _ _ _ _).drew) ?_ Tryd.underlying24 (by kernel_rfl)).trans ?_
    · rfl
    · simp
    · simp
  · have hge : ∀ x, a4 = some x → w1.heap.size ≤ x.block := ho4.out.2.2.2
    have hzw : w.heap.size < w1.heap.size := hR1.out.lt
    have ho6 := ((ho4.out.gr gz).grx (((GrX.refl [w.heap.size] wz).set5 (b := w.heap.size) (by simp) (.int .i64 n0) (.int .i64 n1) (.int .i64 n2) (.int .i64 n3) (.slice a4 n c4))) (fun x hx => by have := hge x hx; simp; omega)).gr ((Gr.refl _).drew)
    have hL2 : (L.drop (k + j)).take n = L.drop (k + j) := List.take_of_length_le (by rw [List.length_drop]; have := he'.out; omega)
    rw [hL2] at ho6
    exact (ho6.older (W := w) (by omega)).own ((gwz.set5 (Nat.le_refl _) _ _ _ _ _).drew)
/-- The ways in which the reference refuses a frame as an answer. -/
def repNo (L : List UInt8) : Prop := numsR 4 L = none ∨ ∃ n0 n1 n2 n3 k, numsR 4 L = some ([n0, n1, n2, n3], k) ∧ ((∀ n j, numR (L.drop k) = some (n, j) → 16000 < n ∨ L.length - (k + j) < n) ∨ ∃ n j, numR (L.drop k) = some (n, j) ∧ n ≤ 16000 ∧ k + j + n < L.length)
theorem rep_cases (L : List UInt8) : repNo L ∨ ∃ n0 n1 n2 n3 k n j, numsR 4 L = some ([n0, n1, n2, n3], k) ∧ numR (L.drop k) = some (n, j) ∧ n ≤ 16000 ∧ k + j + n = L.length := by
  cases h : numsR 4 L with
  | none => exact .inl (.inl h)
  | some q =>
    obtain ⟨ns, k⟩ := q
    obtain ⟨n0, n1, n2, n3, rfl⟩ := fourN_of (numsR_get 4 L ns k h).1
    have hkl : k ≤ L.length := by
      have h1 := (numsR_get 4 L _ k h).2.2
      have h2 := congrArg List.length h1.1
      rw [List.length_append] at h2
      omega
    by_cases hb : ∀ n j, numR (L.drop k) = some (n, j) → 16000 < n ∨ L.length - (k + j) < n
    · exact .inl (.inr ⟨n0, n1, n2, n3, k, h, .inl hb⟩)
    · obtain ⟨n, hb⟩ := Classical.not_forall.1 hb
      obtain ⟨j, hb⟩ := Classical.not_forall.1 hb
      obtain ⟨hq, hb⟩ := Classical.not_imp.1 hb
      have hkb := (numR_bd hq).2.2.2
      dsimp only at hkb
      rw [List.length_drop] at hkb
      by_cases he : k + j + n = L.length
      · exact .inr ⟨n0, n1, n2, n3, k, n, j, rfl, hq, by omega, he⟩
      · exact .inl (.inr ⟨n0, n1, n2, n3, k, h, .inr ⟨n, j, hq, by omega, by omega⟩⟩)


set_option maxRecDepth 100000 in
set_option maxHeartbeats 6400000 in
theorem rGetReply_no (w : World) (b off c : Nat) (L : List UInt8) (hS : BytesAt w (some ⟨b, off, none⟩) (frameB L)) (hL : L.length ≤ 32768) (hc : (frameB L).length ≤ c) (hno : repNo L) :
    Calls Tryd.prog 23 #[.slice (some ⟨b, off, none⟩) (frameB L).length c] w fun e w' => e = .returned (.tuple #[repZ, .bool false]) ∧ Gr w w' := by
  rcases hno with h0 | ⟨n0, n1, n2, n3, k, hk, hbad⟩
  · exact rGetReply_shut w _ (fun w1 g => rnumbers_none w1 b off c 4 L (hS.gr g) hL hc (by decide) h0)
  · have hnb := rnumbers_yes (w.alloc (.cells #[.int .i64 0, .int .i64 0, .int .i64 0, .int .i64 0, .slice none 0 0] 24)) b off c 4 L (hS.gr ((Gr.refl w).alloc _)) hL hc (by decide) hk
    obtain ⟨N, hN⟩ : ∃ N, (frameB L).length = N := ⟨_, rfl⟩
    rw [hN] at hnb ⊢
    replace hN := Lib.hid hN
    replace hnb := Lib.hid hnb
    replace hS := Lib.hid hS
    replace hk := Lib.hid hk
    rcases hbad with hb1 | ⟨n, j, hq, hn, hlt⟩
    · replace hb1 := Lib.hid hb1
      go_enter Tryd.func23, Tryd.ntmps23
      go_wp2_with fail
      refine hnb.out.mono ?_
      rintro e w1 ⟨a1, c1, rb, rfl, hi1, hy1, hr1, hz1, g1⟩
      have hR1 : Blk w1 w.heap.size #[.int .i64 0, .int .i64 0, .int .i64 0, .int .i64 0, .slice none 0 0] 24 := (Blk.new w _ _).gr g1
      have gw1 : Gr w w1 := ((Gr.refl w).alloc _).trans g1
      have hby := rrbytes_no w1 rb L k 16000 hr1 (fun v i hv => by have := hb1.out v i hv; omega)
      replace hi1 := Lib.hid hi1
      replace hy1 := Lib.hid hy1
      replace hr1 := Lib.hid hr1
      replace hR1 := Lib.hid hR1
      replace hby := Lib.hid hby
      go_wp2_with fail
      refine hby.out.mono ?_
      rintro e w4 ⟨rfl, g4⟩
      have hR4 := hR1.out.gr g4
      have gw4 := gw1.trans g4
      replace hR4 := Lib.hid hR4
      go_upto_region 5 with fail
      refine wp_region_grows (by kernel_rfl) (by kernel_rfl) ?_
      repeat (any_goals (first | go_big_quiet_step (first | fail) | quiet_step (first | fail)))
      refine wpQuiet_nil ?_
      intro wz hwq
      have gz := GrW.of hwq
      clear hwq
      obtain ⟨cz, fz, sz⟩ := gz.cells
      try simp only [size_drewN] at cz fz sz
      try simp only [World.size_alloc] at cz fz sz
      try simp only [World.size_drew] at cz fz sz
      try simp only [World.size_setCell] at cz fz sz
      clear cz fz
      have hRz := hR4.out.gr gz
      have gwz := gw4.trans gz
      have y0 := hRz.cell (i := 0) (v := .int .i64 0) rfl
      have y1 := hRz.cell (i := 1) (v := .int .i64 0) rfl
      have y2 := hRz.cell (i := 2) (v := .int .i64 0) rfl
      have y3 := hRz.cell (i := 3) (v := .int .i64 0) rfl
      have y4 := hRz.cell (i := 4) (v := .slice none 0 0) rfl
      have f0 := hRz.free 0
      have f1 := hRz.free 1
      have f2 := hRz.free 2
      have f3 := hRz.free 3
      have f4 := hRz.free 4
      replace hRz := Lib.hid hRz
      go_wp2_with fail
      refine bodyPost_ret (v := .tuple #[repZ, .bool false]) ?_ rfl ⟨rfl, ?_⟩
      · refine (res_cell (b := w.heap.size) (t := 24) Tryd.results23 _ _ (hRz.out.set5 ?_ _ _ _ _ _) ?_ Tryd.underlying24 (by kernel_rfl)).trans ?_
        · rfl
        · simp
        · simp
      · exact gwz.set5 (Nat.le_refl _) _ _ _ _ _
    · replace hq := Lib.hid hq
      go_enter Tryd.func23, Tryd.ntmps23
      go_wp2_with fail
      refine hnb.out.mono ?_
      rintro e w1 ⟨a1, c1, rb, rfl, hi1, hy1, hr1, hz1, g1⟩
      have hR1 : Blk w1 w.heap.size #[.int .i64 0, .int .i64 0, .int .i64 0, .int .i64 0, .slice none 0 0] 24 := (Blk.new w _ _).gr g1
      have gw1 : Gr w w1 := ((Gr.refl w).alloc _).trans g1
      simp only [World.size_alloc] at hz1
      have hby := rrbytes_yes w1 rb L k 16000 hr1 hq.out (by omega) (by omega)
      replace hi1 := Lib.hid hi1
      replace hy1 := Lib.hid hy1
      replace hr1 := Lib.hid hr1
      replace hR1 := Lib.hid hR1
      replace hby := Lib.hid hby
      go_wp2_with fail
      refine hby.out.mono ?_
      rintro e w4 ⟨a4, c4, rfl, ho4, hr4, g4⟩
      have hR4 := hR1.out.grx g4 (by simp; omega)
      have gw4 : Gr w w4 := GrX.all gw1 g4 (fun x hx => by simp at hx; omega)
      obtain ⟨ar, cr, hbr4, -⟩ := hr4
      obtain ⟨u, hu⟩ : ∃ u, k + j + n = u := ⟨_, rfl⟩
      rw [hu] at hbr4 hlt
      have q0 := GrW.cell (hbr4.cell (i := 0) (v := .slice ar L.length cr) rfl)
      have q1 := GrW.cell (hbr4.cell (i := 1) (v := .int .i64 (u : Nat)) rfl)
      have hne : ((u : Int) != (L.length : Int)) = true := bne_iff_ne.2 (by omega)
      replace hu := Lib.hid hu
      replace hbr4 := Lib.hid hbr4
      replace hR4 := Lib.hid hR4
      replace ho4 := Lib.hid ho4
      go_upto_region 5 with fail
      refine wp_region_grows (by kernel_rfl) (by kernel_rfl) ?_
      repeat (any_goals (first | go_big_quiet_step (first | fail) | quiet_step (first | fail)))
      refine wpQuiet_nil ?_
      intro wz hwq
      have gz := GrW.of hwq
      clear hwq
      obtain ⟨cz, fz, sz⟩ := gz.cells
      try simp only [size_drewN] at cz fz sz
      try simp only [World.size_alloc] at cz fz sz
      try simp only [World.size_drew] at cz fz sz
      try simp only [World.size_setCell] at cz fz sz
      clear cz fz q0 q1
      have hRz := hR4.out.gr gz
      have gwz := gw4.trans gz
      have y0 := hRz.cell (i := 0) (v := .int .i64 0) rfl
      have y1 := hRz.cell (i := 1) (v := .int .i64 0) rfl
      have y2 := hRz.cell (i := 2) (v := .int .i64 0) rfl
      have y3 := hRz.cell (i := 3) (v := .int .i64 0) rfl
      have y4 := hRz.cell (i := 4) (v := .slice none 0 0) rfl
      have f0 := hRz.free 0
      have f1 := hRz.free 1
      have f2 := hRz.free 2
      have f3 := hRz.free 3
      have f4 := hRz.free 4
      replace hRz := Lib.hid hRz
      go_wp2_with fail
      refine bodyPost_ret (v := .tuple #[repZ, .bool false]) ?_ rfl ⟨rfl, ?_⟩
      · refine (res_cell (b := w.heap.size) (t := 24) Tryd.results23 _ _ (hRz.out.set5 ?_ _ _ _ _ _) ?_ Tryd.underlying24 (by kernel_rfl)).trans ?_
        · rfl
        · simp
        · simp
      · exact gwz.set5 (Nat.le_refl _) _ _ _ _ _


set_option maxRecDepth 100000 in
set_option maxHeartbeats 1600000 in
theorem getReply_shut {E : Nat → Addr} (w : World) (s : Value)
    (hO : ∀ w1, Gr w w1 → Calls Tryd.prog 30 #[s] w1 fun e w' => e = .returned (.tuple #[.pointer none, (Value.iface 137 (.pointer (some (E 1))))]) ∧ Gr w1 w') :
    Calls Tryd.prog 14 #[s] w fun e w' => e = .returned (.tuple #[repZ, (Value.iface 137 (.pointer (some (E 1))))]) ∧ Gr w w' := by
  replace hO := Lib.hid hO
  go_enter Tryd.func14, Tryd.ntmps14
  go_wp2_with fail
  refine (hO.out _ ((Gr.refl w).alloc _)).mono ?_
  rintro e wa ⟨rfl, ga⟩
  obtain ⟨ca, fa, sa⟩ := ga.cells
  try simp only [size_drewN] at ca fa sa
  try simp only [World.size_alloc] at ca fa sa
  try simp only [World.size_drew] at ca fa sa
  try simp only [World.size_setCell] at ca fa sa
  have za0 : w.heap.size < wa.heap.size := by omega
  have ya0 : w.heap.size ≤ wa.heap.size := by omega
  have ka0 := fun o => ca (w.heap.size) o (by omega)
  have ja0 := fun o => fa (w.heap.size) o (by omega)
  go_wp2_with fail
  refine bodyPost_ret (v := .tuple #[repZ, (Value.iface 137 (.pointer (some (E 1))))]) ?_ rfl ⟨rfl, ?_⟩
  · refine (res_cell (b := w.heap.size) (t := 24) Tryd.results14 _ _ (((Blk.new w _ _).gr ga).set5 rfl _ _ _ _ _) ?_ Tryd.underlying24 (by kernel_rfl)).trans ?_
    · simp
    · simp
  · exact (((Gr.refl w).alloc _).trans ga).set5 (Nat.le_refl _) _ _ _ _ _
set_option maxRecDepth 100000 in
set_option maxHeartbeats 3200000 in
theorem getReply_nums {G : List Nat} {E : Nat → Addr} (w : World) (hE : EAt G E w) (i1 : 1 ∈ G) (b off c : Nat) (L : List UInt8) (hS : BytesAt w (some ⟨b, off, none⟩) (frameB L)) (hL : L.length ≤ 32768) (hc : (frameB L).length ≤ c) (hk : numsR 4 L = none) :
    Calls Tryd.prog 14 #[.slice (some ⟨b, off, none⟩) (frameB L).length c] w fun e w' => e = .returned (.tuple #[repZ, (Value.iface 137 (.pointer (some (E 1))))]) ∧ Gr w w' := by
  have hop := opened_yes (w.alloc (.cells #[.int .i64 0, .int .i64 0, .int .i64 0, .int .i64 0, .slice none 0 0] 24)) b off c L (hS.gr ((Gr.refl w).alloc _)) hL hc
  obtain ⟨N, hN⟩ : ∃ N, (frameB L).length = N := ⟨_, rfl⟩
  rw [hN] at hop ⊢
  replace hN := Lib.hid hN
  replace hop := Lib.hid hop
  replace hS := Lib.hid hS
  replace hk := Lib.hid hk
  go_enter Tryd.func14, Tryd.ntmps14
  go_wp2_with fail
  refine hop.out.mono ?_
  rintro e w1 ⟨rb, rfl, hr1, hr2, g1⟩
  have hb1 : Blk w1 w.heap.size #[.int .i64 0, .int .i64 0, .int .i64 0, .int .i64 0, .slice none 0 0] 24 := (Blk.new w _ _).gr g1
  have gw1 : Gr w w1 := ((Gr.refl w).alloc _).trans g1
  have z1 := gw1.size
  have z2 := g1.size
  simp only [World.size_alloc] at z2 hr2
  obtain ⟨ab, hab⟩ : ∃ ab, w1.heap.size = ab := ⟨_, rfl⟩
  rw [hab] at z1 hr1
  have hr2' : RdAt (· ≠ ab) w1 rb L 0 := hr1.mono (fun b hb => by omega)
  have hrl : rb < ab := by obtain ⟨_, _, hh, _⟩ := hr1; have := hh.lt; omega
  replace hr1 := Lib.hid hr1
  replace hr2' := Lib.hid hr2'
  replace hb1 := Lib.hid hb1
  go_wp2_with fail
  refine (numbers_no w _ hE i1 ((gw1.alloc _).alloc _) rb ab (ab + 1) 4 L 0 #[.int .i64 0, .int .i64 0, .int .i64 0, .int .i64 0, .slice none 0 0] 24 ((hr2'.out.gr ((Gr.refl w1).alloc _)).gr ((Gr.refl _).alloc _)) (by omega) (by omega) (by omega) (by omega) (by omega) (by simp; omega) ((Blk.new1 hab).alloc _) (by decide) (by decide) (ptrs4 (t := 71) (Blk.new1 (by simp [hab]))) hk.out).mono ?_
  rintro e w3 ⟨rfl, g3⟩
  have gw3 : Gr w w3 := GrX.all ((gw1.alloc _).alloc _) g3 (fun x hx => by simp at hx; rcases hx with rfl | rfl <;> omega)
  have hc3 : Blk w3 w.heap.size #[.int .i64 0, .int .i64 0, .int .i64 0, .int .i64 0, .slice none 0 0] 24 := ((hb1.out.alloc _).alloc _).grx g3 (by simp; omega)
  have y0 := hc3.cell (i := 0) (v := .int .i64 0) rfl
  have gy0 := hc3.free 0
  have y1 := hc3.cell (i := 1) (v := .int .i64 0) rfl
  have gy1 := hc3.free 1
  have y2 := hc3.cell (i := 2) (v := .int .i64 0) rfl
  have gy2 := hc3.free 2
  have y3 := hc3.cell (i := 3) (v := .int .i64 0) rfl
  have gy3 := hc3.free 3
  have y4 := hc3.cell (i := 4) (v := .slice none 0 0) rfl
  have gy4 := hc3.free 4
  clear g3
  replace hc3 := Lib.hid hc3
  go_wp2_with fail
  refine bodyPost_ret (v := .tuple #[repZ, (Value.iface 137 (.pointer (some (E 1))))]) ?_ rfl ⟨rfl, ?_⟩
  · refine (res_cell (b := w.heap.size) (t := 24) Tryd.results14 _ _ (hc3.out.set5 rfl _ _ _ _ _) ?_ Tryd.underlying24 (by kernel_rfl)).trans ?_
    · simp
    · simp
  · exact gw3.set5 (Nat.le_refl _) _ _ _ _ _
set_option maxRecDepth 100000 in
set_option maxHeartbeats 3200000 in
theorem getReply_bytes {G : List Nat} {E : Nat → Addr} (w : World) (hE : EAt G E w) (i1 : 1 ∈ G) (b off c : Nat) (L : List UInt8) (hS : BytesAt w (some ⟨b, off, none⟩) (frameB L)) (hL : L.length ≤ 32768) (hc : (frameB L).length ≤ c) (n0 n1 n2 n3 k : Nat) (hk : numsR 4 L = some ([n0, n1, n2, n3], k)) (hbad : ∀ n j, numR (L.drop k) = some (n, j) → 16000 < n ∨ L.length - (k + j) < n) :
    Calls Tryd.prog 14 #[.slice (some ⟨b, off, none⟩) (frameB L).length c] w fun e w' => e = .returned (.tuple #[repZ, (Value.iface 137 (.pointer (some (E 1))))]) ∧ Gr w w' := by
  have hop := opened_yes (w.alloc (.cells #[.int .i64 0, .int .i64 0, .int .i64 0, .int .i64 0, .slice none 0 0] 24)) b off c L (hS.gr ((Gr.refl w).alloc _)) hL hc
  obtain ⟨N, hN⟩ : ∃ N, (frameB L).length = N := ⟨_, rfl⟩
  rw [hN] at hop ⊢
  replace hN := Lib.hid hN
  replace hop := Lib.hid hop
  replace hS := Lib.hid hS
  replace hk := Lib.hid hk
  replace hbad := Lib.hid hbad
  go_enter Tryd.func14, Tryd.ntmps14
  go_wp2_with fail
  refine hop.out.mono ?_
  rintro e w1 ⟨rb, rfl, hr1, hr2, g1⟩
  have hb1 : Blk w1 w.heap.size #[.int .i64 0, .int .i64 0, .int .i64 0, .int .i64 0, .slice none 0 0] 24 := (Blk.new w _ _).gr g1
  have gw1 : Gr w w1 := ((Gr.refl w).alloc _).trans g1
  have z1 := gw1.size
  have z2 := g1.size
  simp only [World.size_alloc] at z2 hr2
  obtain ⟨ab, hab⟩ : ∃ ab, w1.heap.size = ab := ⟨_, rfl⟩
  rw [hab] at z1 hr1
  have hr2' : RdAt (· ≠ ab) w1 rb L 0 := hr1.mono (fun b hb => by omega)
  have hrl : rb < ab := by obtain ⟨_, _, hh, _⟩ := hr1; have := hh.lt; omega
  replace hr1 := Lib.hid hr1
  replace hr2' := Lib.hid hr2'
  replace hb1 := Lib.hid hb1
  go_wp2_with fail
  refine (numbers_yes w _ hE i1 ((gw1.alloc _).alloc _) rb ab (ab + 1) 4 L 0 #[.int .i64 0, .int .i64 0, .int .i64 0, .int .i64 0, .slice none 0 0] 24 ((hr2'.out.gr ((Gr.refl w1).alloc _)).gr ((Gr.refl _).alloc _)) (by omega) (by omega) (by omega) (by omega) (by omega) (by simp; omega) ((Blk.new1 hab).alloc _) (by decide) (by decide) (ptrs4 (t := 71) (Blk.new1 (by simp [hab]))) hk.out).mono ?_
  rintro e w3 ⟨rfl, g3, hr3, hb3⟩
  have gw3 : Gr w w3 := GrX.all ((gw1.alloc _).alloc _) g3 (fun x hx => by simp at hx; rcases hx with rfl | rfl <;> omega)
  have hb3' : Blk w3 ab #[.int .i64 n0, .int .i64 n1, .int .i64 n2, .int .i64 n3, .slice none 0 0] 24 := hb3
  have hc3 : Blk w3 w.heap.size #[.int .i64 0, .int .i64 0, .int .i64 0, .int .i64 0, .slice none 0 0] 24 := ((hb1.out.alloc _).alloc _).grx g3 (by simp; omega)
  rw [Nat.zero_add] at hr3
  have zab := hb3'.lt
  have hby := rbytes_no w3 rb L k 16000 hr3 (hE.gr gw3) i1 (fun v i hv => by have := hbad.out v i hv; omega)
  clear g3 hb3
  replace hr3 := Lib.hid hr3
  replace hb3' := Lib.hid hb3'
  replace hc3 := Lib.hid hc3
  replace hby := Lib.hid hby
  go_wp2_with fail
  refine hby.out.mono ?_
  rintro e w4 ⟨rfl, g4⟩
  have hb4 := hb3'.out.gr g4
  have hc4 := hc3.out.gr g4
  have gw4 := gw3.trans g4
  have e4 := hb4.cell (i := 4) (v := .slice none 0 0) rfl
  have f4 := hb4.free 4
  obtain ⟨w5, hw5⟩ : ∃ w5, w5 = w4.setCell ⟨ab, 4, none⟩ (.slice none 0 0) := ⟨_, rfl⟩
  have g5 : GrX [ab] w4 w5 := by rw [hw5]; exact (GrX.refl _ _).set (.inl (by simp)) _
  have hc5 := hc4.grx g5 (by simp; omega)
  have gw5 : Gr w w5 := GrX.all gw4 g5 (fun x hx => by simp at hx; omega)
  have he := (hE.gr gw5).c0 i1
  have hl1 := hE.lt _ i1
  have y0 := hc5.cell (i := 0) (v := .int .i64 0) rfl
  have gy0 := hc5.free 0
  have y1 := hc5.cell (i := 1) (v := .int .i64 0) rfl
  have gy1 := hc5.free 1
  have y2 := hc5.cell (i := 2) (v := .int .i64 0) rfl
  have gy2 := hc5.free 2
  have y3 := hc5.cell (i := 3) (v := .int .i64 0) rfl
  have gy3 := hc5.free 3
  have y4 := hc5.cell (i := 4) (v := .slice none 0 0) rfl
  have gy4 := hc5.free 4
  replace hw5 := Lib.hid hw5
  replace hb4 := Lib.hid hb4
  replace hc4 := Lib.hid hc4
  replace hc5 := Lib.hid hc5
  go_upto_region 9 with fail
  rw [← hw5.out]
  go_upto_region 10 with fail
  go_region_held3 (fun w' => w'.cell? ⟨1, 0, none⟩ = some (.iface 137 (.pointer (some (E 1))))) (simp (maxDischargeDepth := 8) [go_sem, *])
    (first
      | fail)
  go_wp2_with fail
  refine bodyPost_ret (v := .tuple #[repZ, (Value.iface 137 (.pointer (some (E 1))))]) ?_ rfl ⟨rfl, ?_⟩
  · refine (res_cell (b := w.heap.size) (t := 24) Tryd.results14 _ _ ((hc5.out.set5 rfl _ _ _ _ _).drew) ?_ Tryd.underlying24 (by kernel_rfl)).trans ?_
    · simp
    · simp
  · exact (gw5.set5 (Nat.le_refl _) _ _ _ _ _).drew
set_option maxRecDepth 100000 in
set_option maxHeartbeats 3200000 in
theorem getReply_end {G : List Nat} {E : Nat → Addr} (w : World) (hE : EAt G E w) (i1 : 1 ∈ G) (b off c : Nat) (L : List UInt8) (hS : BytesAt w (some ⟨b, off, none⟩) (frameB L)) (hL : L.length ≤ 32768) (hc : (frameB L).length ≤ c) (n0 n1 n2 n3 k n j : Nat) (hk : numsR 4 L = some ([n0, n1, n2, n3], k)) (hq : numR (L.drop k) = some (n, j)) (hn : n ≤ 16000) (hlt : k + j + n < L.length) :
    Calls Tryd.prog 14 #[.slice (some ⟨b, off, none⟩) (frameB L).length c] w fun e w' => e = .returned (.tuple #[repZ, (Value.iface 137 (.pointer (some (E 1))))]) ∧ Gr w w' := by
  have hop := opened_yes (w.alloc (.cells #[.int .i64 0, .int .i64 0, .int .i64 0, .int .i64 0, .slice none 0 0] 24)) b off c L (hS.gr ((Gr.refl w).alloc _)) hL hc
  obtain ⟨N, hN⟩ : ∃ N, (frameB L).length = N := ⟨_, rfl⟩
  rw [hN] at hop ⊢
  replace hN := Lib.hid hN
  replace hop := Lib.hid hop
  replace hS := Lib.hid hS
  replace hk := Lib.hid hk
  replace hq := Lib.hid hq
  go_enter Tryd.func14, Tryd.ntmps14
  go_wp2_with fail
  refine hop.out.mono ?_
  rintro e w1 ⟨rb, rfl, hr1, hr2, g1⟩
  have hb1 : Blk w1 w.heap.size #[.int .i64 0, .int .i64 0, .int .i64 0, .int .i64 0, .slice none 0 0] 24 := (Blk.new w _ _).gr g1
  have gw1 : Gr w w1 := ((Gr.refl w).alloc _).trans g1
  have z1 := gw1.size
  have z2 := g1.size
  simp only [World.size_alloc] at z2 hr2
  obtain ⟨ab, hab⟩ : ∃ ab, w1.heap.size = ab := ⟨_, rfl⟩
  rw [hab] at z1 hr1
  have hr2' : RdAt (· ≠ ab) w1 rb L 0 := hr1.mono (fun b hb => by omega)
  have hrl : rb < ab := by obtain ⟨_, _, hh, _⟩ := hr1; have := hh.lt; omega
  replace hr1 := Lib.hid hr1
  replace hr2' := Lib.hid hr2'
  replace hb1 := Lib.hid hb1
  go_wp2_with fail
  refine (numbers_yes w _ hE i1 ((gw1.alloc _).alloc _) rb ab (ab + 1) 4 L 0 #[.int .i64 0, .int .i64 0, .int .i64 0, .int .i64 0, .slice none 0 0] 24 ((hr2'.out.gr ((Gr.refl w1).alloc _)).gr ((Gr.refl _).alloc _)) (by omega) (by omega) (by omega) (by omega) (by omega) (by simp; omega) ((Blk.new1 hab).alloc _) (by decide) (by decide) (ptrs4 (t := 71) (Blk.new1 (by simp [hab]))) hk.out).mono ?_
  rintro e w3 ⟨rfl, g3, hr3, hb3⟩
  have gw3 : Gr w w3 := GrX.all ((gw1.alloc _).alloc _) g3 (fun x hx => by simp at hx; rcases hx with rfl | rfl <;> omega)
  have hb3' : Blk w3 ab #[.int .i64 n0, .int .i64 n1, .int .i64 n2, .int .i64 n3, .slice none 0 0] 24 := hb3
  have hc3 : Blk w3 w.heap.size #[.int .i64 0, .int .i64 0, .int .i64 0, .int .i64 0, .slice none 0 0] 24 := ((hb1.out.alloc _).alloc _).grx g3 (by simp; omega)
  rw [Nat.zero_add] at hr3
  have zab := hb3'.lt
  have hby := rbytes_yes w3 rb L k 16000 hr3 hq.out (by omega) (by omega)
  clear g3 hb3
  replace hr3 := Lib.hid hr3
  replace hb3' := Lib.hid hb3'
  replace hc3 := Lib.hid hc3
  replace hby := Lib.hid hby
  go_wp2_with fail
  refine hby.out.mono ?_
  rintro e w4 ⟨a4, c4, rfl, ho4, hr4, g4⟩
  have hb4 := hb3'.out.grx g4 (by simp; omega)
  have hc4 := hc3.out.grx g4 (by simp; omega)
  have gw4 : Gr w w4 := GrX.all gw3 g4 (fun x hx => by simp at hx; omega)
  have e4 := hb4.cell (i := 4) (v := .slice none 0 0) rfl
  have f4 := hb4.free 4
  obtain ⟨w5, hw5⟩ : ∃ w5, w5 = w4.setCell ⟨ab, 4, none⟩ (.slice a4 n c4) := ⟨_, rfl⟩
  have g5 : GrX [ab] w4 w5 := by rw [hw5]; exact (GrX.refl _ _).set (.inl (by simp)) _
  have hc5 := hc4.grx g5 (by simp; omega)
  have hr5 := hr4.grx g5 (by simp; omega) (fun b hb => by simpa using hb)
  have gw5 : Gr w w5 := GrX.all gw4 g5 (fun x hx => by simp at hx; omega)
  have hen := rend_no w5 rb L _ hr5 hlt (hE.gr gw5) i1
  replace hw5 := Lib.hid hw5
  replace hr5 := Lib.hid hr5
  replace hr4 := Lib.hid hr4
  replace hb4 := Lib.hid hb4
  replace hc4 := Lib.hid hc4
  replace hc5 := Lib.hid hc5
  replace hen := Lib.hid hen
  replace ho4 := Lib.hid ho4
  go_upto_region 9 with fail
  rw [← hw5.out]
  go_wp2_with fail
  refine hen.out.mono ?_
  rintro e w6 ⟨rfl, g6⟩
  have hc6 := hc5.out.gr g6
  have gw6 := gw5.trans g6
  have he := (hE.gr gw6).c0 i1
  have hl1 := hE.lt _ i1
  have y0 := hc6.cell (i := 0) (v := .int .i64 0) rfl
  have gy0 := hc6.free 0
  have y1 := hc6.cell (i := 1) (v := .int .i64 0) rfl
  have gy1 := hc6.free 1
  have y2 := hc6.cell (i := 2) (v := .int .i64 0) rfl
  have gy2 := hc6.free 2
  have y3 := hc6.cell (i := 3) (v := .int .i64 0) rfl
  have gy3 := hc6.free 3
  have y4 := hc6.cell (i := 4) (v := .slice none 0 0) rfl
  have gy4 := hc6.free 4
  replace hc6 := Lib.hid hc6
  go_upto_region 10 with fail
  go_region_held3 (fun w' => w'.cell? ⟨1, 0, none⟩ = some (.iface 137 (.pointer (some (E 1))))) (simp (maxDischargeDepth := 8) [go_sem, *])
    (first
      | fail)
  go_wp2_with fail
  refine bodyPost_ret (v := .tuple #[repZ, (Value.iface 137 (.pointer (some (E 1))))]) ?_ rfl ⟨rfl, ?_⟩
  · refine (res_cell (b := w.heap.size) (t := 24) Tryd.results14 _ _ ((hc6.out.set5 rfl _ _ _ _ _).drew) ?_ Tryd.underlying24 (by kernel_rfl)).trans ?_
    · simp
    · simp
  · exact (gw6.set5 (Nat.le_refl _) _ _ _ _ _).drew
theorem getReply_no {G : List Nat} {E : Nat → Addr} (w : World) (hE : EAt G E w) (i1 : 1 ∈ G) (b off c : Nat) (L : List UInt8) (hS : BytesAt w (some ⟨b, off, none⟩) (frameB L)) (hL : L.length ≤ 32768) (hc : (frameB L).length ≤ c) (hno : repNo L) :
    Calls Tryd.prog 14 #[.slice (some ⟨b, off, none⟩) (frameB L).length c] w fun e w' => e = .returned (.tuple #[repZ, (Value.iface 137 (.pointer (some (E 1))))]) ∧ Gr w w' := by
  rcases hno with h0 | ⟨n0, n1, n2, n3, k, hk, hb1 | ⟨n, j, hq, hn, hlt⟩⟩
  · exact getReply_nums w hE i1 b off c L hS hL hc h0
  · exact getReply_bytes w hE i1 b off c L hS hL hc n0 n1 n2 n3 k hk hb1
  · exact getReply_end w hE i1 b off c L hS hL hc n0 n1 n2 n3 k n j hk hq hn hlt
end Go.Proofs.YtlgbnjaoadlolaaDoor
