/- The law PlanOrders. -/
import Derived.Test.YtkfkfcfbcfcbkaaDoorA4
import Derived.Test.YtkfkfcfbcfcbkaaDoorA5
import Derived.Test.YtkfkfcfbcfcbkaaDoorA8
import Derived.Test.YtkfkfcfbcfcbkaaDoorL2
import Derived.OneCell
namespace Go.Proofs.YtkfkfcfbcfcbkaaDoor
open Go.ChangeShapes Go.WideShapes Go.ChangeAt Go.RowKit Go.Deep Go.Joins

set_option maxRecDepth 100000 in
theorem srvs_cap {H : Type} {enc : TypeId × Value → H} {W : World} {d : DataW H} {p : List MemPlace} {a : Option Addr} {n c : Nat} (h : DataW.Trod enc Tryd.prog W 0 (fun _ => true) true 22 (.slice a n c) d p) : n ≤ c := by
  obtain ⟨fuel, hf⟩ := h
  rcases open_slice_fields Tryd.underlying22 Tryd.underlying27 (by kernel_rfl) (by kernel_rfl) hf with ⟨hcs, _⟩ | ⟨a, len', cap', m, D, Pl, hcs, _, hl, hm, hmm, hx, hi⟩
  · simp [Value.cells] at hcs
    omega
  · simp [Value.cells] at hcs
    omega

section
variable {α : Type} {k : Nat} {enc : α → List Value}
/-- append([]T{}, src...): a copy of the source, which the call owns. -/
theorem wpList_copy_own {P : Program} {w : World} {ops : Array Oper} {rest : List Oper} {o : Oper} {a : Act} {Q : Exit → Act → World → Prop} (hgd : o.guard = none) (s x : Operand) (t : TypeId)
    (ho : o.op = .call { callee := .builtin .append, args := #[s, x], argTypes := #[t, t] })
    (e : TypeId) (i : TypeInfo) (z : Value) (bytes : Nat) (ht : P.underlying t = some (.slice e)) (hi : P.info? e = some i) (hz : i.zero = some z)
    (hsize : i.size = k) (hby : i.bytes = bytes) (hzs : z.cells.size = k) (hsz : 0 < k)
    (hk : ∀ s, (enc s).length = k) (h1 : ∀ s, ∀ u ∈ enc s, u.oneCell' = true) (N : Nat) (hN : w.heap.size = N) (hs : a.eval s = .slice (some ⟨N, 0, none⟩) 0 0)
    (sa : Option Addr) (c : Nat) (l : List α) (hx : a.eval x = .slice sa l.length c) (hl : RecsAt k enc w sa l) (hc : sa = none → c = 0)
    (h63 : l.length ≤ maxLen) (hbytes : l.length * bytes ≤ 140737488355328)
    (h : ∀ v' w', w'.ownsRow w.heap.size e k v' l.length (l.flatMap enc) → Gr w w' → wpList P ops Q rest (a.put o.dst v') w') : wpList P ops Q (o :: rest) a (w.alloc (.cells #[] e)) := by
  subst hN
  have hl' : RecsAt k enc (w.alloc (.cells #[] e)) sa l := by
    intro i s hi
    obtain ⟨b, off, ha, hb, hcl⟩ := hl i s hi
    exact ⟨b, off, ha, by simp; omega, fun j u hu => by rw [((Gr.refl w).alloc (.cells #[] e)).cells.1 _ _ hb]; exact hcl j u hu⟩
  refine wpList_append_recs (k := k) (enc := enc) hgd s x t ho w.heap.size e i z bytes ht hi hz hsize hby hzs hsz hk h1 (.slice (some ⟨w.heap.size, 0, none⟩) 0 0) [] hs (owns_empty w e k _ rfl _ (Nat.le_refl _)) sa c l hx hl' hc (by simpa using h63) (by simpa using hbytes) (by simp) ?_
  intro v' w' hown hgr
  exact h v' w' hown (((Gr.refl w).alloc _).grown hgr (by simp [Value.ownBlock]))

/-- An owned slice of some items: its block. -/
theorem owned_block {w : World} {base : Nat} {e : TypeId} {v : Value} {l : List α} (hk : ∀ s, (enc s).length = k) (h : w.ownsRow base e k v l.length (l.flatMap enc)) (hl : 0 < l.length) :
    ∃ g c, v = .slice (some ⟨g, 0, none⟩) l.length c ∧ base ≤ g ∧ g < w.heap.size ∧ RecsAt k enc w (some ⟨g, 0, none⟩) l ∧ ∀ o, w.frozen? ⟨g, o, none⟩ = false := by
  obtain ⟨_, h1 | ⟨g, cap, cur, hv, hg, hh, _⟩⟩ := id h
  · omega
  · obtain ⟨a', c', hv', hr, _, _⟩ := recs_of_owns hk h
    rw [hv] at hv'
    cases hv'
    exact ⟨g, cap, hv, hg, (Array.getElem?_eq_some_iff.1 hh).1, hr, fun o => by simp [World.frozen?, hh]⟩
end

theorem shareS_perm {l m : List Srv} (h : l.Perm m) : shareS l = shareS m := by
  have key : ∀ (l m : List Srv), l.Perm m → ∀ p, l.foldl (fun p s => plusP p s.q s.t) p = m.foldl (fun p s => plusP p s.q s.t) p := by
    intro l m h
    induction h with
    | nil => intro p; rfl
    | cons x _ ih => intro p; exact ih _
    | swap x y l =>
      intro p
      rw [List.foldl_cons, List.foldl_cons, List.foldl_cons, List.foldl_cons]
      congr 1
      simp only [plusP]
      refine Prod.ext ?_ ?_
      · simp only [Int.add_mul, Int.mul_assoc]
        rw [Int.mul_comm y.t x.t, Int.mul_comm y.q x.t, Int.mul_comm y.t x.q]
        omega
      · simp only [Int.mul_assoc]; rw [Int.mul_comm y.t]
    | trans _ _ ih1 ih2 => intro p; rw [ih1, ih2]
  exact key l m h _

theorem allLeg_perm {l m : List Srv} (h : l.Perm m) : allLeg l = allLeg m := h.all_eq

theorem srv_cells {w : World} {g : Nat} {l : List Srv} (h : RecsAt 3 Srv.cells w (some ⟨g, 0, none⟩) l) {i : Nat} {s : Srv} (hs : l[i]? = some s) :
    w.cell? ⟨g, i * 3, none⟩ = some (.int .i64 s.k) ∧ w.cell? ⟨g, i * 3 + 1, none⟩ = some (.int .i64 s.q) ∧ w.cell? ⟨g, i * 3 + 2, none⟩ = some (.int .i64 s.t) := by
  obtain ⟨b, off, he, _, h0, h1, h2⟩ := (recs_srvs h) i s hs
  cases he
  simp only [Nat.zero_add] at h0 h1 h2
  exact ⟨h0, h1, h2⟩

theorem set_rec {w : World} {g : Nat} {l : List Srv} (h : RecsAt 3 Srv.cells w (some ⟨g, 0, none⟩) l) {i : Nat} (hi : i < l.length) (s : Srv) :
    RecsAt 3 Srv.cells (((w.setCell ⟨g, i * 3, none⟩ (.int .i64 s.k)).setCell ⟨g, i * 3 + 1, none⟩ (.int .i64 s.q)).setCell ⟨g, i * 3 + 2, none⟩ (.int .i64 s.t)) (some ⟨g, 0, none⟩) (l.set i s) := by
  obtain ⟨x, hx⟩ := get_some l i hi
  obtain ⟨x0, x1, x2⟩ := srv_cells h hx
  refine srvs_recs (fun m y hy => ?_)
  obtain ⟨b, off, he, hb, _⟩ := h i x hx
  cases he
  refine ⟨g, 0, rfl, by simpa using hb, ?_⟩
  simp only [Nat.zero_add]
  by_cases hm : i = m
  · subst hm
    rw [List.getElem?_set_self hi] at hy
    cases hy
    simp [go_sem, *]
  · rw [List.getElem?_set_ne hm] at hy
    obtain ⟨y0, y1, y2⟩ := srv_cells h hy
    have d0 : i * 3 ≠ m * 3 := by omega
    have d1 : i * 3 ≠ m * 3 + 1 := by omega
    have d2 : i * 3 ≠ m * 3 + 2 := by omega
    have d3 : i * 3 + 1 ≠ m * 3 := by omega
    have d4 : i * 3 + 2 ≠ m * 3 := by omega
    have d5 : i * 3 + 1 ≠ m * 3 + 2 := by omega
    have d6 : i * 3 + 2 ≠ m * 3 + 1 := by omega
    have d7 : i * 3 + 1 ≠ m * 3 + 1 := by omega
    have d8 : i * 3 + 2 ≠ m * 3 + 2 := by omega
    simp [go_sem, *]

theorem swap_world {w0 w : World} {g : Nat} {l : List Srv} (h : RecsAt 3 Srv.cells w (some ⟨g, 0, none⟩) l) {i j : Nat} {x y : Srv} (hx : l[i]? = some x) (hy : l[j]? = some y) (hg : Gr w0 w) (hb : w0.heap.size ≤ g) :
    ∃ L : List Srv, L.length = l.length ∧ L.Perm l ∧ SrvsAt (((((((w.setCell ⟨g, i * 3, none⟩ (.int .i64 y.k)).setCell ⟨g, i * 3 + 1, none⟩ (.int .i64 y.q)).setCell ⟨g, i * 3 + 2, none⟩ (.int .i64 y.t)).setCell ⟨g, j * 3, none⟩ (.int .i64 x.k)).setCell ⟨g, j * 3 + 1, none⟩ (.int .i64 x.q)).setCell ⟨g, j * 3 + 2, none⟩ (.int .i64 x.t)).drew) (some ⟨g, 0, none⟩) L ∧
      Gr w0 (((((((w.setCell ⟨g, i * 3, none⟩ (.int .i64 y.k)).setCell ⟨g, i * 3 + 1, none⟩ (.int .i64 y.q)).setCell ⟨g, i * 3 + 2, none⟩ (.int .i64 y.t)).setCell ⟨g, j * 3, none⟩ (.int .i64 x.k)).setCell ⟨g, j * 3 + 1, none⟩ (.int .i64 x.q)).setCell ⟨g, j * 3 + 2, none⟩ (.int .i64 x.t)).drew) := by
  have hi : i < l.length := get_lt hx
  have hj : j < l.length := get_lt hy
  have ex : l[i] = x := by rw [List.getElem?_eq_getElem hi] at hx; exact Option.some.inj hx
  have ey : l[j] = y := by rw [List.getElem?_eq_getElem hj] at hy; exact Option.some.inj hy
  refine ⟨(l.set i y).set j x, by simp, by rw [← ex, ← ey]; exact List.set_set_perm hi hj, ?_, ?_⟩
  · exact (recs_srvs (set_rec (set_rec h hi y) (by simpa using hj) x)).gr ((Gr.refl _).drew)
  · exact (((((((hg.setCell hb _).setCell hb _).setCell hb _).setCell hb _).setCell hb _).setCell hb _)).drew

theorem srvs_take {w : World} {a : Option Addr} {l : List Srv} (h : SrvsAt w a l) (n : Nat) : SrvsAt w a (l.take n) := recs_srvs (recs_take (srvs_recs h) n)
theorem cmpI_lt {a b : Int} (h : a < b) : cmpI a b = -1 := by unfold cmpI; rw [if_pos h]

theorem rem_ix (a : Int) (n : Nat) (hn : 0 < n) : ∃ i : Nat, i < n ∧ (i : Int) = (a.tmod n + n) % n ∧ -(n : Int) < a.tmod n ∧ a.tmod n < n := by
  have h1 := Int.tmod_lt_of_pos a (show (0 : Int) < n by omega)
  have h2 := Int.lt_tmod_of_pos a (show (0 : Int) < n by omega)
  have h3 := Int.emod_nonneg (a.tmod n + n) (show (n : Int) ≠ 0 by omega)
  have h4 := Int.emod_lt_of_pos (a.tmod n + n) (show (0 : Int) < n by omega)
  exact ⟨((a.tmod n + n) % n).toNat, by omega, by omega, h2, h1⟩

set_option maxRecDepth 100000 in
set_option maxHeartbeats 1600000 in
theorem planOrders_walk {G : List Nat} {E : Nat → Addr} (a : Option Addr) (l : List Srv) (c : Nat) (n m : Int) (w : World) (hE : EAt G E w) (i0 : 0 ∈ G) (hl : SrvsAt w a l) (hm : l.length * 24 ≤ 140737488351232) (hc : a = none → c = 0) (hcap : l.length ≤ c) (hln : I64 n) (hlm : I64 m) :
    Calls Tryd.prog 5 #[.slice a l.length c, .int .i64 n, .int .i64 m] w fun e w' => e = .returned (.bool true) ∧ Gr w w' := by
  obtain ⟨i27, hi, hz0, hz1, hz2⟩ := info_parts Tryd.infoSrv
  have hmm : l.length ≤ maxLen := by unfold maxLen; omega
  have n2 : l.length * 24 ≤ 140737488355328 := by omega
  obtain ⟨n3, n4⟩ := hln
  obtain ⟨m3, m4⟩ := hlm
  by_cases h0 : l.length = 0
  · have q0 : ((l.length : Int) == 0) = true := by simp; exact List.length_eq_zero_iff.1 h0
    replace h0 := Lib.hid h0
    go_enter Tryd.func5, Tryd.ntmps5
    go_wp2_with fail
    refine (alive08 _ hE i0).mono ?_
    rintro e wa ⟨rfl, ga⟩
    obtain ⟨ca, fa, sa⟩ := ga.cells
    try simp only [World.size_alloc] at ca fa sa
    try simp only [World.size_drew] at ca fa sa
    try simp only [World.size_setCell] at ca fa sa
    go_wp2_with fail
    go_ret
    exact ⟨rfl, ga⟩
  have q0 : ((l.length : Int) == 0) = false := by simp; intro hh; rw [hh] at h0; simp at h0
  by_cases h8 : 8 < l.length
  · go_enter Tryd.func5, Tryd.ntmps5
    go_wp2_with fail
    refine (alive08 _ hE i0).mono ?_
    rintro e wa ⟨rfl, ga⟩
    obtain ⟨ca, fa, sa⟩ := ga.cells
    try simp only [World.size_alloc] at ca fa sa
    try simp only [World.size_drew] at ca fa sa
    try simp only [World.size_setCell] at ca fa sa
    go_wp2_with fail
    go_ret
    exact ⟨rfl, ga⟩
  cases hleg : allLeg l
  · replace hleg := Lib.hid hleg
    go_enter Tryd.func5, Tryd.ntmps5
    go_wp2_with fail
    refine (alive08 _ hE i0).mono ?_
    rintro e wa ⟨rfl, ga⟩
    obtain ⟨ca, fa, sa⟩ := ga.cells
    try simp only [World.size_alloc] at ca fa sa
    try simp only [World.size_drew] at ca fa sa
    try simp only [World.size_setCell] at ca fa sa
    go_wp2_with fail
    refine (servers_no a l c _ (hE.gr ga) i0 (hl.gr ga) hmm hleg.out).mono ?_
    rintro e wb ⟨rfl, gb⟩
    obtain ⟨cb, fb, sb⟩ := gb.cells
    try simp only [World.size_alloc] at cb fb sb
    try simp only [World.size_drew] at cb fb sb
    try simp only [World.size_setCell] at cb fb sb
    go_wp2_with fail
    go_ret
    exact ⟨rfl, (ga.trans gb).alloc _⟩
  obtain ⟨i, hi1, hi2, hi3, hi4⟩ := rem_ix n l.length (by omega)
  obtain ⟨j, hj1, hj2, hj3, hj4⟩ := rem_ix m l.length (by omega)
  replace hi2 := Lib.hid hi2
  replace hj2 := Lib.hid hj2
  replace hleg := Lib.hid hleg
  have h1 : 0 < l.length := by omega
  go_enter Tryd.func5, Tryd.ntmps5
  go_wp2_with fail
  refine (alive08 _ hE i0).mono ?_
  rintro e wa ⟨rfl, ga⟩
  obtain ⟨ca, fa, sa⟩ := ga.cells
  try simp only [World.size_alloc] at ca fa sa
  try simp only [World.size_drew] at ca fa sa
  try simp only [World.size_setCell] at ca fa sa
  go_wp2_with fail
  refine (servers_yes a l c _ (hl.gr ga) hleg.out (by omega)).mono ?_
  rintro e wb ⟨rfl, gb⟩
  obtain ⟨cb, fb, sb⟩ := gb.cells
  try simp only [World.size_alloc] at cb fb sb
  try simp only [World.size_drew] at cb fb sb
  try simp only [World.size_setCell] at cb fb sb
  have lb := srvs_recs ((hl.gr ga).gr gb)
  have lb' := (srvs_recs (((hl.gr ga).gr gb).gr ((Gr.refl wb).alloc (.cells #[.int .u64 (hiW (shareS l).1), .int .u64 (loW (shareS l).1), .int .u64 (hiW (shareS l).2), .int .u64 (loW (shareS l).2)] 41))))
  go_wp2_with (at_builtin; (refine wpList_copy_own (k := 3) (enc := Srv.cells) rfl _ _ 22 rfl 27 i27 _ 24 Tryd.underlying22 hi hz0 hz1 hz2 rfl (by decide) Srv.cells_len Srv.cells_one (wb.heap.size + 1) (by simp) rfl a c l rfl lb' hc hmm n2 ?_; intro v1 wc hown gc))
  obtain ⟨g, c1, rfl, hg1, hg2, hrec, hfz⟩ := owned_block Srv.cells_len hown h1
  obtain ⟨cc, fc, sc⟩ := gc.cells
  simp only [World.size_alloc] at cc fc sc
  go_wp2_with fail
  go_quiet (fail)
  go_wp2_with fail
  rw [← hi2.out, ← hj2.out]
  have gab := ga.trans gb
  have gq := gc.drewN nq
  have hrecq : RecsAt 3 Srv.cells (wc.drewN nq) (some ⟨g, 0, none⟩) l := fun i s hs => by
    obtain ⟨b, off, h1, h2, h3⟩ := hrec i s hs
    exact ⟨b, off, h1, h2, h3⟩
  have hfq : ∀ o, (wc.drewN nq).frozen? ⟨g, o, none⟩ = false := hfz
  have pg := hg1
  clear cc fc sc hrec hfz hg1 hg2 hown gc lb lb' 
  generalize wc.drewN nq = wq at *
  obtain ⟨si, hsi⟩ := get_some l i hi1
  obtain ⟨sj, hsj⟩ := get_some l j hj1
  obtain ⟨x0, x1, x2⟩ := srv_cells hrecq hsi
  obtain ⟨y0, y1, y2⟩ := srv_cells hrecq hsj
  have f0 := hfq (i * 3)
  have f1 := hfq (i * 3 + 1)
  have f2 := hfq (i * 3 + 2)
  have e0 := hfq (j * 3)
  have e1 := hfq (j * 3 + 1)
  have e2 := hfq (j * 3 + 2)
  have b0 : (0 : Int) ≤ (i : Int) := by omega
  have b1 : (i : Int) < (l.length : Int) := by omega
  have b2 : (0 : Int) ≤ (j : Int) := by omega
  have b3 : (j : Int) < (l.length : Int) := by omega
  replace hrecq := Lib.hid hrecq
  by_cases hij : i = j
  focus
    subst hij
    cases (Option.some.inj (hsi.symm.trans hsj))
    obtain ⟨L, hL1, hL2, hL3, hL4⟩ := swap_world (w0 := wb.alloc (.cells #[.int .u64 (hiW (shareS l).1), .int .u64 (loW (shareS l).1), .int .u64 (hiW (shareS l).2), .int .u64 (loW (shareS l).2)] 41)) hrecq.out hsi hsj gq pg
    replace hL1 := Lib.hid hL1
    replace hL2 := Lib.hid hL2
    go_region
    go_wp2_with fail
    have hs := fun wx h => servers_yes (some ⟨g, 0, none⟩) L c1 wx h (by rw [allLeg_perm hL2.out]; exact hleg.out) (by rw [hL1.out]; omega)
    rw [hL1.out, shareS_perm hL2.out] at hs
    replace hs := Lib.hid hs
    refine (hs.out _ hL3).mono ?_
    rintro e wd ⟨rfl, gd⟩
    have gwd := hL4.trans gd
    clear hL3 hL4 gd hs hL1 hL2 gq pg
    clear x0 x1 x2 y0 y1 y2 hsi hsj hrecq hfq f0 f1 f2 e0 e1 e2
  rotate_left
  focus
    have d0 : i * 3 ≠ j * 3 := by omega
    have d1 : i * 3 ≠ j * 3 + 1 := by omega
    have d2 : i * 3 ≠ j * 3 + 2 := by omega
    have d3 : i * 3 + 1 ≠ j * 3 := by omega
    have d4 : i * 3 + 2 ≠ j * 3 := by omega
    have d5 : i * 3 + 1 ≠ j * 3 + 2 := by omega
    have d6 : i * 3 + 2 ≠ j * 3 + 1 := by omega
    replace hij := Lib.hid hij
    obtain ⟨L, hL1, hL2, hL3, hL4⟩ := swap_world (w0 := wb.alloc (.cells #[.int .u64 (hiW (shareS l).1), .int .u64 (loW (shareS l).1), .int .u64 (hiW (shareS l).2), .int .u64 (loW (shareS l).2)] 41)) hrecq.out hsi hsj gq pg
    replace hL1 := Lib.hid hL1
    replace hL2 := Lib.hid hL2
    go_region
    go_wp2_with fail
    have hs := fun wx h => servers_yes (some ⟨g, 0, none⟩) L c1 wx h (by rw [allLeg_perm hL2.out]; exact hleg.out) (by rw [hL1.out]; omega)
    rw [hL1.out, shareS_perm hL2.out] at hs
    replace hs := Lib.hid hs
    refine (hs.out _ hL3).mono ?_
    rintro e wd ⟨rfl, gd⟩
    have gwd := hL4.trans gd
    clear hL3 hL4 gd hs hL1 hL2 gq pg
    clear x0 x1 x2 y0 y1 y2 d0 d1 d2 d3 d4 d5 d6 hsi hsj hrecq hfq f0 f1 f2 e0 e1 e2
  all_goals
    obtain ⟨cd, fd, sd⟩ := gwd.cells
    simp only [World.size_alloc] at cd fd sd
    have zd : wb.heap.size < wd.heap.size := by omega
    have gwd0 : Gr w wd := (gab.alloc _).trans gwd
    obtain ⟨s, hs⟩ := get_some l (l.length - 1) (by omega)
    obtain ⟨N, D, hN⟩ : ∃ N D, shareS (l.take (l.length - 1)) = (N, D) := ⟨_, _, rfl⟩
    have hsn : shareS l = plusP (N, D) s.q s.t := by
      have := take_snoc hs
      rw [List.take_of_length_le (by omega)] at this
      conv => lhs; rw [this]
      rw [shareS_snoc, hN]
    have hleg1 := (Srv.leg_iff _).1 (allLeg_get hleg.out hs)
    have bd := shareS_bd l hleg.out (l.length - 1) (by omega)
    rw [hN] at bd
    dsimp only at bd
    obtain ⟨s1, s2, s3, s4, s5, s6, s7, s8, s9⟩ := share_step (by omega) bd ⟨hleg1.2.2.1, hleg1.2.2.2.1, hleg1.2.2.2.2⟩
    have hq := fun wx h => servers_yes a (l.take (l.length - 1)) c wx (srvs_take h _) (List.all_eq_true.2 fun x hx => List.all_eq_true.1 hleg.out x (List.mem_of_mem_take hx)) (by rw [List.length_take]; omega)
    rw [List.length_take, Nat.min_eq_left (by omega), hN] at hq
    have e1 : N * s.t + D * s.q = (shareS l).1 := by rw [hsn]; rfl
    have e2 : D * s.t = (shareS l).2 := by rw [hsn]; rfl
    have hp := fun w => plus_any N D s.q s.t w s1 s2 s3 s4 s5 s6 s7 s8 s9
    have q1 : 0 < D * s.q := Int.mul_pos s3 (by omega)
    have q2 : 0 ≤ N * s.t := Int.mul_nonneg s1.1 (by omega)
    have hm1 := fun w => mul_any N s.t w s1 ⟨by omega, by omega⟩ ⟨q2, by have := s8.2; omega⟩
    have hcm := fun w => compare_cmp (N * s.t) (shareS l).1 w
    rw [cmpI_lt (show N * s.t < (shareS l).1 by omega)] at hcm
    rw [e1, e2] at hp
    obtain ⟨ba, oa, rfl, hba, c0, c1, c2⟩ := (hl.gr gwd0) (l.length - 1) s hs
    obtain ⟨_, _, g3, g4, g5⟩ := hleg1
    replace hq := Lib.hid hq
    replace hp := Lib.hid hp
    replace hm1 := Lib.hid hm1
    replace hcm := Lib.hid hcm
    replace hs := Lib.hid hs
    clear e1 e2 hN hsn bd s1 s2 s3 s4 s8 s9 q1 q2
    go_wp2_with fail
    refine (hq.out _ ((hl.gr gwd0).gr ((Gr.refl wd).alloc _))).mono ?_
    rintro e we ⟨rfl, ge⟩
    obtain ⟨ce, fe, se⟩ := ge.cells
    try simp only [World.size_alloc] at ce fe se
    try simp only [World.size_drew] at ce fe se
    try simp only [World.size_setCell] at ce fe se
    have ze0 : wb.heap.size < we.heap.size := by omega
    have ye0 : wb.heap.size ≤ we.heap.size := by omega
    have ke0 := fun o => ce (wb.heap.size) o (by omega)
    have je0 := fun o => fe (wb.heap.size) o (by omega)
    have ze1 : wd.heap.size < we.heap.size := by omega
    have ye1 : wd.heap.size ≤ we.heap.size := by omega
    have ke1 := fun o => ce (wd.heap.size) o (by omega)
    have je1 := fun o => fe (wd.heap.size) o (by omega)
    have kba := fun o => ce ba o (by omega)
    have hbe : ba < we.heap.size := by omega
    go_wp2_with fail
    refine (hp.out _).mono ?_
    rintro e wf ⟨rfl, gf⟩
    obtain ⟨cf, ff, sf⟩ := gf.cells
    try simp only [World.size_alloc] at cf ff sf
    try simp only [World.size_drew] at cf ff sf
    try simp only [World.size_setCell] at cf ff sf
    have zf0 : wb.heap.size < wf.heap.size := by omega
    have yf0 : wb.heap.size ≤ wf.heap.size := by omega
    have kf0 := fun o => cf (wb.heap.size) o (by omega)
    have jf0 := fun o => ff (wb.heap.size) o (by omega)
    have zf1 : wd.heap.size < wf.heap.size := by omega
    have yf1 : wd.heap.size ≤ wf.heap.size := by omega
    have kf1 := fun o => cf (wd.heap.size) o (by omega)
    have jf1 := fun o => ff (wd.heap.size) o (by omega)
    have zf2 : we.heap.size < wf.heap.size := by omega
    have yf2 : we.heap.size ≤ wf.heap.size := by omega
    have kf2 := fun o => cf (we.heap.size) o (by omega)
    have jf2 := fun o => ff (we.heap.size) o (by omega)
    have zf3 : we.heap.size + 1 < wf.heap.size := by omega
    have kf3 := fun o => cf (we.heap.size + 1) o (by omega)
    have jf3 := fun o => ff (we.heap.size + 1) o (by omega)
    go_wp2_with fail
    refine (hm1.out _).mono ?_
    rintro e wg ⟨rfl, gg⟩
    obtain ⟨cg, fg, sg⟩ := gg.cells
    try simp only [World.size_alloc] at cg fg sg
    try simp only [World.size_drew] at cg fg sg
    try simp only [World.size_setCell] at cg fg sg
    have zg0 : wb.heap.size < wg.heap.size := by omega
    have yg0 : wb.heap.size ≤ wg.heap.size := by omega
    have kg0 := fun o => cg (wb.heap.size) o (by omega)
    have jg0 := fun o => fg (wb.heap.size) o (by omega)
    have zg1 : wd.heap.size < wg.heap.size := by omega
    have yg1 : wd.heap.size ≤ wg.heap.size := by omega
    have kg1 := fun o => cg (wd.heap.size) o (by omega)
    have jg1 := fun o => fg (wd.heap.size) o (by omega)
    have zg2 : we.heap.size < wg.heap.size := by omega
    have yg2 : we.heap.size ≤ wg.heap.size := by omega
    have kg2 := fun o => cg (we.heap.size) o (by omega)
    have jg2 := fun o => fg (we.heap.size) o (by omega)
    have zg3 : we.heap.size + 1 < wg.heap.size := by omega
    have kg3 := fun o => cg (we.heap.size + 1) o (by omega)
    have jg3 := fun o => fg (we.heap.size + 1) o (by omega)
    have zg4 : wf.heap.size < wg.heap.size := by omega
    have yg4 : wf.heap.size ≤ wg.heap.size := by omega
    have kg4 := fun o => cg (wf.heap.size) o (by omega)
    have jg4 := fun o => fg (wf.heap.size) o (by omega)
    go_wp2_with fail
    refine (hcm.out _).mono ?_
    rintro e wh ⟨rfl, gh⟩
    obtain ⟨ch, fh, sh⟩ := gh.cells
    try simp only [World.size_alloc] at ch fh sh
    try simp only [World.size_drew] at ch fh sh
    try simp only [World.size_setCell] at ch fh sh
    go_wp2
    go_ret
    refine ⟨retb (by first | rfl | simp), ?_⟩
    repeat (first | exact Gr.refl _ | apply Gr.alloc | apply Gr.drew | apply Gr.drewN | (refine Gr.setCell ?_ (by simp) _) | (refine Gr.trans ?_ (by assumption)))
end Go.Proofs.YtkfkfcfbcfcbkaaDoor
