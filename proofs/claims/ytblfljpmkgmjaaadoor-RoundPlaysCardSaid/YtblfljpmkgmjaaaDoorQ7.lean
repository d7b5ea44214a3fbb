/- almonerref09.Add of an entry that is not there. Printed by gen_q7.py. -/
import Derived.Test.YtblfljpmkgmjaaaDoorQ6
namespace Go.Proofs.YtblfljpmkgmjaaaDoor
open Go.RowKit

set_option maxRecDepth 100000 in
set_option maxHeartbeats 6400000 in
theorem radd_new (a : Option Addr) (c : Nat) (L : List EntM) (x : EntM) (w : World) (K : Nat → Prop) (h : LedM Any w a L) (hx : x.ok K w) (hk : plIx L x.e.cl x.e.nu = -1) (h64 : L.length < 64) :
    Calls Tryd.prog 96 #[.slice a L.length c, .agg #[.int .i64 x.e.cl, .int .i64 x.e.nu, .int .i64 x.e.kd, .int .i64 x.e.id, .int .i64 x.e.srv.k, .int .i64 x.e.srv.q, .int .i64 x.e.srv.t, .int .i64 x.e.po, .slice x.a x.e.tasks.length x.c, .int .i64 x.e.at_]] w (RAddP (L.map (·.e) ++ [x.e]) K (L.length + 1) w) := by
  obtain ⟨i36, hi, hz0, hz1, hz2⟩ := info_parts Tryd.infoEnt
  have g0 := (Gr.refl w).alloc x.obj
  have hp := rplace_any a c L x.e.cl x.e.nu (w.alloc x.obj) (h.gr g0) (by unfold maxLen; omega)
  rw [hk] at hp
  have hc1 := fun w' (g : Gr w w') => rcopy_any a c L w' (h.gr g) (by omega)
  have t2 : ¬ (64 : Int) ≤ (L.length : Int) := by omega
  have hwr : IntKind.i64.wrap ((L.length : Int) + 1) = (L.length : Int) + 1 := by rw [IntKind.wrap_i64]; omega
  replace hp := Lib.hid hp
  replace hc1 := Lib.hid hc1
  replace hk := Lib.hid hk
  replace hx := Lib.hid hx
  go_enter Tryd.func96, Tryd.ntmps96
  go_wp2_with fail
  refine (hp.out).mono ?_
  rintro e wp ⟨rfl, gp⟩
  obtain ⟨cp, fp, sp⟩ := gp.cells
  try simp only [size_drewN] at cp fp sp
  try simp only [World.size_alloc] at cp fp sp
  try simp only [World.size_drew] at cp fp sp
  try simp only [World.size_setCell] at cp fp sp
  have zp0 : w.heap.size < wp.heap.size := by omega
  have yp0 : w.heap.size ≤ wp.heap.size := by omega
  have kp0 := fun o => cp (w.heap.size) o (by omega)
  have jp0 := fun o => fp (w.heap.size) o (by omega)
  have gp0 : Gr w wp := g0.trans gp
  have hX0 : Blk wp w.heap.size #[.int .i64 x.e.cl, .int .i64 x.e.nu, .int .i64 x.e.kd, .int .i64 x.e.id, .int .i64 x.e.srv.k, .int .i64 x.e.srv.q, .int .i64 x.e.srv.t, .int .i64 x.e.po, .slice x.a x.e.tasks.length x.c, .int .i64 x.e.at_] 36 := (Blk.new w _ _).gr gp
  have zX := hX0.lt
  have xc0 := hX0.cell (i := 0) (v := .int .i64 x.e.cl) rfl
  have xc1 := hX0.cell (i := 1) (v := .int .i64 x.e.nu) rfl
  have xc2 := hX0.cell (i := 2) (v := .int .i64 x.e.kd) rfl
  have xc3 := hX0.cell (i := 3) (v := .int .i64 x.e.id) rfl
  have xc4 := hX0.cell (i := 4) (v := .int .i64 x.e.srv.k) rfl
  have xc5 := hX0.cell (i := 5) (v := .int .i64 x.e.srv.q) rfl
  have xc6 := hX0.cell (i := 6) (v := .int .i64 x.e.srv.t) rfl
  have xc7 := hX0.cell (i := 7) (v := .int .i64 x.e.po) rfl
  have xc8 := hX0.cell (i := 8) (v := .slice x.a x.e.tasks.length x.c) rfl
  have xc9 := hX0.cell (i := 9) (v := .int .i64 x.e.at_) rfl
  have hcell : ∀ W, Gr wp W → Blk W w.heap.size #[.int .i64 x.e.cl, .int .i64 x.e.nu, .int .i64 x.e.kd, .int .i64 x.e.id, .int .i64 x.e.srv.k, .int .i64 x.e.srv.q, .int .i64 x.e.srv.t, .int .i64 x.e.po, .slice x.a x.e.tasks.length x.c, .int .i64 x.e.at_] 36 := fun W g => hX0.gr g
  have hnew : ∀ (W : World) (b : Nat), Blk W b #[.int .i64 x.e.cl, .int .i64 x.e.nu, .int .i64 x.e.kd, .int .i64 x.e.id, .int .i64 x.e.srv.k, .int .i64 x.e.srv.q, .int .i64 x.e.srv.t, .int .i64 x.e.po, .slice x.a x.e.tasks.length x.c, .int .i64 x.e.at_] 36 → ∀ (j : Nat) (u : Value), x.cells[j]? = some u → W.cell? ((⟨b, 0, none⟩ : Addr).add j) = some u := fun W b hb j u hu => by
    have h1 : (x.cells.toArray)[j]? = some u := by simpa using hu
    have := hb.cell (i := j) (v := u) h1
    unfold Addr.add
    split
    · rename_i h0; rw [h0] at this; simpa using this
    · simpa using this
  have hnA : ∀ w1, Gr wp w1 → ∀ (j : Nat) (u : Value), x.cells[j]? = some u → (w1.alloc x.obj).cell? ((⟨w1.heap.size, 0, none⟩ : Addr).add j) = some u := fun w1 _ => hnew _ _ (Blk.new w1 _ _)
  have hnB : ∀ w1, Gr ((wp.alloc x.obj).drew) w1 → ∀ (j : Nat) (u : Value), x.cells[j]? = some u → w1.cell? ((⟨wp.heap.size, 0, none⟩ : Addr).add j) = some u := fun w1 g => hnew _ _ (((Blk.new wp _ _).gr ((Gr.refl _).drew)).gr g)
  replace hX0 := Lib.hid hX0
  replace hcell := Lib.hid hcell
  replace hnA := Lib.hid hnA
  replace hnB := Lib.hid hnB
  clear hnew
  go_upto_region 6 with fail
  go_region_held3 (fun w' => w'.cell? ⟨w.heap.size, 0, none⟩ = some (.int .i64 x.e.cl) ∧ w'.cell? ⟨w.heap.size, 1, none⟩ = some (.int .i64 x.e.nu) ∧ w'.cell? ⟨w.heap.size, 2, none⟩ = some (.int .i64 x.e.kd) ∧ w'.cell? ⟨w.heap.size, 3, none⟩ = some (.int .i64 x.e.id) ∧ w'.cell? ⟨w.heap.size, 4, none⟩ = some (.int .i64 x.e.srv.k) ∧ w'.cell? ⟨w.heap.size, 5, none⟩ = some (.int .i64 x.e.srv.q) ∧ w'.cell? ⟨w.heap.size, 6, none⟩ = some (.int .i64 x.e.srv.t) ∧ w'.cell? ⟨w.heap.size, 7, none⟩ = some (.int .i64 x.e.po) ∧ w'.cell? ⟨w.heap.size, 8, none⟩ = some (.slice x.a x.e.tasks.length x.c) ∧ w'.cell? ⟨w.heap.size, 9, none⟩ = some (.int .i64 x.e.at_)) (simp (maxDischargeDepth := 8) [go_sem, *])
    (first
      | (go_at_call 20; (with_reducible refine (hc1.out _ ?hgg).mono ?_); (case hgg => first | exact gp0.drew | exact (gp0.alloc _).drew); rintro e w1 ⟨a1, c1, L1, rfl, m1, l1, n1, q1, q2, g1, o1, d1⟩; have gp1 : Gr wp w1 := (by first | exact ((Gr.refl wp).drew).trans g1 | exact (((Gr.refl wp).alloc _).drew).trans g1); have hL1 : L1.length = L.length := (by simpa using congrArg List.length m1); have hb1 := hcell.out w1 gp1; have z1 := hb1.lt; have p0 := hb1.cell (i := 0) (v := .int .i64 x.e.cl) rfl; have p1 := hb1.cell (i := 1) (v := .int .i64 x.e.nu) rfl; have p2 := hb1.cell (i := 2) (v := .int .i64 x.e.kd) rfl; have p3 := hb1.cell (i := 3) (v := .int .i64 x.e.id) rfl; have p4 := hb1.cell (i := 4) (v := .int .i64 x.e.srv.k) rfl; have p5 := hb1.cell (i := 5) (v := .int .i64 x.e.srv.q) rfl; have p6 := hb1.cell (i := 6) (v := .int .i64 x.e.srv.t) rfl; have p7 := hb1.cell (i := 7) (v := .int .i64 x.e.po) rfl; have p8 := hb1.cell (i := 8) (v := .slice x.a x.e.tasks.length x.c) rfl; have p9 := hb1.cell (i := 9) (v := .int .i64 x.e.at_) rfl; have s1 := g1.size; rw [hL1] at o1 d1; have bl1 := owns_lt o1; replace bl1 := Lib.hid bl1; replace d1 := Lib.hid d1; replace m1 := Lib.hid m1; replace hb1 := Lib.hid hb1)
      | (refine step_append_lies _ (by rfl) _ _ _ (by rfl) _ 36 i36 _ 10 96 Tryd.underlying41 hi hz0 hz1 hz2 rfl (by omega) (.slice a1 L.length c1) L.length _ (by rfl) (owns_gr o1 ((Gr.refl w1).alloc x.obj)) ⟨w1.heap.size, 0, none⟩ 1 1 x.cells (by rfl) (by rfl) (hnA.out w1 gp1) x.cells_one (by omega) (by unfold maxLen; omega) (by omega) (by simp at s1 ⊢; omega) _ rfl ?_; intro g3 c3 w3 hown hgrow hat hlt; have g12 : Gr w1 (w1.alloc x.obj) := (Gr.refl w1).alloc x.obj; have gx3 : Gr wp w3 := (gp1.trans g12).grown hgrow (fun g hg => by have := (bl1.out _ hg).2; simp at this; omega); have hb3 := hcell.out w3 gx3; have q_0 := hb3.cell (i := 0) (v := .int .i64 x.e.cl) rfl; have q_1 := hb3.cell (i := 1) (v := .int .i64 x.e.nu) rfl; have q_2 := hb3.cell (i := 2) (v := .int .i64 x.e.kd) rfl; have q_3 := hb3.cell (i := 3) (v := .int .i64 x.e.id) rfl; have q_4 := hb3.cell (i := 4) (v := .int .i64 x.e.srv.k) rfl; have q_5 := hb3.cell (i := 5) (v := .int .i64 x.e.srv.q) rfl; have q_6 := hb3.cell (i := 6) (v := .int .i64 x.e.srv.t) rfl; have q_7 := hb3.cell (i := 7) (v := .int .i64 x.e.po) rfl; have q_8 := hb3.cell (i := 8) (v := .slice x.a x.e.tasks.length x.c) rfl; have q_9 := hb3.cell (i := 9) (v := .int .i64 x.e.at_) rfl; replace hb3 := Lib.hid hb3)
      | (refine step_append_lies _ (by rfl) _ _ _ (by rfl) _ 36 i36 _ 10 96 Tryd.underlying41 hi hz0 hz1 hz2 rfl (by omega) (.slice a1 L.length c1) L.length _ (by rfl) o1 ⟨wp.heap.size, 0, none⟩ 1 1 x.cells (by rfl) (by rfl) (hnB.out w1 g1) x.cells_one (by omega) (by unfold maxLen; omega) (by omega) (by simp at s1 ⊢; omega) _ rfl ?_; intro g3 c3 w3 hown hgrow hat hlt; have g12 : Gr w1 w1 := Gr.refl w1; have gx3 : Gr wp w3 := (gp1.trans g12).grown hgrow (fun g hg => by have := (bl1.out _ hg).2; simp at this; omega); have hb3 := hcell.out w3 gx3; have q_0 := hb3.cell (i := 0) (v := .int .i64 x.e.cl) rfl; have q_1 := hb3.cell (i := 1) (v := .int .i64 x.e.nu) rfl; have q_2 := hb3.cell (i := 2) (v := .int .i64 x.e.kd) rfl; have q_3 := hb3.cell (i := 3) (v := .int .i64 x.e.id) rfl; have q_4 := hb3.cell (i := 4) (v := .int .i64 x.e.srv.k) rfl; have q_5 := hb3.cell (i := 5) (v := .int .i64 x.e.srv.q) rfl; have q_6 := hb3.cell (i := 6) (v := .int .i64 x.e.srv.t) rfl; have q_7 := hb3.cell (i := 7) (v := .int .i64 x.e.po) rfl; have q_8 := hb3.cell (i := 8) (v := .slice x.a x.e.tasks.length x.c) rfl; have q_9 := hb3.cell (i := 9) (v := .int .i64 x.e.at_) rfl; replace hb3 := Lib.hid hb3)
      | fail)
  all_goals
    have h3 : Gr w w3 := gp0.trans gx3
    have hown' := hown
    rw [show L.length + 1 = (L1 ++ [x]).length by simp [hL1], show L1.flatMap EntM.cells ++ x.cells = (L1 ++ [x]).flatMap EntM.cells by simp] at hown'
    obtain ⟨a', c', hv, hr, hn, hB⟩ := recs_of_owns EntM.cells_len hown'
    cases hv
    have hsz : w.heap.size ≤ wp.heap.size := gp0.size
    have hled : LedM (fun b => w.heap.size ≤ b ∨ K b) w3 (some ⟨g3, 0, none⟩) (L1 ++ [x]) := by
      refine ⟨⟨hr, fun z hz _ => ?_⟩, fun z hz => ?_⟩
      · have := hB z hz; simp at this; exact .inl (by omega)
      · rcases List.mem_append.1 hz with hz | hz
        · exact (((l1.2 z hz).mono (fun b _ hb => by simp at hb; exact .inl (by omega))).gr g12).grown hgrow (d1.out z hz)
        · rw [List.mem_singleton.1 hz]
          exact (hx.out.mono (fun b _ hb => .inr hb)).gr h3
    have hmap : (L1 ++ [x]).map (·.e) = L.map (·.e) ++ [x.e] := by rw [List.map_append, m1.out]; simp
    replace hmap := Lib.hid hmap
    replace hled := Lib.hid hled
    clear hgrow hown hown' hat hr hn hB m1 l1 d1
    go_wp2_with fail
    go_ret3
    exact ⟨some ⟨g3, 0, none⟩, c3, L1 ++ [x], by simp [hL1], hmap.out, hled.out, (fun h => by cases h), h3⟩
end Go.Proofs.YtblfljpmkgmjaaaDoor
