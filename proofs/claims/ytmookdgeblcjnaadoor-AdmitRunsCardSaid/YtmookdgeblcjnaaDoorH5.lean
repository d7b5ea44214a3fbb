/- admit: response, Response of a legal guest; law 12's alive. -/
import Derived.Test.YtmookdgeblcjnaaDoorH4
import Derived.Test.YtmookdgeblcjnaaDoorE4
namespace Go.Proofs.YtmookdgeblcjnaaDoor
open Go.RowKit

def untI (l : List Tsk) (i n : Int) : Int := (untP l i n l.length).1 + (untP l i n l.length).2
/-- The least length of 1 to n at which p holds; 0: there is none. -/
def leastI (p : Int → Bool) (n : Nat) : Int := match (List.range n).find? (fun k : Nat => p ((k : Int) + 1)) with
  | some k => (k : Int) + 1
  | none => 0
theorem leastI_at {p : Int → Bool} {n k : Nat} (hk : k < n) (h : p ((k : Int) + 1) = true) (hb : ∀ j, j < k → p ((j : Int) + 1) = false) : leastI p n = (k : Int) + 1 := by
  have : (List.range n).find? (fun k : Nat => p ((k : Int) + 1)) = some k := by
    rw [List.find?_range_eq_some]
    exact ⟨h, List.mem_range.2 hk, fun j hj => by rw [hb j hj]; rfl⟩
  unfold leastI
  rw [this]
theorem leastI_none {p : Int → Bool} {n : Nat} (hb : ∀ j, j < n → p ((j : Int) + 1) = false) : leastI p n = 0 := by
  have : (List.range n).find? (fun k : Nat => p ((k : Int) + 1)) = none := by
    rw [List.find?_eq_none]
    intro k hk
    rw [hb k (List.mem_range.1 hk)]
    decide
  unfold leastI
  rw [this]
/-- A task's response; 0: there is none. -/
def respI (s : Srv) (l : List Tsk) (i : Int) (n : Nat) : Int := leastI (fun x => decide (untI l i x ≤ givI (rowI s) x)) n

set_option maxRecDepth 100000 in
set_option maxHeartbeats 3200000 in
theorem response_any (s : Srv) (a : Option Addr) (l : List Tsk) (c i : Nat) (t : Tsk) (w : World) (h : parOk s = true) (hl : TsksAt w a l) (hok : tasksOk l = true) (ht : l[i]? = some t) :
    Calls Tryd.prog 35 #[.agg #[.int .i64 s.k, .int .i64 s.q, .int .i64 s.t], .slice a l.length c, .int .i64 i] w fun e w' => e = .returned (.tuple #[.int .i64 (respI s l i t.d.toNat), .bool (decide (respI s l i t.d.toNat ≠ 0))]) ∧ Gr w w' := by
  have hlt := legT_mem hok ht
  have hil := get_lt ht
  have h8 := (tasksOk_parts hok).2
  obtain ⟨t1, t2, t3, t4, t5, t6⟩ := hlt
  have hbo := fun (x : Int) (w' : World) (hx : LenOk x) => bound_yes s x w' h hx
  have hun := fun (x : Int) (w' : World) (g : Gr w w') (hx : LenOk x) => until_yes a l c i x w' (hl.gr g) hok hx (by omega) (by omega)
  obtain ⟨r, hr⟩ : ∃ r, r = respI s l i t.d.toNat := ⟨_, rfl⟩
  rw [← hr]
  replace hr := Lib.hid hr
  replace hbo := Lib.hid hbo
  replace hun := Lib.hid hun
  replace h := Lib.hid h
  replace hok := Lib.hid hok
  go_enter Tryd.func35, Tryd.ntmps35
  go_wp2_with fail
  go_loopw [8] (fun lv wr => ∃ k : Nat, (k : Int) ≤ t.d ∧ lv = .int .i64 ((k : Int) + 1) ∧ (∀ j, j < k → (fun x => decide (untI l i x ≤ givI (rowI s) x)) ((j : Int) + 1) = false) ∧ Gr (w.alloc (.cells #[.int .i64 s.k, .int .i64 s.q, .int .i64 s.t] 23)) wr) (fun lv _ => t.d.toNat + 1 - (intOf lv).toNat)
  case atStart => exact ⟨0, by omega, rfl, (fun j hj => by omega), Gr.refl _⟩
  case round =>
    obtain ⟨k, hk, rfl, hbf, hg⟩ := hrel
    have gall : Gr w wr := ((Gr.refl w).alloc _).trans hg
    obtain ⟨cg, fg, sg⟩ := hg.cells
    simp only [World.size_alloc] at cg fg sg
    have k1 := fun o => cg w.heap.size o (by omega)
    clear cg fg
    obtain ⟨b, off, rfl, hb, d0, d1, d2, d3⟩ := (hl.gr gall) i t ht
    replace hbf := Lib.hid hbf
    replace ht := Lib.hid ht
    by_cases hlt : (k : Int) < t.d
    · have hlo : LenOk ((k : Int) + 1) := ⟨by omega, by omega⟩
      have hu := hun.out ((k : Int) + 1) wr gall hlo
      have hbb := hbo.out ((k : Int) + 1)
      obtain ⟨u, hu2⟩ : ∃ u, u = untI l i ((k : Int) + 1) := ⟨_, rfl⟩
      rw [show (untP l i ((k : Int) + 1) l.length).1 + (untP l i ((k : Int) + 1) l.length).2 = untI l i ((k : Int) + 1) from rfl, ← hu2] at hu
      by_cases hfit : u ≤ givI (rowI s) ((k : Int) + 1)
      · have hres : respI s l i t.d.toNat = (k : Int) + 1 := leastI_at (by omega) (decide_eq_true (by rw [← hu2]; exact hfit)) (fun j hj => hbf.out j hj)
        replace hres := Lib.hid hres
        replace hu2 := Lib.hid hu2
        replace hu := Lib.hid hu
        replace hbb := Lib.hid hbb
        replace hlo := Lib.hid hlo
        go_wp2_with fail
        refine hu.out.mono ?_
        rintro e w2 ⟨rfl, g2⟩
        obtain ⟨c2, f2, s2⟩ := g2.cells
        have k2 := fun o => c2 w.heap.size o (by omega)
        clear c2 f2
        go_wp2_with fail
        refine (hbb.out _ hlo.out).mono ?_
        rintro e w3 ⟨rfl, g3⟩
        go_wp2_with fail
        go_ret2
        exact ⟨by rw [hr.out, hres.out, decide_eq_true (by omega)]; rfl, (gall.trans g2).trans g3⟩
      · have hfit2 : givI (rowI s) ((k : Int) + 1) < u := by omega
        have hnext : ∀ j, j < k + 1 → (fun x => decide (untI l i x ≤ givI (rowI s) x)) ((j : Int) + 1) = false := fun j hj => by
          by_cases hjk : j = k
          · rw [hjk]; exact decide_eq_false (by rw [← hu2]; exact hfit)
          · exact hbf.out j (by omega)
        replace hnext := Lib.hid hnext
        replace hu2 := Lib.hid hu2
        replace hu := Lib.hid hu
        replace hbb := Lib.hid hbb
        replace hlo := Lib.hid hlo
        clear hfit
        go_wp2_with fail
        refine hu.out.mono ?_
        rintro e w2 ⟨rfl, g2⟩
        obtain ⟨c2, f2, s2⟩ := g2.cells
        have k2 := fun o => c2 w.heap.size o (by omega)
        clear c2 f2
        go_wp2_with fail
        refine (hbb.out _ hlo.out).mono ?_
        rintro e w3 ⟨rfl, g3⟩
        go_wp2_with fail
        go_roundw
        case rel => exact ⟨k + 1, by omega, by go_num, hnext.out, (hg.trans g2).trans g3⟩
        case measure => simp [intOf]; omega
    · have hres : respI s l i t.d.toNat = 0 := leastI_none (fun j hj => hbf.out j (by omega))
      replace hres := Lib.hid hres
      go_wp2_with fail
      go_ret2
      exact ⟨by rw [hr.out, hres.out]; rfl, gall⟩

/-- Response of a legal guest's task. -/
def respV (E : Nat → Addr) (r : Int) : Value := if r = 0 then .tuple #[.int .i64 0, (Value.iface 146 (.pointer (some (E 1))))] else .tuple #[.int .i64 r, .nilIface]
set_option maxRecDepth 100000 in
set_option maxHeartbeats 1600000 in
theorem Response_yes {G : List Nat} {E : Nat → Addr} (s : Srv) (a : Option Addr) (l : List Tsk) (c i : Nat) (t : Tsk) (w : World) (hE : EAt G E w) (i1 : 1 ∈ G) (h : parOk s = true) (hl : TsksAt w a l) (hg : guestOk 2 l = true) (ht : l[i]? = some t) :
    Calls Tryd.prog 20 #[.agg #[.int .i64 s.k, .int .i64 s.q, .int .i64 s.t], .slice a l.length c, .int .i64 i] w fun e w' => e = .returned (respV E (respI s l i t.d.toNat)) ∧ Gr w w' := by
  have hsi := fun w => silence_yes s w h
  have hcg := fun w' (g : Gr w w') => checkGuest_yes 2 a l c w' (hl.gr g) hg
  obtain ⟨hp, h1, h2⟩ := (guestOk_iff 2 l).1 hg
  have hok : tasksOk l = true := h2
  have hre := fun w' (g : Gr w w') => response_any s a l c i t w' h (hl.gr g) hok ht
  have hil := get_lt ht
  have h8 := (tasksOk_parts hok).2
  obtain ⟨r, hr⟩ : ∃ r, r = respI s l i t.d.toNat := ⟨_, rfl⟩
  rw [← hr] at hre ⊢
  unfold respV
  replace hr := Lib.hid hr
  replace hsi := Lib.hid hsi
  replace hcg := Lib.hid hcg
  replace ht := Lib.hid ht
  replace hok := Lib.hid hok
  replace h := Lib.hid h
  replace hg := Lib.hid hg
  clear hp h1 h2
  by_cases h0 : r = 0
  · rw [if_pos h0]
    rw [h0] at hre
    rw [show decide ((0 : Int) ≠ 0) = false from rfl] at hre
    replace hre := Lib.hid hre
    replace h0 := Lib.hid h0
    go_enter Tryd.func20, Tryd.ntmps20
    go_wp2_with fail
    refine (hsi.out _).mono ?_
    rintro e wa ⟨rfl, ga⟩
    obtain ⟨ca, fa, sa⟩ := ga.cells
    try simp only [size_drewN] at ca fa sa
    try simp only [World.size_alloc] at ca fa sa
    try simp only [World.size_drew] at ca fa sa
    try simp only [World.size_setCell] at ca fa sa
    have za0 : w.heap.size < wa.heap.size := by omega
    have ya0 : w.heap.size ≤ wa.heap.size := by omega
    have ka0 := fun o => ca (w.heap.size) o (by omega)
    have ja0 := fun o => fa (w.heap.size) o (by omega)
    have gA : Gr w wa := ((Gr.refl w).alloc _).trans ga
    go_wp2_with fail
    go_wp2_with fail
    refine (hcg.out _ gA).mono ?_
    rintro e wb ⟨rfl, gb⟩
    obtain ⟨cb, fb, sb⟩ := gb.cells
    try simp only [size_drewN] at cb fb sb
    try simp only [World.size_alloc] at cb fb sb
    try simp only [World.size_drew] at cb fb sb
    try simp only [World.size_setCell] at cb fb sb
    have zb0 : w.heap.size < wb.heap.size := by omega
    have yb0 : w.heap.size ≤ wb.heap.size := by omega
    have kb0 := fun o => cb (w.heap.size) o (by omega)
    have jb0 := fun o => fb (w.heap.size) o (by omega)
    have gB := gA.trans gb
    go_wp2_with fail
    go_wp2_with fail
    refine (hre.out _ gB).mono ?_
    rintro e wd ⟨rfl, gd⟩
    obtain ⟨cd, fd, sd⟩ := gd.cells
    try simp only [size_drewN] at cd fd sd
    try simp only [World.size_alloc] at cd fd sd
    try simp only [World.size_drew] at cd fd sd
    try simp only [World.size_setCell] at cd fd sd
    have zd0 : w.heap.size < wd.heap.size := by omega
    have yd0 : w.heap.size ≤ wd.heap.size := by omega
    have kd0 := fun o => cd (w.heap.size) o (by omega)
    have jd0 := fun o => fd (w.heap.size) o (by omega)
    have gD := gB.trans gd
    have he := (hE.gr gD).c0 i1
    go_wp2_with fail
    go_quiet (fail)
    go_wp2_with fail
    go_ret2
    exact ⟨rfl, gD.drewN _⟩
  · rw [if_neg h0]
    rw [decide_eq_true h0] at hre
    replace hre := Lib.hid hre
    replace h0 := Lib.hid h0
    go_enter Tryd.func20, Tryd.ntmps20
    go_wp2_with fail
    refine (hsi.out _).mono ?_
    rintro e wa ⟨rfl, ga⟩
    obtain ⟨ca, fa, sa⟩ := ga.cells
    try simp only [size_drewN] at ca fa sa
    try simp only [World.size_alloc] at ca fa sa
    try simp only [World.size_drew] at ca fa sa
    try simp only [World.size_setCell] at ca fa sa
    have za0 : w.heap.size < wa.heap.size := by omega
    have ya0 : w.heap.size ≤ wa.heap.size := by omega
    have ka0 := fun o => ca (w.heap.size) o (by omega)
    have ja0 := fun o => fa (w.heap.size) o (by omega)
    have gA : Gr w wa := ((Gr.refl w).alloc _).trans ga
    go_wp2_with fail
    go_wp2_with fail
    refine (hcg.out _ gA).mono ?_
    rintro e wb ⟨rfl, gb⟩
    obtain ⟨cb, fb, sb⟩ := gb.cells
    try simp only [size_drewN] at cb fb sb
    try simp only [World.size_alloc] at cb fb sb
    try simp only [World.size_drew] at cb fb sb
    try simp only [World.size_setCell] at cb fb sb
    have zb0 : w.heap.size < wb.heap.size := by omega
    have yb0 : w.heap.size ≤ wb.heap.size := by omega
    have kb0 := fun o => cb (w.heap.size) o (by omega)
    have jb0 := fun o => fb (w.heap.size) o (by omega)
    have gB := gA.trans gb
    go_wp2_with fail
    go_wp2_with fail
    refine (hre.out _ gB).mono ?_
    rintro e wd ⟨rfl, gd⟩
    obtain ⟨cd, fd, sd⟩ := gd.cells
    try simp only [size_drewN] at cd fd sd
    try simp only [World.size_alloc] at cd fd sd
    try simp only [World.size_drew] at cd fd sd
    try simp only [World.size_setCell] at cd fd sd
    have zd0 : w.heap.size < wd.heap.size := by omega
    have yd0 : w.heap.size ≤ wd.heap.size := by omega
    have kd0 := fun o => cd (w.heap.size) o (by omega)
    have jd0 := fun o => fd (w.heap.size) o (by omega)
    have gD := gB.trans gd
    go_wp2_with fail
    go_ret2
    exact ⟨rfl, gD⟩

abbrev wh : Srv := ⟨0, 0, 0⟩
theorem kids_al1 : kidsErr wh [⟨1, 1, 2⟩, ⟨1, 1, 3⟩] = none := by
  have hb : belowB wh (stepsL [⟨1, 1, 2⟩, ⟨1, 1, 3⟩] 4096) (demI [⟨1, 1, 2⟩, ⟨1, 1, 3⟩]) = true := by
    unfold belowB
    rw [List.all_eq_true]
    intro x hx
    have := stepsL_ok _ _ x hx
    refine decide_eq_true ?_
    have e1 : demI [⟨1, 1, 2⟩, ⟨1, 1, 3⟩] x = x / 2 * 1 + x / 3 * 1 := by simp [demI, sumI, askedI]
    have e2 : givI (rowI wh) x = x := by
      simp [givI, rowI, givM, whole]
      omega
    rw [e1, e2]
    omega
  have h1 : parOk wh = true := by decide
  have h2 : srvErr [⟨1, 1, 2⟩, ⟨1, 1, 3⟩] = none := by decide
  have h3 : lineB wh (shareS [⟨1, 1, 2⟩, ⟨1, 1, 3⟩]) (2 * sumQ [⟨1, 1, 2⟩, ⟨1, 1, 3⟩]) = true := by decide
  unfold kidsErr kidsB
  rw [if_neg (by rw [h1]; decide), h2, h3, hb]
  rfl
theorem kids_al2 : kidsErr wh [⟨1, 1, 2⟩, ⟨2, 1, 2⟩] = some 1 := by
  have h1 : parOk wh = true := by decide
  have h2 : srvErr [⟨1, 1, 2⟩, ⟨2, 1, 2⟩] = none := by decide
  have h3 : lineB wh (shareS [⟨1, 1, 2⟩, ⟨2, 1, 2⟩]) (2 * sumQ [⟨1, 1, 2⟩, ⟨2, 1, 2⟩]) = false := by decide
  unfold kidsErr kidsB
  rw [if_neg (by rw [h1]; decide), h2, h3]
  rfl
theorem resp_al : respI ⟨3, 5, 10⟩ [⟨1, 20, 20, 1⟩] (0 : Nat) (20 : Int).toNat = 11 := by decide +kernel
end Go.Proofs.YtmookdgeblcjnaaDoor
