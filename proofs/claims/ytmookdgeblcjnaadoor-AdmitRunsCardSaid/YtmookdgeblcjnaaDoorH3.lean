/- admit: line, below (of servers), Kids. -/
import Derived.Test.YtmookdgeblcjnaaDoorH2
import Derived.Test.YtmookdgeblcjnaaDoorN10
import Derived.Test.YtmookdgeblcjnaaDoorE2
namespace Go.Proofs.YtmookdgeblcjnaaDoor
open Go.RowKit

/-- How long nothing may be given. -/
def silI (r : Row) : Int := r.gap + r.t - r.q
def lineB (s : Srv) (p : Int × Int) (more : Int) : Bool := decide (wiC none p s < 0) && decide (cmpI ((p.1 * 4096 + p.2 * more) * (rowI s).t) (p.2 * ((rowI s).q * (4096 - silI (rowI s)))) ≤ 0)
theorem wiB_par (s : Srv) : wiB none s = parOk s := by
  unfold wiB parOk whole
  rfl

set_option maxRecDepth 100000 in
set_option maxHeartbeats 3200000 in
theorem line_any {G : List Nat} {E : Nat → Addr} (s : Srv) (p : Int × Int) (more : Int) (w : World) (hE : EAt G E w) (i0 : 0 ∈ G) (h : parOk s = true) (hp : Shr p) (m0 : 0 ≤ more) (m1 : more ≤ 4096) :
    Calls Tryd.prog 25 #[.agg #[.int .i64 s.k, .int .i64 s.q, .int .i64 s.t], partV p, .int .i64 more] w fun e w' => e = .returned (.bool (lineB s p more)) ∧ Gr w w' := by
  have hsl := fun w => slope_yes s w h
  have hwi := fun w (g : EAt G E w) => plan_within none p s w g i0 (fun _ => hp)
  rw [wiB_par, h] at hwi
  have hr := rowI_ok h
  obtain ⟨g0, g1, q1, qt, t2⟩ := hr
  obtain ⟨p1, p2, p3, p4⟩ := hp
  have wp1 : Wide p.1 := ⟨p1, by omega⟩
  have wp2 : Wide p.2 := ⟨by omega, by omega⟩
  have b1 := mul_bd p1 p2 (show (0 : Int) ≤ 4096 by decide) (show (4096 : Int) ≤ 4096 by decide)
  have b2 := mul_bd (show 0 ≤ p.2 by omega) p4 m0 m1
  have wm1 : Wide (p.1 * 4096) := ⟨b1.1, by omega⟩
  have wm2 : Wide (p.2 * more) := ⟨b2.1, by omega⟩
  have was : Wide (p.1 * 4096 + p.2 * more) := ⟨by omega, by omega⟩
  have b3 := mul_bd (show 0 ≤ p.1 * 4096 + p.2 * more by omega) (show p.1 * 4096 + p.2 * more ≤ 40000 * 18446744073709551616 by omega) (show 0 ≤ (rowI s).t by omega) t2
  have b4 := mul_bd (show 0 ≤ (rowI s).q by omega) (show (rowI s).q ≤ 256 by omega) (show 0 ≤ 4096 - silI (rowI s) by unfold silI; omega) (show 4096 - silI (rowI s) ≤ 4096 by unfold silI; omega)
  have b5 := mul_bd (show 0 ≤ p.2 by omega) p4 b4.1 (show (rowI s).q * (4096 - silI (rowI s)) ≤ 1048576 by omega)
  have hag := fun w => against_yes (p.1 * 4096 + p.2 * more) p.2 ((rowI s).q * (4096 - silI (rowI s))) (rowI s).t w was wp2 (by omega) b4.1 (by omega) (by omega) (by omega) ⟨b3.1, by omega⟩ ⟨b5.1, by omega⟩
  have hm1 := fun w => mul_any p.1 4096 w wp1 ⟨by omega, by omega⟩ wm1
  have hm2 := fun w => mul_any p.2 more w wp2 ⟨m0, by omega⟩ wm2
  have had := fun w => add_any (p.1 * 4096) (p.2 * more) w wm1 wm2 was
  obtain ⟨v4, hv4⟩ : ∃ v, v = (rowI s).q * (4096 - silI (rowI s)) := ⟨_, rfl⟩
  unfold silI at *
  unfold lineB silI
  replace hsl := Lib.hid hsl
  replace hwi := Lib.hid hwi
  replace hag := Lib.hid hag
  replace hm1 := Lib.hid hm1
  replace hm2 := Lib.hid hm2
  replace had := Lib.hid had
  replace h := Lib.hid h
  obtain ⟨b41, b42⟩ := b4
  clear b1 b2 b3 b5 wp1 wp2 wm1 wm2 was p1 p2 p3 p4 hv4
  by_cases hc : wiC none p s < 0
  · rw [decide_eq_true hc, Bool.true_and]
    obtain ⟨c, hcc⟩ : ∃ c, c = cmpI ((p.1 * 4096 + p.2 * more) * (rowI s).t) (p.2 * ((rowI s).q * (4096 - ((rowI s).gap + (rowI s).t - (rowI s).q)))) := ⟨_, rfl⟩
    rw [← hcc] at hag ⊢
    replace hcc := Lib.hid hcc
    go_enter Tryd.func25, Tryd.ntmps25
    go_wp2_with fail
    refine (hsl.out _).mono ?_
    rintro e wa ⟨rfl, ga⟩
    obtain ⟨ca, fa, sa⟩ := ga.cells
    try simp only [size_drewN] at ca fa sa
    try simp only [World.size_alloc] at ca fa sa
    try simp only [World.size_drew] at ca fa sa
    try simp only [World.size_setCell] at ca fa sa
    have za0 : w.heap.size < wa.heap.size := by omega
    have ya0 : w.heap.size ≤ wa.heap.size := by omega
    have ka0 := fun o => ca (w.heap.size) o (by omega)
    have ja0 := fun o => fa (w.heap.size) o (by omega)
    have za1 : w.heap.size + 1 < wa.heap.size := by omega
    have ka1 := fun o => ca (w.heap.size + 1) o (by omega)
    have ja1 := fun o => fa (w.heap.size + 1) o (by omega)
    go_wp2_with fail
    go_wp2_with fail
    refine (hwi.out _ (hE.gr ((((Gr.refl w).alloc _).alloc _).trans ga))).mono ?_
    rintro e wb ⟨rfl, gb⟩
    obtain ⟨cb, fb, sb⟩ := gb.cells
    try simp only [size_drewN] at cb fb sb
    try simp only [World.size_alloc] at cb fb sb
    try simp only [World.size_drew] at cb fb sb
    try simp only [World.size_setCell] at cb fb sb
    have zb0 : w.heap.size < wb.heap.size := by omega
    have yb0 : w.heap.size ≤ wb.heap.size := by omega
    have kb0 := fun o => cb (w.heap.size) o (by omega)
    have jb0 := fun o => fb (w.heap.size) o (by omega)
    have zb1 : w.heap.size + 1 < wb.heap.size := by omega
    have kb1 := fun o => cb (w.heap.size + 1) o (by omega)
    have jb1 := fun o => fb (w.heap.size + 1) o (by omega)
    go_wp2_with fail
    go_wp2_with fail
    refine (hm1.out _).mono ?_
    rintro e wd ⟨rfl, gd⟩
    obtain ⟨cd, fd, sd⟩ := gd.cells
    try simp only [size_drewN] at cd fd sd
    try simp only [World.size_alloc] at cd fd sd
    try simp only [World.size_drew] at cd fd sd
    try simp only [World.size_setCell] at cd fd sd
    have zd0 : w.heap.size < wd.heap.size := by omega
    have yd0 : w.heap.size ≤ wd.heap.size := by omega
    have kd0 := fun o => cd (w.heap.size) o (by omega)
    have jd0 := fun o => fd (w.heap.size) o (by omega)
    have zd1 : w.heap.size + 1 < wd.heap.size := by omega
    have kd1 := fun o => cd (w.heap.size + 1) o (by omega)
    have jd1 := fun o => fd (w.heap.size + 1) o (by omega)
    go_wp2_with fail
    go_wp2_with fail
    refine (hm2.out _).mono ?_
    rintro e we ⟨rfl, ge⟩
    obtain ⟨ce, fe, se⟩ := ge.cells
    try simp only [size_drewN] at ce fe se
    try simp only [World.size_alloc] at ce fe se
    try simp only [World.size_drew] at ce fe se
    try simp only [World.size_setCell] at ce fe se
    have ze0 : w.heap.size + 1 < we.heap.size := by omega
    have ke0 := fun o => ce (w.heap.size + 1) o (by omega)
    have je0 := fun o => fe (w.heap.size + 1) o (by omega)
    have ze1 : wd.heap.size < we.heap.size := by omega
    have ye1 : wd.heap.size ≤ we.heap.size := by omega
    have ke1 := fun o => ce (wd.heap.size) o (by omega)
    have je1 := fun o => fe (wd.heap.size) o (by omega)
    go_wp2_with fail
    go_wp2_with fail
    refine (had.out _).mono ?_
    rintro e wf ⟨rfl, gf⟩
    obtain ⟨cf, ff, sf⟩ := gf.cells
    try simp only [size_drewN] at cf ff sf
    try simp only [World.size_alloc] at cf ff sf
    try simp only [World.size_drew] at cf ff sf
    try simp only [World.size_setCell] at cf ff sf
    have zf0 : w.heap.size + 1 < wf.heap.size := by omega
    have kf0 := fun o => cf (w.heap.size + 1) o (by omega)
    have jf0 := fun o => ff (w.heap.size + 1) o (by omega)
    have zf1 : wd.heap.size < wf.heap.size := by omega
    have yf1 : wd.heap.size ≤ wf.heap.size := by omega
    have kf1 := fun o => cf (wd.heap.size) o (by omega)
    have jf1 := fun o => ff (wd.heap.size) o (by omega)
    have zf2 : we.heap.size < wf.heap.size := by omega
    have yf2 : we.heap.size ≤ wf.heap.size := by omega
    have kf2 := fun o => cf (we.heap.size) o (by omega)
    have jf2 := fun o => ff (we.heap.size) o (by omega)
    go_wp2_with fail
    go_wp2_with fail
    refine (hag.out _).mono ?_
    rintro e wj ⟨rfl, gj⟩
    obtain ⟨cj, fj, sj⟩ := gj.cells
    try simp only [size_drewN] at cj fj sj
    try simp only [World.size_alloc] at cj fj sj
    try simp only [World.size_drew] at cj fj sj
    try simp only [World.size_setCell] at cj fj sj
    have zj0 : w.heap.size + 1 < wj.heap.size := by omega
    have kj0 := fun o => cj (w.heap.size + 1) o (by omega)
    have jj0 := fun o => fj (w.heap.size + 1) o (by omega)
    go_wp2_with fail
    go_ret
    exact ⟨rfl, (by repeat (first | exact Gr.refl _ | apply Gr.alloc | apply Gr.drew | apply Gr.drewN | (refine Gr.setCell ?_ (by first | (simp; done) | (simp; omega)) _) | (refine Gr.trans ?_ (by assumption))))⟩
  · rw [decide_eq_false hc, Bool.false_and]
    go_enter Tryd.func25, Tryd.ntmps25
    go_wp2_with fail
    refine (hsl.out _).mono ?_
    rintro e wa ⟨rfl, ga⟩
    obtain ⟨ca, fa, sa⟩ := ga.cells
    try simp only [size_drewN] at ca fa sa
    try simp only [World.size_alloc] at ca fa sa
    try simp only [World.size_drew] at ca fa sa
    try simp only [World.size_setCell] at ca fa sa
    have za0 : w.heap.size < wa.heap.size := by omega
    have ya0 : w.heap.size ≤ wa.heap.size := by omega
    have ka0 := fun o => ca (w.heap.size) o (by omega)
    have ja0 := fun o => fa (w.heap.size) o (by omega)
    have za1 : w.heap.size + 1 < wa.heap.size := by omega
    have ka1 := fun o => ca (w.heap.size + 1) o (by omega)
    have ja1 := fun o => fa (w.heap.size + 1) o (by omega)
    go_wp2_with fail
    go_wp2_with fail
    refine (hwi.out _ (hE.gr ((((Gr.refl w).alloc _).alloc _).trans ga))).mono ?_
    rintro e wb ⟨rfl, gb⟩
    obtain ⟨cb, fb, sb⟩ := gb.cells
    try simp only [size_drewN] at cb fb sb
    try simp only [World.size_alloc] at cb fb sb
    try simp only [World.size_drew] at cb fb sb
    try simp only [World.size_setCell] at cb fb sb
    have zb0 : w.heap.size < wb.heap.size := by omega
    have yb0 : w.heap.size ≤ wb.heap.size := by omega
    have kb0 := fun o => cb (w.heap.size) o (by omega)
    have jb0 := fun o => fb (w.heap.size) o (by omega)
    have zb1 : w.heap.size + 1 < wb.heap.size := by omega
    have kb1 := fun o => cb (w.heap.size + 1) o (by omega)
    have jb1 := fun o => fb (w.heap.size + 1) o (by omega)
    go_wp2_with fail
    go_ret
    exact ⟨rfl, (by repeat (first | exact Gr.refl _ | apply Gr.alloc | apply Gr.drew | apply Gr.drewN | (refine Gr.setCell ?_ (by first | (simp; done) | (simp; omega)) _) | (refine Gr.trans ?_ (by assumption))))⟩

theorem cell_lt0 {w : World} {b o : Nat} {v : Value} (h : w.cell? ⟨b, o, none⟩ = some v) : b < w.heap.size := by
  unfold World.cell? at h
  split at h
  · rename_i hb; exact (Array.getElem?_eq_some_iff.1 hb).1
  · cases h
set_option maxHeartbeats 800000 in
theorem kids1_any (lb : Nat) (a : Option Addr) (l : List Srv) (c : Nat) (n : Int) (w : World) (hl : SrvsAt w a l) (h : chkS l n = none) (hc : w.cell? ⟨lb, 0, none⟩ = some (.slice a l.length c)) :
    Calls Tryd.prog 28 #[.int .i64 n, .pointer (some ⟨lb, 0, none⟩)] w fun e w' => e = .returned (.tuple #[.int .i64 (demI l n), .nilIface]) ∧ Gr w w' := by
  have hd := dservers_yes a l c n w hl h
  have hlb := cell_lt0 hc
  replace h := Lib.hid h
  replace hd := Lib.hid hd
  go_enter Tryd.func28, Tryd.ntmps28
  go_wp2_with fail
  refine (hd.out).mono ?_
  rintro e wa ⟨rfl, ga⟩
  obtain ⟨ca, fa, sa⟩ := ga.cells
  try simp only [size_drewN] at ca fa sa
  try simp only [World.size_alloc] at ca fa sa
  try simp only [World.size_drew] at ca fa sa
  try simp only [World.size_setCell] at ca fa sa
  go_wp2_with fail
  go_ret2
  exact ⟨rfl, ga⟩

def belowB (s : Srv) (ls : List Int) (f : Int → Int) : Bool := ls.all fun l => decide (f l ≤ givI (rowI s) l)
set_option maxRecDepth 100000 in
set_option maxHeartbeats 3200000 in
theorem below_kids (s : Srv) (aL : Option Addr) (ls : List Int) (cL : Nat) (lb : Nat) (a : Option Addr) (l : List Srv) (c : Nat) (w : World) (h : parOk s = true) (hL : IntsAt w aL ls) (hm : ls.length ≤ 4096) (hls : ∀ x ∈ ls, LenOk x) (hl : SrvsAt w a l) (hk : ∀ x, LenOk x → chkS l x = none) (hal : allLeg l = true) (h8 : l.length ≤ 8) (hc : w.cell? ⟨lb, 0, none⟩ = some (.slice a l.length c)) :
    Calls Tryd.prog 26 #[.agg #[.int .i64 s.k, .int .i64 s.q, .int .i64 s.t], .slice aL ls.length cL, .func (.func 28) #[] #[.pointer (some ⟨lb, 0, none⟩)]] w fun e w' => e = .returned (.bool (belowB s ls (demI l))) ∧ Gr w w' := by
  have hlb := cell_lt0 hc
  unfold belowB
  go_enter Tryd.func26, Tryd.ntmps26
  go_wp2_with fail
  go_loopw [14] (fun iv wr => ∃ k : Nat, k ≤ ls.length ∧ iv = .int .i64 k ∧ (ls.take k).all (fun l' => decide (demI l l' ≤ givI (rowI s) l')) = true ∧ Gr (w.alloc (.cells #[.int .i64 s.k, .int .i64 s.q, .int .i64 s.t] 23)) wr) (fun iv _ => ls.length - (intOf iv).toNat)
  case atStart => exact ⟨0, Nat.zero_le _, rfl, rfl, Gr.refl _⟩
  case round =>
    obtain ⟨k, hkl, rfl, hall, hg⟩ := hrel
    have gall : Gr w wr := ((Gr.refl w).alloc _).trans hg
    obtain ⟨cg, fg, sg⟩ := hg.cells
    simp only [World.size_alloc] at cg fg sg
    have k1 := fun o => cg w.heap.size o (by omega)
    clear cg fg
    replace hall := Lib.hid hall
    by_cases hlt : k < ls.length
    · obtain ⟨x, hx⟩ := get_some ls k hlt
      obtain ⟨b, off, rfl, hb, c0⟩ := (hL.gr gall).get hx
      have hxo := hls x (get_mem hx)
      have hts := take_snoc hx
      have hbd := demI_bd hal h8 hxo
      have hgv := giv_nonneg (rowI_ok h) x
      have hgl := giv_le (rowI_ok h) hxo.1
      have hxo2 := hxo.2
      have hk1 := fun w' (g : Gr w w') => kids1_any lb a l c x w' (hl.gr g) (hk x hxo) (by rw [g.cells.1 lb 0 hlb]; exact hc)
      have hbo := fun w' => bound_yes s x w' h hxo
      obtain ⟨v, hv⟩ : ∃ v, v = decide (demI l x ≤ givI (rowI s) x) := ⟨_, rfl⟩
      have hnext : (ls.take (k + 1)).all (fun l' => decide (demI l l' ≤ givI (rowI s) l')) = v := by
        rw [hts, List.all_append, hall.out, hv]; simp
      have hno : v = false → ls.all (fun l' => decide (demI l l' ≤ givI (rowI s) l')) = false := fun hvf => by
        cases hh : ls.all (fun l' => decide (demI l l' ≤ givI (rowI s) l')) with
        | false => rfl
        | true =>
          have := List.all_eq_true.1 hh x (get_mem hx)
          rw [← hv, hvf] at this
          cases this
      obtain ⟨hbd1, hbd2⟩ := hbd
      replace hnext := Lib.hid hnext
      replace hno := Lib.hid hno
      replace hk1 := Lib.hid hk1
      replace hbo := Lib.hid hbo
      clear hts
      replace hx := Lib.hid hx
      replace hxo := Lib.hid hxo
      cases v with
      | true =>
        have hle : demI l x ≤ givI (rowI s) x := of_decide_eq_true hv.symm
        clear hv
        go_wp2_with fail
        refine (hk1.out wr gall).mono ?_
        rintro e w2 ⟨rfl, g2⟩
        obtain ⟨c2, f2, s2⟩ := g2.cells
        have k2 := fun o => c2 w.heap.size o (by omega)
        clear c2 f2
        go_wp2_with fail
        refine (hbo.out _).mono ?_
        rintro e w3 ⟨rfl, g3⟩
        go_wp2_with fail
        go_roundw
        case rel => exact ⟨k + 1, by omega, by go_num, hnext.out, (hg.trans g2).trans g3⟩
        case measure => simp [intOf]; omega
      | false =>
        have hle : givI (rowI s) x < demI l x := by have := of_decide_eq_false hv.symm; omega
        clear hv
        go_wp2_with fail
        refine (hk1.out wr gall).mono ?_
        rintro e w2 ⟨rfl, g2⟩
        obtain ⟨c2, f2, s2⟩ := g2.cells
        have k2 := fun o => c2 w.heap.size o (by omega)
        clear c2 f2
        go_wp2_with fail
        refine (hbo.out _).mono ?_
        rintro e w3 ⟨rfl, g3⟩
        go_wp2_with fail
        go_ret
        exact ⟨retb (hno.out trivial).symm, (gall.trans g2).trans g3⟩
    · have hall2 : ls.take k = ls := List.take_of_length_le (by omega)
      rw [hall2] at hall
      go_wp2_with fail
      go_ret
      exact ⟨retb hall.out.symm, gall⟩
end Go.Proofs.YtmookdgeblcjnaaDoor
