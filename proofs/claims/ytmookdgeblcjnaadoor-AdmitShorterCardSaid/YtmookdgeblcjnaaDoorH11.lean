/- AdmitShorter: the walk. -/
import Derived.Test.YtmookdgeblcjnaaDoorH10
import Derived.Test.YtmookdgeblcjnaaDoorE5
import Derived.Test.YtmookdgeblcjnaaDoorR2
namespace Go.Proofs.YtmookdgeblcjnaaDoor
open Go.RowKit

section
variable {α : Type} {k : Nat} {enc : α → List Value}
theorem owned_block {w : World} {base : Nat} {e : TypeId} {v : Value} {l : List α} (hk : ∀ s, (enc s).length = k) (h : w.ownsRow base e k v l.length (l.flatMap enc)) (hl : 0 < l.length) :
    ∃ g c, v = .slice (some ⟨g, 0, none⟩) l.length c ∧ base ≤ g ∧ g < w.heap.size ∧ RecsAt k enc w (some ⟨g, 0, none⟩) l ∧ ∀ o, w.frozen? ⟨g, o, none⟩ = false := by
  obtain ⟨_, h1 | ⟨g, cap, cur, hv, hg, hh, _⟩⟩ := id h
  · omega
  · obtain ⟨a', c', hv', hr, _, _⟩ := recs_of_owns hk h
    rw [hv] at hv'
    cases hv'
    exact ⟨g, cap, hv, hg, (Array.getElem?_eq_some_iff.1 hh).1, hr, fun o => by simp [World.frozen?, hh]⟩
end
theorem tsk_own {w : World} {g : Nat} {l : List Tsk} (h : RecsAt 4 Tsk.cells w (some ⟨g, 0, none⟩) l) {i : Nat} {s : Tsk} (hs : l[i]? = some s) :
    w.cell? ⟨g, i * 4, none⟩ = some (.int .i64 s.c) ∧ w.cell? ⟨g, i * 4 + 1, none⟩ = some (.int .i64 s.p) ∧ w.cell? ⟨g, i * 4 + 2, none⟩ = some (.int .i64 s.d) ∧ w.cell? ⟨g, i * 4 + 3, none⟩ = some (.int .i64 s.s) := by
  obtain ⟨b, off, he, _, h0, h1, h2, h3⟩ := (recs_tsks h) i s hs
  cases he
  simp only [Nat.zero_add] at h0 h1 h2 h3
  exact ⟨h0, h1, h2, h3⟩
theorem set_dead {w : World} {g : Nat} {l : List Tsk} (h : RecsAt 4 Tsk.cells w (some ⟨g, 0, none⟩) l) {i : Nat} {t : Tsk} (ht : l[i]? = some t) (d : Int) :
    TsksAt (w.setCell ⟨g, i * 4 + 2, none⟩ (.int .i64 d)) (some ⟨g, 0, none⟩) (l.set i {t with d := d}) := by
  obtain ⟨x0, x1, x2, x3⟩ := tsk_own h ht
  intro m y hy
  obtain ⟨b, off, he, hb, _⟩ := h i t ht
  cases he
  refine ⟨g, 0, rfl, by simpa using hb, ?_⟩
  simp only [Nat.zero_add]
  by_cases hm : i = m
  · subst hm
    rw [List.getElem?_set_self (get_lt ht)] at hy
    cases hy
    simp [go_sem, *]
  · rw [List.getElem?_set_ne hm] at hy
    obtain ⟨y0, y1, y2, y3⟩ := tsk_own h hy
    have d0 : i * 4 + 2 ≠ m * 4 := by omega
    have d1 : i * 4 + 2 ≠ m * 4 + 1 := by omega
    have d2 : i * 4 + 2 ≠ m * 4 + 2 := by omega
    have d3 : i * 4 + 2 ≠ m * 4 + 3 := by omega
    simp [go_sem, *]

set_option maxRecDepth 100000 in
set_option maxHeartbeats 6400000 in
theorem admitShorter_fit {G : List Nat} {E : Nat → Addr} (W : World) (hE : EAt G E W) (i0 : 0 ∈ G) (i1 : 1 ∈ G) (i3 : 3 ∈ G) (s : Srv) (a : Option Addr) (l : List Tsk) (c : Nat) (hl : TsksAt W a l) (hc : a = none → c = 0) (hp : parOk s = true) (hg : guestOk 2 l = true) (hf : fitsO s l = true) :
    Calls Tryd.prog 7 #[.agg #[.int .i64 s.k, .int .i64 s.q, .int .i64 s.t], .slice a l.length c] W fun e w' => e = .returned (.bool true) ∧ Gr W w' := by
  obtain ⟨i56, hi, hz0, hz1, hz2⟩ := info_parts Tryd.infoTsk
  have gw := (Gr.refl W).alloc (.cells #[.int .i64 s.k, .int .i64 s.q, .int .i64 s.t] 23)
  have hal := alive12_any _ (hE.gr gw) i0 i1 i3
  obtain ⟨_, hlen, hok⟩ := (guestOk_iff 2 l).1 hg
  have h8 := (tasksOk_parts hok).2
  have hmm : l.length ≤ maxLen := by unfold maxLen; omega
  have n2 : l.length * 32 ≤ 140737488355328 := by omega
  have hlg := fun w (g : Gr W w) => rlegalGuest_any 2 a l c w (hl.gr g) hmm
  rw [hg] at hlg
  have hgu := fun w (g : Gr W w) => guestO_any s a l c w (hE.gr g) i1 hp (hl.gr g) hg
  rw [hf, if_pos rfl] at hgu
  have hne : ∀ (i : Nat) (t : Tsk), l[i]? = some t → respI s l i t.d.toNat ≠ 0 := fun i t ht => by
    unfold fitsO at hf
    have := of_decide_eq_true (List.all_eq_true.1 hf i (List.mem_range.2 (get_lt ht)))
    rwa [respAt_eq ht] at this
  replace hal := Lib.hid hal
  replace hlg := Lib.hid hlg
  replace hgu := Lib.hid hgu
  replace hg := Lib.hid hg
  replace hf := Lib.hid hf
  replace hok := Lib.hid hok
  replace hp := Lib.hid hp
  replace hne := Lib.hid hne
  go_enter Tryd.func7, Tryd.ntmps7
  go_wp2_with fail
  refine (hal.out).mono ?_
  rintro e w1 ⟨rfl, g1⟩
  obtain ⟨c1, f1, s1⟩ := g1.cells
  try simp only [size_drewN] at c1 f1 s1
  try simp only [World.size_alloc] at c1 f1 s1
  try simp only [World.size_drew] at c1 f1 s1
  try simp only [World.size_setCell] at c1 f1 s1
  have z10 : W.heap.size < w1.heap.size := by omega
  have y10 : W.heap.size ≤ w1.heap.size := by omega
  have k10 := fun o => c1 (W.heap.size) o (by omega)
  have j10 := fun o => f1 (W.heap.size) o (by omega)
  have gA := gw.trans g1
  go_wp2_with fail
  go_wp2_with fail
  refine (hlg.out _ gA).mono ?_
  rintro e w2 ⟨rfl, g2⟩
  obtain ⟨c2, f2, s2⟩ := g2.cells
  try simp only [size_drewN] at c2 f2 s2
  try simp only [World.size_alloc] at c2 f2 s2
  try simp only [World.size_drew] at c2 f2 s2
  try simp only [World.size_setCell] at c2 f2 s2
  have z20 : W.heap.size < w2.heap.size := by omega
  have y20 : W.heap.size ≤ w2.heap.size := by omega
  have k20 := fun o => c2 (W.heap.size) o (by omega)
  have j20 := fun o => f2 (W.heap.size) o (by omega)
  have gB := gA.trans g2
  go_wp2_with fail
  go_wp2_with fail
  refine (hgu.out _ gB).mono ?_
  rintro e w3 ⟨rfl, g3⟩
  obtain ⟨c3, f3, s3⟩ := g3.cells
  try simp only [size_drewN] at c3 f3 s3
  try simp only [World.size_alloc] at c3 f3 s3
  try simp only [World.size_drew] at c3 f3 s3
  try simp only [World.size_setCell] at c3 f3 s3
  have z30 : W.heap.size < w3.heap.size := by omega
  have y30 : W.heap.size ≤ w3.heap.size := by omega
  have k30 := fun o => c3 (W.heap.size) o (by omega)
  have j30 := fun o => f3 (W.heap.size) o (by omega)
  have gC := gB.trans g3
  have hBox := (((Blk.new W #[.int .i64 s.k, .int .i64 s.q, .int .i64 s.t] 23).gr g1).gr g2).gr g3
  replace hBox := Lib.hid hBox
  clear c1 f1 c2 f2 c3 f3 k10 j10 k20 j20 k30 j30 hal hlg hgu
  go_wp2_with fail
  go_loopw [25, 5] (fun iv nv wr => ∃ k : Nat, k ≤ l.length ∧ iv = .int .i64 k ∧ nv = .int .i64 (workI l k) ∧ 0 ≤ workI l k ∧ workI l k ≤ 256 * k ∧ Gr w3 wr) (fun iv _ _ => l.length - (intOf iv).toNat)
  case atStart => exact ⟨0, Nat.zero_le _, rfl, rfl, by simp [workI, sumI], by simp [workI, sumI], Gr.refl _⟩
  case round =>
    obtain ⟨k, hk, rfl, rfl, hw0, hw1, hgg⟩ := hrel
    have gall : Gr W wr := gC.trans hgg
    have hbw := hBox.out.gr hgg
    have x0 := hbw.cell (i := 0) rfl
    have x1 := hbw.cell (i := 1) rfl
    have x2 := hbw.cell (i := 2) rfl
    have zx := hbw.lt
    replace hbw := Lib.hid hbw
    by_cases hlt : k < l.length
    · obtain ⟨t, ht⟩ := get_some l k hlt
      obtain ⟨b, off, hb0, hb, d0, d1, d2, d3⟩ := (hl.gr gall) k t ht
      obtain ⟨t1, t2, t3, t4, t5, t6⟩ := legT_mem hok.out ht
      have hr0 := hne.out k t ht
      obtain ⟨r1, r2, r3, r4⟩ := resp_spec hp.out hok.out ht hr0
      have hwn : workI l (k + 1) = workI l k + t.c := by unfold workI; rw [take_snoc ht, sumI_snoc]
      rw [hwn] at r3
      have hre := fun w (g : Gr W w) => Response_yes s a l c k t w (hE.gr g) i1 hp.out (hl.gr g) hg.out ht
      have hun := fun w (g : Gr W w) => runtil11_any a l c k (respI s l k t.d.toNat) w (hl.gr g) hok.out ⟨by omega, by omega⟩ (by omega) (by omega)
      rw [show (untP l k (respI s l k t.d.toNat) l.length).1 + (untP l k (respI s l k t.d.toNat) l.length).2 = untI l k (respI s l k t.d.toNat) from rfl] at hun
      have hlat := fun w g' c' (gg : Gr W w) (h' : TsksAt w (some ⟨g', 0, none⟩) (l.set k {t with d := t.p})) => Response_yes s (some ⟨g', 0, none⟩) (l.set k {t with d := t.p}) c' k {t with d := t.p} w (hE.gr gg) i1 hp.out h' (later_ok ht hg.out) (by rw [List.getElem?_set_self hlt])
      rw [show respI s (l.set k {t with d := t.p}) k ({t with d := t.p} : Tsk).d.toNat = respI s l k t.d.toNat from resp_later ht (by omega) hr0, List.length_set] at hlat
      have hrv : respV E (respI s l k t.d.toNat) = .tuple #[.int .i64 (respI s l k t.d.toNat), .nilIface] := by unfold respV; rw [if_neg hr0]
      rw [hrv] at hre hlat
      obtain ⟨r, hr⟩ : ∃ r, r = respI s l k t.d.toNat := ⟨_, rfl⟩
      rw [← hr] at hre hlat hun r1 r2 r3 r4
      obtain ⟨u, hu⟩ : ∃ u, u = untI l k r := ⟨_, rfl⟩
      rw [← hu] at hun r4
      replace hr := Lib.hid hr
      replace hu := Lib.hid hu
      replace hr0 := Lib.hid hr0
      replace hre := Lib.hid hre
      replace hun := Lib.hid hun
      replace hlat := Lib.hid hlat
      replace ht := Lib.hid ht
      replace hwn := Lib.hid hwn
      clear hrv
      subst hb0
      go_wp2_with fail
      go_wp2_with fail
      refine (hre.out _ (gall.alloc _)).mono ?_
      rintro e w4 ⟨rfl, g4⟩
      obtain ⟨c4, f4, s4⟩ := g4.cells
      try simp only [size_drewN] at c4 f4 s4
      try simp only [World.size_alloc] at c4 f4 s4
      try simp only [World.size_drew] at c4 f4 s4
      try simp only [World.size_setCell] at c4 f4 s4
      have z40 : W.heap.size < w4.heap.size := by omega
      have y40 : W.heap.size ≤ w4.heap.size := by omega
      have k40 := fun o => c4 (W.heap.size) o (by omega)
      have j40 := fun o => f4 (W.heap.size) o (by omega)
      have z41 : wr.heap.size < w4.heap.size := by omega
      have y41 : wr.heap.size ≤ w4.heap.size := by omega
      have k41 := fun o => c4 (wr.heap.size) o (by omega)
      have j41 := fun o => f4 (wr.heap.size) o (by omega)
      have gD := (gall.alloc (.cells #[.int .i64 t.c, .int .i64 t.p, .int .i64 t.d, .int .i64 t.s] 56)).trans g4
      go_wp2_with fail
      go_wp2_with fail
      refine (hun.out _ gD).mono ?_
      rintro e w5 ⟨rfl, g5⟩
      obtain ⟨c5, f5, s5⟩ := g5.cells
      try simp only [size_drewN] at c5 f5 s5
      try simp only [World.size_alloc] at c5 f5 s5
      try simp only [World.size_drew] at c5 f5 s5
      try simp only [World.size_setCell] at c5 f5 s5
      have z50 : W.heap.size < w5.heap.size := by omega
      have y50 : W.heap.size ≤ w5.heap.size := by omega
      have k50 := fun o => c5 (W.heap.size) o (by omega)
      have j50 := fun o => f5 (W.heap.size) o (by omega)
      have z51 : wr.heap.size < w5.heap.size := by omega
      have y51 : wr.heap.size ≤ w5.heap.size := by omega
      have k51 := fun o => c5 (wr.heap.size) o (by omega)
      have j51 := fun o => f5 (wr.heap.size) o (by omega)
      have gF := gD.trans g5
      have hl5 : RecsAt 4 Tsk.cells w5 (some ⟨b, off, none⟩) l := tsks_recs (hl.gr gF)
      go_wp2_with (at_builtin; refine wpList_copyN (k := 4) (enc := Tsk.cells) rfl _ _ 46 rfl 56 i56 _ 32 Tryd.underlying46 hi hz0 hz1 hz2 rfl (by decide) Tsk.cells_len Tsk.cells_one w5.heap.size rfl rfl (some ⟨b, off, none⟩) c l rfl hl5 hc hmm n2 ?_; intro v1 w6 hown g6)
      obtain ⟨g, c1, rfl, hg1, hg2, hrec, hfz⟩ := owned_block Tsk.cells_len hown (by omega)
      obtain ⟨y0, y1, y2, y3⟩ := tsk_own hrec ht.out
      have gH := gF.trans g6
      have gW : Gr W (w6.setCell ⟨g, k * 4 + 2, none⟩ (.int .i64 t.p)) := gH.setCell (by have := gF.size; show W.heap.size ≤ g; omega) _
      have gW3 : Gr w3 (w6.setCell ⟨g, k * 4 + 2, none⟩ (.int .i64 t.p)) := ((((hgg.alloc _).trans g4).trans g5).trans g6).setCell (by have := (((hgg.alloc (.cells #[.int .i64 t.c, .int .i64 t.p, .int .i64 t.d, .int .i64 t.s] 56)).trans g4).trans g5).size; show w3.heap.size ≤ g; omega) _
      have hTl := set_dead hrec ht.out t.p
      have g36 : Gr w3 w6 := (((hgg.alloc _).trans g4).trans g5).trans g6
      have hbx := hBox.out.gr g36
      have ng : W.heap.size ≠ g := by have := gF.size; have := g5.size; have := g4.size; simp at *; omega
      have y5 : w6.cell? ⟨W.heap.size, 0, none⟩ = some (.int .i64 s.k) := hbx.cell rfl
      have y6 : w6.cell? ⟨W.heap.size, 1, none⟩ = some (.int .i64 s.q) := hbx.cell rfl
      have y7 : w6.cell? ⟨W.heap.size, 2, none⟩ = some (.int .i64 s.t) := hbx.cell rfl
      have hl7 := hlat.out _ g c1 gW hTl
      replace hl7 := Lib.hid hl7
      replace hbx := Lib.hid hbx
      clear hown hrec hl5 hTl
      have b0 : (0 : Int) ≤ (k : Int) := by omega
      have b1 : (k : Int) < (l.length : Int) := by omega
      have f2 := hfz (k * 4 + 2)
      replace gW := Lib.hid gW
      replace gW3 := Lib.hid gW3
      go_wp2_with fail
      rw [show (Instr.indexAt 46 (.slice (some ⟨g, 0, none⟩) l.length c1) (.int .i64 k)).run Tryd.prog w6 = .ok (.pointer (some ⟨g, k * 4, none⟩)) w6 by simp [go_sem, *]]
      go_wp2_with fail
      refine hl7.out.mono ?_
      rintro e w8 ⟨rfl, g8⟩
      go_wp2_with fail
      go_roundw
      case rel => exact ⟨k + 1, by omega, by go_num, by rw [hwn.out], by rw [hwn.out]; omega, by rw [hwn.out]; omega, gW3.out.trans g8⟩
      case measure => simp [intOf]; omega
    · go_wp2_with fail
      go_ret
      exact ⟨rfl, gall⟩

set_option maxRecDepth 100000 in
set_option maxHeartbeats 1600000 in
theorem admitShorter_out {G : List Nat} {E : Nat → Addr} (W : World) (hE : EAt G E W) (i0 : 0 ∈ G) (i1 : 1 ∈ G) (i3 : 3 ∈ G) (s : Srv) (a : Option Addr) (l : List Tsk) (c : Nat) (hl : TsksAt W a l) (hm : l.length ≤ maxLen) (hg : guestOk 2 l = true) (g0 : Nat)
    (hgu : ∀ w, Gr W w → Calls Tryd.prog 15 #[.agg #[.int .i64 s.k, .int .i64 s.q, .int .i64 s.t], .int .i64 2, .slice a l.length c] w fun e w' => e = .returned (errAt E g0) ∧ Gr w w') :
    Calls Tryd.prog 7 #[.agg #[.int .i64 s.k, .int .i64 s.q, .int .i64 s.t], .slice a l.length c] W fun e w' => e = .returned (.bool true) ∧ Gr W w' := by
  have gw := (Gr.refl W).alloc (.cells #[.int .i64 s.k, .int .i64 s.q, .int .i64 s.t] 23)
  have hal := alive12_any _ (hE.gr gw) i0 i1 i3
  have hlg := fun w (g : Gr W w) => rlegalGuest_any 2 a l c w (hl.gr g) hm
  rw [hg] at hlg
  replace hal := Lib.hid hal
  replace hlg := Lib.hid hlg
  replace hgu := Lib.hid hgu
  replace hg := Lib.hid hg
  go_enter Tryd.func7, Tryd.ntmps7
  go_wp2_with fail
  refine (hal.out).mono ?_
  rintro e w1 ⟨rfl, g1⟩
  obtain ⟨c1, f1, s1⟩ := g1.cells
  try simp only [size_drewN] at c1 f1 s1
  try simp only [World.size_alloc] at c1 f1 s1
  try simp only [World.size_drew] at c1 f1 s1
  try simp only [World.size_setCell] at c1 f1 s1
  have z10 : W.heap.size < w1.heap.size := by omega
  have y10 : W.heap.size ≤ w1.heap.size := by omega
  have k10 := fun o => c1 (W.heap.size) o (by omega)
  have j10 := fun o => f1 (W.heap.size) o (by omega)
  have gA := gw.trans g1
  go_wp2_with fail
  go_wp2_with fail
  refine (hlg.out _ gA).mono ?_
  rintro e w2 ⟨rfl, g2⟩
  obtain ⟨c2, f2, s2⟩ := g2.cells
  try simp only [size_drewN] at c2 f2 s2
  try simp only [World.size_alloc] at c2 f2 s2
  try simp only [World.size_drew] at c2 f2 s2
  try simp only [World.size_setCell] at c2 f2 s2
  have z20 : W.heap.size < w2.heap.size := by omega
  have y20 : W.heap.size ≤ w2.heap.size := by omega
  have k20 := fun o => c2 (W.heap.size) o (by omega)
  have j20 := fun o => f2 (W.heap.size) o (by omega)
  have gB := gA.trans g2
  go_wp2_with fail
  go_wp2_with fail
  refine (hgu.out _ gB).mono ?_
  rintro e w3 ⟨rfl, g3⟩
  obtain ⟨c3, f3, s3⟩ := g3.cells
  try simp only [size_drewN] at c3 f3 s3
  try simp only [World.size_alloc] at c3 f3 s3
  try simp only [World.size_drew] at c3 f3 s3
  try simp only [World.size_setCell] at c3 f3 s3
  have z30 : W.heap.size < w3.heap.size := by omega
  have y30 : W.heap.size ≤ w3.heap.size := by omega
  have k30 := fun o => c3 (W.heap.size) o (by omega)
  have j30 := fun o => f3 (W.heap.size) o (by omega)
  have gC := gB.trans g3
  go_wp2_with fail
  go_ret
  exact ⟨rfl, gC⟩
set_option maxRecDepth 100000 in
set_option maxHeartbeats 1600000 in
theorem admitShorter_any {G : List Nat} {E : Nat → Addr} (W : World) (hE : EAt G E W) (i0 : 0 ∈ G) (i1 : 1 ∈ G) (i3 : 3 ∈ G) (s : Srv) (a : Option Addr) (l : List Tsk) (c : Nat) (hl : TsksAt W a l) (hm : l.length ≤ maxLen) (hc : a = none → c = 0) :
    Calls Tryd.prog 7 #[.agg #[.int .i64 s.k, .int .i64 s.q, .int .i64 s.t], .slice a l.length c] W fun e w' => e = .returned (.bool true) ∧ Gr W w' := by
  cases hg : guestOk 2 l with
  | false =>
    have gw := (Gr.refl W).alloc (.cells #[.int .i64 s.k, .int .i64 s.q, .int .i64 s.t] 23)
    have hal := alive12_any _ (hE.gr gw) i0 i1 i3
    have hlg := fun w (g : Gr W w) => rlegalGuest_any 2 a l c w (hl.gr g) hm
    rw [hg] at hlg
    replace hal := Lib.hid hal
    replace hlg := Lib.hid hlg
    replace hg := Lib.hid hg
    go_enter Tryd.func7, Tryd.ntmps7
    go_wp2_with fail
    refine (hal.out).mono ?_
    rintro e w1 ⟨rfl, g1⟩
    obtain ⟨c1, f1, s1⟩ := g1.cells
    try simp only [size_drewN] at c1 f1 s1
    try simp only [World.size_alloc] at c1 f1 s1
    try simp only [World.size_drew] at c1 f1 s1
    try simp only [World.size_setCell] at c1 f1 s1
    have z10 : W.heap.size < w1.heap.size := by omega
    have y10 : W.heap.size ≤ w1.heap.size := by omega
    have k10 := fun o => c1 (W.heap.size) o (by omega)
    have j10 := fun o => f1 (W.heap.size) o (by omega)
    have gA := gw.trans g1
    go_wp2_with fail
    go_wp2_with fail
    refine (hlg.out _ gA).mono ?_
    rintro e w2 ⟨rfl, g2⟩
    obtain ⟨c2, f2, s2⟩ := g2.cells
    try simp only [size_drewN] at c2 f2 s2
    try simp only [World.size_alloc] at c2 f2 s2
    try simp only [World.size_drew] at c2 f2 s2
    try simp only [World.size_setCell] at c2 f2 s2
    have z20 : W.heap.size < w2.heap.size := by omega
    have y20 : W.heap.size ≤ w2.heap.size := by omega
    have k20 := fun o => c2 (W.heap.size) o (by omega)
    have j20 := fun o => f2 (W.heap.size) o (by omega)
    have gB := gA.trans g2
    go_wp2_with fail
    go_ret
    exact ⟨rfl, gB⟩
  | true =>
    cases hp : parOk s with
    | false => exact admitShorter_out W hE i0 i1 i3 s a l c hl hm hg 0 (fun w g => guest_par s 2 a l c w (hE.gr g) i0 hp)
    | true =>
      cases hf : fitsO s l with
      | false =>
        refine admitShorter_out W hE i0 i1 i3 s a l c hl hm hg 1 (fun w g => ?_)
        have := guestO_any s a l c w (hE.gr g) i1 hp (hl.gr g) hg
        rw [hf] at this
        exact this
      | true => exact admitShorter_fit W hE i0 i1 i3 s a l c hl hc hp hg hf
end Go.Proofs.YtmookdgeblcjnaaDoor
