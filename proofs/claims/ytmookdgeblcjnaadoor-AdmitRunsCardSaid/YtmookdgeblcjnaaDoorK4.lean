/- AdmitRuns: the walk. -/
import Derived.Test.YtmookdgeblcjnaaDoorK2
import Derived.Test.YtmookdgeblcjnaaDoorK3
import Derived.Test.YtmookdgeblcjnaaDoorH7
namespace Go.Proofs.YtmookdgeblcjnaaDoor
open Go.RowKit

def spo (s : Srv) : Srv := ⟨2, s.q, s.t⟩
theorem sumI_cong {α : Type} {f g : α → Int} {l : List α} (h : ∀ x ∈ l, f x = g x) : sumI f l = sumI g l := by
  have h1 := sumI_le f g l (fun x hx => by rw [h x hx]; exact Int.le_refl _)
  have h2 := sumI_le g f l (fun x hx => by rw [h x hx]; exact Int.le_refl _)
  omega
/-- Sporadic servers that fit below the whole can run. -/
theorem runs_start {l : List Srv} (h2 : ∀ s ∈ l, s.k = 2) (hk : kidsErr wh l = none) {d : Nat} (d1 : 1 ≤ d) (hd : reqsI l d ≤ givI (rowI wh) d) : Run d 0 d (l.map fun s => ⟨s, 0, 0, 0⟩) := by
  obtain ⟨hp, hs, -, -⟩ := kids_parts hk
  obtain ⟨hal, h8⟩ := srvErr_none hs
  have hleg : ∀ s ∈ l, Leg s := fun s hx => (Srv.leg_iff s).1 (List.all_eq_true.1 hal s hx)
  refine Run.start hleg (fun n => ?_) ?_ (by omega)
  · have h3 := kids_beyond hk n
    have h4 := giv_le (rowI_ok hp) (show (0 : Int) ≤ n by omega)
    have h5 : sumI (fun s : Srv => s.q * ((n : Int) / s.t)) l = demI l n := sumI_cong fun s hx => by
      unfold askedI
      rw [if_neg (by rw [h2 s hx]; decide), Int.mul_comm]
    omega
  · have h4 := giv_le (rowI_ok hp) (show (0 : Int) ≤ d by omega)
    have h5 : sumI (fun s : Srv => s.q * cup d s.t) l = reqsI l d := sumI_cong fun s hx => by
      unfold reqI cup upI
      rw [if_neg (by omega), if_neg (by rw [h2 s hx]; exact fun e => absurd e.1 (by decide)), Int.mul_comm]
    omega
theorem from_ok4 (d : Int) (N : Nat) (h : 1 ≤ N) : ∃ f : Nat, (d.tmod N + N).tmod N = (f : Int) ∧ f < N := by
  have t1 : -(N : Int) < d.tmod N := by have := Int.lt_tmod_of_pos d (b := (N : Int)) (by omega); omega
  have h1 : 0 ≤ (d.tmod N + N).tmod N := Int.tmod_nonneg _ (by omega)
  have h2 : (d.tmod N + N).tmod N < N := Int.tmod_lt_of_pos _ (by omega)
  exact ⟨((d.tmod N + N).tmod N).toNat, by omega, by omega⟩
theorem recs_alloc1 {α : Type} {k : Nat} {enc : α → List Value} (hk : ∀ s, (enc s).length = k) (W : World) {n : Nat} (hn : W.heap.size = n) (l : List α) (e : TypeId) (cs : Array Value) (h : cs.toList = l.flatMap enc) : RecsAt k enc (W.alloc (.cells cs e)) (some ⟨n, 0, none⟩) l := by
  subst hn
  exact recs_alloc hk W l e cs h
theorem owns_some {α : Type} {k : Nat} {enc : α → List Value} {w : World} {base : Nat} {e : TypeId} {v : Value} {l : List α} (hk : ∀ s, (enc s).length = k) (h : w.ownsRow base e k v l.length (l.flatMap enc)) (hl : l ≠ []) :
    ∃ g o c, v = .slice (some ⟨g, o, none⟩) l.length c ∧ RecsAt k enc w (some ⟨g, o, none⟩) l := by
  obtain ⟨a, c, hv, hr, -, -⟩ := recs_of_owns hk h
  cases l with
  | nil => exact absurd rfl hl
  | cons x r =>
    obtain ⟨b, off, rfl, -⟩ := hr 0 x rfl
    exact ⟨b, off, c, hv, hr⟩

set_option maxRecDepth 100000 in
set_option maxHeartbeats 3200000 in
theorem admitRuns_any {G : List Nat} {E : Nat → Addr} (W : World) (hE : EAt G E W) (i0 : 0 ∈ G) (i1 : 1 ∈ G) (i3 : 3 ∈ G) (la : Option Addr) (lc : Nat) (l : List Srv) (aa : Option Addr) (ac : Nat) (l2 : List Int) (hl : SrvsAt W la l) (hm : l.length * 24 ≤ 140737488351232) (ha : IntsAt W aa l2) (ham : l2.length ≤ maxLen) :
    Calls Tryd.prog 4 #[.slice la l.length lc, .slice aa l2.length ac] W fun e w' => e = .returned (.bool true) ∧ Gr W w' := by
  have hal := alive12_any _ hE i0 i1 i3
  obtain ⟨i23, hi, hz0, hz1, hz2⟩ := info_parts Tryd.infoSrv
  obtain ⟨i3', hi', hz0', hz1', hz2'⟩ := info_parts Tryd.infoInt
  replace hal := Lib.hid hal
  have ham2 := ham
  unfold maxLen at ham2
  go_enter Tryd.func4, Tryd.ntmps4
  go_wp2_with fail
  refine (hal.out).mono ?_
  rintro e wa ⟨rfl, ga⟩
  obtain ⟨ca, fa, sa⟩ := ga.cells
  try simp only [size_drewN] at ca fa sa
  try simp only [World.size_alloc] at ca fa sa
  try simp only [World.size_drew] at ca fa sa
  try simp only [World.size_setCell] at ca fa sa
  go_wp2_with fail
  go_loopw [20, 5] (fun iv ov wr => ∃ (k : Nat) (g o c : Nat), k ≤ l.length ∧ iv = .int .i64 k ∧ ov = .slice (some ⟨g, o, none⟩) k c ∧ wr.ownsRow W.heap.size 23 3 ov k (((l.take k).map spo).flatMap Srv.cells) ∧ RecsAt 3 Srv.cells wr (some ⟨g, o, none⟩) ((l.take k).map spo) ∧ Gr W wr) (fun iv _ _ => l.length - (intOf iv).toNat)
  case atStart =>
    refine ⟨0, _, _, _, Nat.zero_le _, rfl, rfl, ?_, ?_, (ga).alloc _⟩
    · rw [List.take_zero]
      exact owns_empty wa 23 3 _ rfl _ ga.size
    · rw [List.take_zero]
      exact fun i s hi => by simp at hi
  case round =>
    obtain ⟨k, g, o, c, hk, rfl, rfl, hown, hr, hg⟩ := hrel
    by_cases hlt : k < l.length
    · obtain ⟨x, hx⟩ := get_some l k hlt
      obtain ⟨b, off, rfl, hb, c0, c1, c2⟩ := (hl.gr hg) k x hx
      have hlk : ((l.take k).map spo).length = k := by rw [List.length_map, List.length_take]; omega
      have hts : (l.take (k + 1)).map spo = (l.take k).map spo ++ [spo x] := by rw [take_snoc hx, List.map_append]; rfl
      have hlk1 : ((l.take k).map spo ++ [spo x]).length = k + 1 := by rw [List.length_append, hlk]; rfl
      have hwb : W.heap.size ≤ wr.heap.size := hg.size
      have n1 : ((l.take k).map spo).length + ([spo x] : List Srv).length ≤ maxLen := by rw [hlk]; unfold maxLen; simp; omega
      have n2 : (((l.take k).map spo).length + ([spo x] : List Srv).length) * 24 ≤ 140737488355328 := by rw [hlk]; simp; omega
      have hown0 : wr.ownsRow W.heap.size 23 3 (.slice (some ⟨g, o, none⟩) k c) ((l.take k).map spo).length (((l.take k).map spo).flatMap Srv.cells) := by rw [hlk]; exact hown
      replace hown0 := Lib.hid hown0
      replace hlk := Lib.hid hlk
      replace hts := Lib.hid hts
      replace hlk1 := Lib.hid hlk1
      replace hx := Lib.hid hx
      replace hr := Lib.hid hr
      go_wp2_with (at_builtin; refine wpList_append_recs (k := 3) (enc := Srv.cells) rfl _ _ 24 rfl W.heap.size 23 i23 _ 24 Tryd.underlying24 hi hz0 hz1 hz2 rfl (by decide) Srv.cells_len Srv.cells_one (.slice (some ⟨g, o, none⟩) k c) ((l.take k).map spo) rfl (owns_gr hown0.out (((Gr.refl wr).alloc _).alloc _)) (some ⟨wr.heap.size + 1, 0, none⟩) 1 [spo x] rfl (recs_alloc1 Srv.cells_len _ (by simp) [spo x] _ _ rfl) (fun h => by cases h) n1 n2 (by simp; omega) ?_; intro v1 w1 hown1 hgr1; have hg1 : Gr W w1 := ((hg.alloc _).alloc _).grown hgr1 (own_block hown); obtain ⟨g1, o1, cc1, hv1, hr1⟩ := owns_some Srv.cells_len hown1 (by simp); rw [hlk1.out] at hv1 hown1; subst hv1)
      go_roundw
      case rel => exact ⟨k + 1, g1, o1, cc1, by omega, by go_num, rfl, by rw [hts.out]; exact hown1, by rw [hts.out]; exact hr1, hg1⟩
      case measure => simp [intOf]; omega
    · obtain rfl : k = l.length := by omega
      rw [List.take_length] at hr
      have hP := recs_srvs hr
      obtain ⟨P, hPd⟩ : ∃ P, P = l.map spo := ⟨_, rfl⟩
      have hPk : ∀ s ∈ P, s.k = 2 := fun s hs => by
        rw [hPd] at hs
        obtain ⟨y, -, rfl⟩ := List.mem_map.1 hs
        rfl
      have hPl : P.length = l.length := by rw [hPd, List.length_map]
      rw [← hPd] at hP
      replace hPd := Lib.hid hPd
      clear hown hr hlt
      have hPm : P.length ≤ maxLen := by unfold maxLen; omega
      have hki := fun w' (g' : Gr W w') (g2 : Gr wr w') => kids_any wh (some ⟨g, o, none⟩) P c w' (hE.gr g') i0 i1 i3 (hP.gr g2) hPm
      rw [hPl] at hki
      cases hko : kidsErr wh P with
      | some e =>
        rw [hko] at hki
        replace hki := Lib.hid hki
        replace hko := Lib.hid hko
        go_wp2_with fail
        refine (hki.out wr hg (Gr.refl wr)).mono ?_
        rintro e' w2 ⟨rfl, g2⟩
        unfold errV errAt
        go_wp2_with fail
        go_ret
        exact ⟨rfl, hg.trans g2⟩
      | none =>
        rw [hko] at hki
        have hdr := fun w' (g' : Gr W w') (g2 : Gr wr w') => drain_yes wh (some ⟨g, o, none⟩) P c w' (hE.gr g') i0 i1 i3 (hP.gr g2) hPm hko
        rw [hPl] at hdr
        have hP8 := (srvErr_none (kids_parts hko).2.1).2
        have hst := fun (d : Nat) d1 hd => runs_start (d := d) hPk hko d1 hd
        replace hki := Lib.hid hki
        replace hdr := Lib.hid hdr
        replace hko := Lib.hid hko
        replace hst := Lib.hid hst
        replace hP := Lib.hid hP
        replace hPk := Lib.hid hPk
        go_wp2_with fail
        refine (hki.out wr hg (Gr.refl wr)).mono ?_
        rintro e' w2 ⟨rfl, g2⟩
        unfold errV
        go_wp2_with fail
        refine (hdr.out w2 (hg.trans g2) g2).mono ?_
        rintro e' w3 ⟨d, rfl, d1, d2, hd, g3⟩
        have hs := hst.out d d1 hd
        replace hs := Lib.hid hs
        replace hd := Lib.hid hd
        have g23 : Gr wr w3 := g2.trans g3
        have g33 : Gr W w3 := hg.trans g23
        go_wp2_with fail
        go_loopw [43, 10] (fun iv ov wq => ∃ (j : Nat) (ws : List Int) (g4 o4 c4 : Nat), j ≤ l2.length ∧ iv = .int .i64 j ∧ ov = .slice (some ⟨g4, o4, none⟩) ws.length c4 ∧ ws.length ≤ j ∧ ws.length ≤ 50 ∧ (∀ x ∈ ws, 0 ≤ x ∧ x ≤ 39) ∧ wq.ownsRow w3.heap.size 3 1 ov ws.length (ws.flatMap intC) ∧ IntsAt wq (some ⟨g4, o4, none⟩) ws ∧ Gr w3 wq) (fun iv _ _ => l2.length - (intOf iv).toNat)
        case atStart =>
          refine ⟨0, [], _, _, _, Nat.zero_le _, rfl, rfl, Nat.le_refl _, by simp, (fun x hx => by cases hx), ?_, (fun i s hi => by simp at hi), (Gr.refl w3).alloc _⟩
          exact owns_empty w3 3 1 _ rfl _ (Nat.le_refl _)
        case round =>
          obtain ⟨j, ws, g4, o4, c4, hj, rfl, rfl, hwj, hw50, hw39, hown, hri, hg4⟩ := hrel
          by_cases hlt : j < l2.length
          · obtain ⟨y, hy⟩ := get_some l2 j hlt
            obtain ⟨b, off, rfl, hb, c0⟩ := (ha.gr (g33.trans hg4)).get hy
            have t1 : -(40 : Int) < y.tmod 40 := by have := Int.lt_tmod_of_pos y (b := 40) (by omega); omega
            have t2 : y.tmod 40 < 40 := Int.tmod_lt_of_pos y (by omega)
            obtain ⟨f, hfr, hfN⟩ : ∃ f : Nat, (y.tmod 40 + 40).tmod 40 = (f : Int) ∧ f < 40 := from_ok4 y 40 (by omega)
            have hfr2 : (y.tmod 40 + 40) % (40 : Int) = (f : Int) := by rw [← Int.tmod_eq_emod_of_nonneg (by omega)]; exact hfr
            replace hri := Lib.hid hri
            replace hy := Lib.hid hy
            have hlw : (ws ++ [(f : Int)]).length = ws.length + 1 := by rw [List.length_append]; rfl
            have hmem : ∀ x ∈ ws ++ [(f : Int)], 0 ≤ x ∧ x ≤ 39 := fun x hx => by
              rcases List.mem_append.1 hx with h | h
              · exact hw39 x h
              · rw [List.mem_singleton.1 h]; omega
            replace hmem := Lib.hid hmem
            replace hlw := Lib.hid hlw
            replace hw39 := Lib.hid hw39
            by_cases h50 : j < 50
            · have n1 : ws.length + ([(f : Int)] : List Int).length ≤ maxLen := by unfold maxLen; simp; omega
              have n2 : (ws.length + ([(f : Int)] : List Int).length) * 8 ≤ 140737488355328 := by simp; omega
              have n3 := hg4.size
              go_wp2_with (at_builtin; refine wpList_append_recs (k := 1) (enc := intC) rfl _ _ 40 rfl w3.heap.size 3 i3' _ 8 Tryd.underlying40 hi' hz0' hz1' hz2' rfl (by decide) intC_len intC_one (.slice (some ⟨g4, o4, none⟩) ws.length c4) ws rfl (hown.alloc _) (some ⟨wr.heap.size, 0, none⟩) 1 [(f : Int)] rfl (recs_alloc intC_len wr [(f : Int)] _ _ rfl) (fun h => by cases h) n1 n2 (le_alloc n3 _) ?_; intro v1 w5 hown1 hgr1; have hg5 : Gr w3 w5 := (hg4.alloc _).grown hgr1 (own_block hown); obtain ⟨g5, o5, c5, hv1, hr1⟩ := owns_some intC_len hown1 (by simp); rw [hlw.out] at hv1; subst hv1)
              go_roundw
              case rel => exact ⟨j + 1, ws ++ [(f : Int)], g5, o5, c5, by omega, by go_num, by rw [hlw.out], by rw [hlw.out]; omega, by rw [hlw.out]; omega, hmem.out, hown1, hr1, hg5⟩
              case measure => simp [intOf]; omega
            · go_wp2_with fail
              go_roundw
              case rel => exact ⟨j + 1, ws, g4, o4, c4, by omega, by go_num, rfl, by omega, hw50, hw39.out, hown, hri.out, hg4⟩
              case measure => simp [intOf]; omega
          · have hrun := run_any g o P c g4 o4 ws c4 d wr (hP.out.gr (g23.trans hg4)) hri hw39 hw50 hP8 hs.out (by omega)
            rw [hPl] at hrun
            replace hrun := Lib.hid hrun
            clear hown hri hw39
            go_wp2_with fail
            refine hrun.out.mono ?_
            rintro e' w6 ⟨m, rfl, hmd, g6⟩
            go_wp2_with fail
            go_ret
            exact ⟨rfl, (g33.trans hg4).trans g6⟩
end Go.Proofs.YtmookdgeblcjnaaDoor
