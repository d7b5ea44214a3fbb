/- almonerref09.ok, SameOrder where they differ; the form of an entry. -/
import Derived.Test.YtblfljpmkgmjaaaDoorG15
namespace Go.Proofs.YtblfljpmkgmjaaaDoor
open Go.RowKit

theorem okR_any (n : Int) (w : World) : Calls Tryd.prog 58 #[.int .i64 n] w fun e w' => e = .returned (.bool (okN n)) ∧ w = w' := by
  by_cases h0 : 0 ≤ n
  · by_cases h1 : n ≤ 1099511627776
    · rw [okN_iff.2 ⟨h0, h1⟩]
      go_enter Tryd.func58, Tryd.ntmps58
      go_wp2
      go_ret
      exact ⟨rfl, rfl⟩
    · rw [show okN n = false from decide_eq_false (by omega)]
      go_enter Tryd.func58, Tryd.ntmps58
      go_wp2
      go_ret
      exact ⟨rfl, rfl⟩
  · rw [show okN n = false from decide_eq_false (by omega)]
    go_enter Tryd.func58, Tryd.ntmps58
    go_wp2
    go_ret
    exact ⟨rfl, rfl⟩

/-- A task's numbers, an order, an entry are in form. -/
def tskF (t : Tsk) : Bool := okN t.c && okN t.p && okN t.d && okN t.s
def ordF (e : Ent) : Bool :=
  okN e.at_ && okN e.id && (
    if e.kd = 1 ∨ e.kd = 2 then decide (e.po = 0) && decide (e.tasks = []) && (okN e.srv.k && okN e.srv.q && okN e.srv.t)
    else if e.kd = 3 then decide (e.po = 0) && decide (e.tasks = []) && decide (e.srv.k = 0 ∧ e.srv.q = 0 ∧ e.srv.t = 0)
    else if e.kd = 4 then decide (e.srv.k = 0 ∧ e.srv.q = 0 ∧ e.srv.t = 0) && okN e.po && decide (e.tasks.length ≤ 8) && e.tasks.all tskF
    else false)
def entF (e : Ent) : Bool := decide (0 ≤ e.cl ∧ e.cl < 16 ∧ 1 ≤ e.nu ∧ e.nu ≤ 1099511627776) && ordF e

set_option maxHeartbeats 800000 in
theorem taskBad_any (t : Tsk) (w : World) :
    Calls Tryd.prog 116 #[.agg #[.int .i64 t.c, .int .i64 t.p, .int .i64 t.d, .int .i64 t.s]] w fun e w' => e = .returned (.bool (!tskF t)) ∧ Gr w w' := by
  have hf := fun (b : Nat) (w : World) h => fit_any (some ⟨b, 0, none⟩) [t.c, t.p, t.d, t.s] 4 w h (by unfold maxLen; simp)
  have hall : [t.c, t.p, t.d, t.s].all okN = tskF t := by simp [tskF, Bool.and_assoc]
  rw [hall] at hf
  obtain ⟨v, hv⟩ : ∃ v, v = tskF t := ⟨_, rfl⟩
  rw [← hv] at hf ⊢
  replace hv := Lib.hid hv
  replace hf := Lib.hid hf
  clear hall
  go_enter Tryd.func116, Tryd.ntmps116
  go_wp2_with fail
  refine (hf.out (w.heap.size + 1) _ ?_).mono ?_
  · have := recs_alloc intC_len (w.alloc (.cells #[.int .i64 t.c, .int .i64 t.p, .int .i64 t.d, .int .i64 t.s] 65)) [t.c, t.p, t.d, t.s] 3 #[.int .i64 t.c, .int .i64 t.p, .int .i64 t.d, .int .i64 t.s] rfl
    simpa using this
  rintro e w1 ⟨rfl, rfl⟩
  go_wp2_with fail
  go_ret
  exact ⟨rfl, ((Gr.refl _).alloc _).alloc _⟩

set_option maxRecDepth 100000 in
set_option maxHeartbeats 1600000 in
theorem idxTask_any (a : Option Addr) (c : Nat) (L : List Tsk) (w : World) (h : RecsIn Any 4 Tsk.cells w a L) (hm : L.length ≤ maxLen) :
    Calls Tryd.prog 124 #[.slice a L.length c, .func (.func 116) #[] #[]] w fun e w' => (∃ n, e = .returned (.int .i64 n) ∧ (L.all tskF = decide (n < 0))) ∧ Gr w w' := by
  unfold maxLen at hm
  go_enter Tryd.func124, Tryd.ntmps124
  go_wp2_with fail
  go_loopw [8] (fun iv wr => ∃ k : Nat, k ≤ L.length ∧ iv = .int .i64 k ∧ (L.take k).all tskF = true ∧ Gr w wr) (fun iv _ => L.length - (intOf iv).toNat)
  case atStart => exact ⟨0, Nat.zero_le _, rfl, rfl, Gr.refl _⟩
  case round =>
    obtain ⟨k, hk, rfl, hbf, hg⟩ := hrel
    replace hbf := Lib.hid hbf
    by_cases hlt : k < L.length
    · obtain ⟨x, hx⟩ := get_some L k hlt
      obtain ⟨b, off, rfl, hbb, c0, c1, c2, c3⟩ := tsk_cells (h.grx (T := []) (hg.x []) (fun _ h => by cases h)).1 hx
      have hp := taskBad_any x wr
      cases hkey : tskF x
      · rw [hkey] at hp
        have hno : L.all tskF = false := by
          cases hh : L.all tskF
          · rfl
          · have := List.all_eq_true.1 hh x (get_mem hx)
            rw [hkey] at this; cases this
        replace hno := Lib.hid hno
        replace hp := Lib.hid hp
        replace hkey := Lib.hid hkey
        replace hx := Lib.hid hx
        go_wp2_with fail
        refine (hp.out).mono ?_
        rintro e wp ⟨rfl, gp⟩
        obtain ⟨cp, fp, sp⟩ := gp.cells
        try simp only [size_drewN] at cp fp sp
        try simp only [World.size_alloc] at cp fp sp
        try simp only [World.size_drew] at cp fp sp
        try simp only [World.size_setCell] at cp fp sp
        go_wp2_with fail
        go_ret
        exact ⟨⟨k, rfl, by rw [hno.out, decide_eq_false (by omega)]⟩, hg.trans gp⟩
      · rw [hkey] at hp
        have hts := take_snoc hx
        have hbf2 : (L.take (k + 1)).all tskF = true := by rw [hts, List.all_append, hbf.out]; simp [hkey]
        replace hp := Lib.hid hp
        replace hbf2 := Lib.hid hbf2
        replace hkey := Lib.hid hkey
        clear hts
        replace hx := Lib.hid hx
        go_wp2_with fail
        refine (hp.out).mono ?_
        rintro e wp ⟨rfl, gp⟩
        obtain ⟨cp, fp, sp⟩ := gp.cells
        try simp only [size_drewN] at cp fp sp
        try simp only [World.size_alloc] at cp fp sp
        try simp only [World.size_drew] at cp fp sp
        try simp only [World.size_setCell] at cp fp sp
        go_wp2_with fail
        go_roundw
        case rel => exact ⟨k + 1, by omega, by go_num, hbf2.out, hg.trans gp⟩
        case measure => simp [intOf]; omega
    · have hall : L.take k = L := List.take_of_length_le (by omega)
      have hbf2 := hbf.out
      rw [hall] at hbf2
      replace hbf2 := Lib.hid hbf2
      go_wp2_with fail
      go_ret
      exact ⟨⟨-1, rfl, by rw [hbf2.out]; rfl⟩, hg⟩
set_option maxHeartbeats 800000 in
theorem badTask_any (a : Option Addr) (c : Nat) (L : List Tsk) (w : World) (h : RecsIn Any 4 Tsk.cells w a L) (hm : L.length ≤ maxLen) :
    Calls Tryd.prog 115 #[.slice a L.length c, .func (.func 116) #[] #[]] w fun e w' => e = .returned (.bool (!L.all tskF)) ∧ Gr w w' := by
  have hp := idxTask_any a c L w h hm
  replace hp := Lib.hid hp
  obtain ⟨v, hv⟩ : ∃ v, v = L.all tskF := ⟨_, rfl⟩
  rw [← hv]
  replace hv := Lib.hid hv
  go_enter Tryd.func115, Tryd.ntmps115
  go_wp2_with fail
  refine hp.out.mono ?_
  rintro e w1 ⟨⟨n, rfl, hn⟩, g1⟩
  replace hn := Lib.hid hn
  go_wp2_with fail
  go_ret
  refine ⟨?_, g1⟩
  rw [hv.out, hn.out]
  by_cases h0 : n < 0 <;> simp [h0] <;> omega
end Go.Proofs.YtblfljpmkgmjaaaDoor
