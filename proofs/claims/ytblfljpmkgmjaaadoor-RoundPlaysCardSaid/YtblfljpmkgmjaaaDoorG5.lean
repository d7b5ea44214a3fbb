/- order.Place; almonerref09.Same, SameLedger where they are the same. -/
import Derived.Test.YtblfljpmkgmjaaaDoorG4
namespace Go.Proofs.YtblfljpmkgmjaaaDoor
open Go.RowKit

def isKey (cl nu : Int) (e : Ent) : Bool := e.cl == cl && e.nu == nu

set_option maxHeartbeats 800000 in
theorem keyOf_any (x : EntM) (w : World) :
    Calls Tryd.prog 94 #[.agg #[.int .i64 x.e.cl, .int .i64 x.e.nu, .int .i64 x.e.kd, .int .i64 x.e.id, .int .i64 x.e.srv.k, .int .i64 x.e.srv.q, .int .i64 x.e.srv.t, .int .i64 x.e.po, .slice x.a x.e.tasks.length x.c, .int .i64 x.e.at_]] w fun e w' => e = .returned (.agg #[.int .i64 x.e.cl, .int .i64 x.e.nu]) ∧ Gr w w' := by
  go_enter Tryd.func94, Tryd.ntmps94
  go_wp2
  refine bodyPost_ret (v := .agg #[.int .i64 x.e.cl, .int .i64 x.e.nu]) (by simp [results, Tryd.results94, go_sem]) rfl ⟨rfl, ?_⟩
  repeat (first | exact Gr.refl _ | apply Gr.alloc | apply Gr.drew | apply Gr.drewN | (refine Gr.setCell ?_ (by simp) _) | (refine Gr.trans ?_ (by assumption)))

set_option maxHeartbeats 800000 in
theorem place1_any (x : EntM) (cl nu : Int) (kb : Nat) (w : World) (h0 : w.cell? ⟨kb, 0, none⟩ = some (.int .i64 cl)) (h1 : w.cell? ⟨kb, 1, none⟩ = some (.int .i64 nu)) (hb : kb < w.heap.size) :
    Calls Tryd.prog 93 #[.agg #[.int .i64 x.e.cl, .int .i64 x.e.nu, .int .i64 x.e.kd, .int .i64 x.e.id, .int .i64 x.e.srv.k, .int .i64 x.e.srv.q, .int .i64 x.e.srv.t, .int .i64 x.e.po, .slice x.a x.e.tasks.length x.c, .int .i64 x.e.at_], .pointer (some ⟨kb, 0, none⟩)] w fun e w' => e = .returned (.bool (isKey cl nu x.e)) ∧ Gr w w' := by
  have r0 : (w.alloc x.obj).cell? ⟨kb, 0, none⟩ = some (.int .i64 cl) := by simp [go_sem, *]
  have r1 : (w.alloc x.obj).cell? ⟨kb, 1, none⟩ = some (.int .i64 nu) := by simp [go_sem, *]
  have hk := keyOf_any x
  replace hk := Lib.hid hk
  have hcase : (x.e.cl = cl ∧ x.e.nu = nu) ∨ ¬ x.e.cl = cl ∨ (x.e.cl = cl ∧ ¬ x.e.nu = nu) := by omega
  rcases hcase with ⟨h2, h3⟩ | h2 | ⟨h2, h3⟩
  · have e1 : isKey cl nu x.e = true := by unfold isKey; simp [h2, h3]
    have e2 : (x.e.cl == cl) = true := by simpa using h2
    have e3 : (x.e.nu == nu) = true := by simpa using h3
    clear h2 h3
    replace e1 := Lib.hid e1
    go_enter Tryd.func93, Tryd.ntmps93
    go_wp2_with fail
    go_region_held3 (fun w' => w'.cell? ⟨kb, 0, none⟩ = some (.int .i64 cl) ∧ w'.cell? ⟨kb, 1, none⟩ = some (.int .i64 nu) ∧ w'.cell? ⟨w.heap.size, 0, none⟩ = some (.int .i64 x.e.cl) ∧ w'.cell? ⟨w.heap.size, 1, none⟩ = some (.int .i64 x.e.nu) ∧ w'.cell? ⟨w.heap.size, 2, none⟩ = some (.int .i64 x.e.kd) ∧ w'.cell? ⟨w.heap.size, 3, none⟩ = some (.int .i64 x.e.id) ∧ w'.cell? ⟨w.heap.size, 4, none⟩ = some (.int .i64 x.e.srv.k) ∧ w'.cell? ⟨w.heap.size, 5, none⟩ = some (.int .i64 x.e.srv.q) ∧ w'.cell? ⟨w.heap.size, 6, none⟩ = some (.int .i64 x.e.srv.t) ∧ w'.cell? ⟨w.heap.size, 7, none⟩ = some (.int .i64 x.e.po) ∧ w'.cell? ⟨w.heap.size, 8, none⟩ = some (.slice x.a x.e.tasks.length x.c) ∧ w'.cell? ⟨w.heap.size, 9, none⟩ = some (.int .i64 x.e.at_)) (simp (maxDischargeDepth := 8) [go_sem, *])
      (first
        | (go_at_call 94; refine (hk.out _).mono ?_; rintro e wf ⟨rfl, gf⟩; obtain ⟨cf, ff, sf⟩ := gf.cells; simp only [World.size_drew, World.size_alloc] at cf sf; have kf := fun o => cf kb o (by omega); have kf2 := fun o => cf w.heap.size o (by omega))
        | fail)
    go_wp2_with fail
    go_ret
    refine ⟨retb e1.out.symm, ?_⟩
    exact (((Gr.refl w).alloc _).drew).trans gf
  · have e1 : isKey cl nu x.e = false := by unfold isKey; simp [h2]
    have e2 : (x.e.cl == cl) = false := by simpa using h2
    clear h2
    replace e1 := Lib.hid e1
    go_enter Tryd.func93, Tryd.ntmps93
    go_wp2_with fail
    go_region_held3 (fun w' => w'.cell? ⟨kb, 0, none⟩ = some (.int .i64 cl) ∧ w'.cell? ⟨kb, 1, none⟩ = some (.int .i64 nu) ∧ w'.cell? ⟨w.heap.size, 0, none⟩ = some (.int .i64 x.e.cl) ∧ w'.cell? ⟨w.heap.size, 1, none⟩ = some (.int .i64 x.e.nu) ∧ w'.cell? ⟨w.heap.size, 2, none⟩ = some (.int .i64 x.e.kd) ∧ w'.cell? ⟨w.heap.size, 3, none⟩ = some (.int .i64 x.e.id) ∧ w'.cell? ⟨w.heap.size, 4, none⟩ = some (.int .i64 x.e.srv.k) ∧ w'.cell? ⟨w.heap.size, 5, none⟩ = some (.int .i64 x.e.srv.q) ∧ w'.cell? ⟨w.heap.size, 6, none⟩ = some (.int .i64 x.e.srv.t) ∧ w'.cell? ⟨w.heap.size, 7, none⟩ = some (.int .i64 x.e.po) ∧ w'.cell? ⟨w.heap.size, 8, none⟩ = some (.slice x.a x.e.tasks.length x.c) ∧ w'.cell? ⟨w.heap.size, 9, none⟩ = some (.int .i64 x.e.at_)) (simp (maxDischargeDepth := 8) [go_sem, *])
      (first
        | (go_at_call 94; refine (hk.out _).mono ?_; rintro e wf ⟨rfl, gf⟩; obtain ⟨cf, ff, sf⟩ := gf.cells; simp only [World.size_drew, World.size_alloc] at cf sf; have kf := fun o => cf kb o (by omega); have kf2 := fun o => cf w.heap.size o (by omega))
        | fail)
    go_wp2_with fail
    go_ret
    refine ⟨retb e1.out.symm, ?_⟩
    exact (((Gr.refl w).alloc _).drew).trans gf
  · have e1 : isKey cl nu x.e = false := by unfold isKey; simp [h3]
    have e2 : (x.e.cl == cl) = true := by simpa using h2
    have e3 : (x.e.nu == nu) = false := by simpa using h3
    clear h2 h3
    replace e1 := Lib.hid e1
    go_enter Tryd.func93, Tryd.ntmps93
    go_wp2_with fail
    go_region_held3 (fun w' => w'.cell? ⟨kb, 0, none⟩ = some (.int .i64 cl) ∧ w'.cell? ⟨kb, 1, none⟩ = some (.int .i64 nu) ∧ w'.cell? ⟨w.heap.size, 0, none⟩ = some (.int .i64 x.e.cl) ∧ w'.cell? ⟨w.heap.size, 1, none⟩ = some (.int .i64 x.e.nu) ∧ w'.cell? ⟨w.heap.size, 2, none⟩ = some (.int .i64 x.e.kd) ∧ w'.cell? ⟨w.heap.size, 3, none⟩ = some (.int .i64 x.e.id) ∧ w'.cell? ⟨w.heap.size, 4, none⟩ = some (.int .i64 x.e.srv.k) ∧ w'.cell? ⟨w.heap.size, 5, none⟩ = some (.int .i64 x.e.srv.q) ∧ w'.cell? ⟨w.heap.size, 6, none⟩ = some (.int .i64 x.e.srv.t) ∧ w'.cell? ⟨w.heap.size, 7, none⟩ = some (.int .i64 x.e.po) ∧ w'.cell? ⟨w.heap.size, 8, none⟩ = some (.slice x.a x.e.tasks.length x.c) ∧ w'.cell? ⟨w.heap.size, 9, none⟩ = some (.int .i64 x.e.at_)) (simp (maxDischargeDepth := 8) [go_sem, *])
      (first
        | (go_at_call 94; refine (hk.out _).mono ?_; rintro e wf ⟨rfl, gf⟩; obtain ⟨cf, ff, sf⟩ := gf.cells; simp only [World.size_drew, World.size_alloc] at cf sf; have kf := fun o => cf kb o (by omega); have kf2 := fun o => cf w.heap.size o (by omega))
        | fail)
    go_wp2_with fail
    go_ret
    refine ⟨retb e1.out.symm, ?_⟩
    exact (((Gr.refl w).alloc _).drew).trans gf

/-- The place of the first entry with a key, or -1. -/
def plIx (L : List EntM) (cl nu : Int) : Int := match L.findIdx? (fun x => isKey cl nu x.e) with
  | some i => (i : Int)
  | none => -1
theorem plIx_at {L : List EntM} {cl nu : Int} {k : Nat} {x : EntM} (hb : ∀ y ∈ L.take k, isKey cl nu y.e = false) (hx : L[k]? = some x) (h : isKey cl nu x.e = true) : plIx L cl nu = k := by
  have : L.findIdx? (fun x => isKey cl nu x.e) = some k := by
    rw [List.findIdx?_eq_some_iff_getElem]
    have hk := get_lt hx
    refine ⟨hk, ?_, fun j hj => ?_⟩
    · rw [List.getElem?_eq_getElem hk] at hx; rw [Option.some.inj hx]; exact h
    · have hm : L[j] ∈ L.take k := List.mem_of_getElem? (i := j) (by rw [List.getElem?_take]; simp [hj])
      rw [hb _ hm]; decide
  unfold plIx
  rw [this]
theorem plIx_none {L : List EntM} {cl nu : Int} (hb : ∀ y ∈ L, isKey cl nu y.e = false) : plIx L cl nu = -1 := by
  have : L.findIdx? (fun x => isKey cl nu x.e) = none := by
    rw [List.findIdx?_eq_none_iff]; intro x hx; rw [hb x hx]
  unfold plIx
  rw [this]

set_option maxRecDepth 100000 in
set_option maxHeartbeats 1600000 in
theorem indexFunc_any (a : Option Addr) (c : Nat) (L : List EntM) (cl nu : Int) (kb : Nat) (w : World) (h : LedM Any w a L) (hm : L.length ≤ maxLen) (h0 : w.cell? ⟨kb, 0, none⟩ = some (.int .i64 cl)) (h1 : w.cell? ⟨kb, 1, none⟩ = some (.int .i64 nu)) (hb : kb < w.heap.size) :
    Calls Tryd.prog 92 #[.slice a L.length c, .func (.func 93) #[] #[.pointer (some ⟨kb, 0, none⟩)]] w fun e w' => e = .returned (.int .i64 (plIx L cl nu)) ∧ Gr w w' := by
  unfold maxLen at hm
  go_enter Tryd.func92, Tryd.ntmps92
  go_wp2_with fail
  go_loopw [8] (fun iv wr => ∃ k : Nat, k ≤ L.length ∧ iv = .int .i64 k ∧ (∀ y ∈ L.take k, isKey cl nu y.e = false) ∧ Gr w wr) (fun iv _ => L.length - (intOf iv).toNat)
  case atStart => exact ⟨0, Nat.zero_le _, rfl, (fun _ h => by simp at h), Gr.refl _⟩
  case round =>
    obtain ⟨k, hk, rfl, hbf, hg⟩ := hrel
    replace hbf := Lib.hid hbf
    have q0 := hg.cells.1 kb 0 hb
    have q1 := hg.cells.1 kb 1 hb
    rw [h0] at q0
    rw [h1] at q1
    have hb' : kb < wr.heap.size := Nat.lt_of_lt_of_le hb hg.size
    by_cases hlt : k < L.length
    · obtain ⟨x, hx⟩ := get_some L k hlt
      obtain ⟨b, off, rfl, hbb, _, c0, c1, c2, c3, c4, c5, c6, c7, c8, c9⟩ := (h.gr hg).get hx
      have hp := place1_any x cl nu kb wr q0 q1 hb'
      cases hkey : isKey cl nu x.e
      · rw [hkey] at hp
        have hts := take_snoc hx
        have hbf2 : ∀ y ∈ L.take (k + 1), isKey cl nu y.e = false := by
          intro y hy
          rw [hts] at hy
          rcases List.mem_append.1 hy with hy | hy
          · exact hbf.out y hy
          · rw [List.mem_singleton.1 hy]; exact hkey
        replace hp := Lib.hid hp
        replace hbf2 := Lib.hid hbf2
        replace hkey := Lib.hid hkey
        clear hts
        replace hx := Lib.hid hx
        go_wp2_with fail
        refine (hp.out).mono ?_
        rintro e wp ⟨rfl, gp⟩
        obtain ⟨cp, fp, sp⟩ := gp.cells
        try simp only [size_drewN] at cp fp sp
        try simp only [World.size_alloc] at cp fp sp
        try simp only [World.size_drew] at cp fp sp
        try simp only [World.size_setCell] at cp fp sp
        go_wp2_with fail
        go_roundw
        case rel => exact ⟨k + 1, by omega, by go_num, hbf2.out, hg.trans gp⟩
        case measure => simp [intOf]; omega
      · have hix := plIx_at hbf.out hx hkey
        rw [hkey] at hp
        replace hp := Lib.hid hp
        replace hkey := Lib.hid hkey
        replace hix := Lib.hid hix
        replace hx := Lib.hid hx
        go_wp2_with fail
        refine (hp.out).mono ?_
        rintro e wp ⟨rfl, gp⟩
        obtain ⟨cp, fp, sp⟩ := gp.cells
        try simp only [size_drewN] at cp fp sp
        try simp only [World.size_alloc] at cp fp sp
        try simp only [World.size_drew] at cp fp sp
        try simp only [World.size_setCell] at cp fp sp
        go_wp2_with fail
        go_ret
        exact ⟨ret1 hix.out.symm, hg.trans gp⟩
    · have hall : L.take k = L := List.take_of_length_le (by omega)
      have hbf2 := hbf.out
      rw [hall] at hbf2
      have hix := plIx_none hbf2
      clear hbf2
      replace hix := Lib.hid hix
      go_wp2_with fail
      go_ret
      exact ⟨ret1 hix.out.symm, hg⟩
end Go.Proofs.YtblfljpmkgmjaaaDoor
