/- almonerref09.Place, Add. -/
import Derived.Test.YtblfljpmkgmjaaaDoorQ5
namespace Go.Proofs.YtblfljpmkgmjaaaDoor
open Go.RowKit

set_option maxRecDepth 100000 in
set_option maxHeartbeats 1600000 in
theorem rplace_any (a : Option Addr) (c : Nat) (L : List EntM) (cl nu : Int) (w : World) (h : LedM Any w a L) (hm : L.length ≤ maxLen) :
    Calls Tryd.prog 97 #[.slice a L.length c, .int .i64 cl, .int .i64 nu] w fun e w' => e = .returned (.int .i64 (plIx L cl nu + 1)) ∧ Gr w w' := by
  obtain ⟨P, hP⟩ : ∃ P, P = plIx L cl nu + 1 := ⟨_, rfl⟩
  rw [← hP]
  unfold maxLen at hm
  replace hP := Lib.hid hP
  go_enter Tryd.func97, Tryd.ntmps97
  go_wp2_with fail
  go_loopw [11] (fun iv wr => ∃ k : Nat, k ≤ L.length ∧ iv = .int .i64 k ∧ Hid (∀ y ∈ L.take k, isKey cl nu y.e = false) ∧ Gr w wr) (fun iv _ => L.length - (intOf iv).toNat)
  case atStart => exact ⟨0, Nat.zero_le _, rfl, Lib.hid (fun y hy => by simp at hy), Gr.refl _⟩
  case round =>
    obtain ⟨k, hk, rfl, hno, hg⟩ := hrel
    by_cases hlt : k < L.length
    · obtain ⟨x, hx⟩ := get_some L k hlt
      obtain ⟨b, off, rfl, hb, _, c0, c1, c2, c3, c4, c5, c6, c7, c8, c9⟩ := (h.gr hg).get hx
      have hg2 : Gr w (wr.alloc x.obj) := hg.alloc _
      cases hkey : isKey cl nu x.e with
      | true =>
        have hPk : P = (k : Int) + 1 := by rw [hP.out, plIx_at hno.out hx hkey]
        have e2 : x.e.cl = cl ∧ x.e.nu = nu := by unfold isKey at hkey; simpa using hkey
        have e3 : (x.e.cl == cl) = true := by simpa using e2.1
        have e4 : (x.e.nu == nu) = true := by simpa using e2.2
        replace hx := Lib.hid hx
        replace hPk := Lib.hid hPk
        replace hg2 := Lib.hid hg2
        replace hkey := Lib.hid hkey
        clear e2
        go_wp2_with fail
        go_ret
        exact ⟨by rw [hPk.out]; rfl, hg2.out⟩
      | false =>
        have hno2 : ∀ y ∈ L.take (k + 1), isKey cl nu y.e = false := fun y hy => by
          rw [take_snoc hx] at hy
          rcases List.mem_append.1 hy with hy | hy
          · exact hno.out y hy
          · rw [List.mem_singleton.1 hy]; exact hkey
        by_cases q1 : x.e.cl = cl
        · have e3 : (x.e.cl == cl) = true := by simpa using q1
          have e4 : (x.e.nu == nu) = false := by
            cases h5 : (x.e.nu == nu) with
            | false => rfl
            | true => unfold isKey at hkey; rw [e3, h5] at hkey; cases hkey
          replace hx := Lib.hid hx
          replace hg2 := Lib.hid hg2
          replace hkey := Lib.hid hkey
          replace hno2 := Lib.hid hno2
          clear q1
          go_wp2_with fail
          go_roundw
          case rel => exact ⟨k + 1, by omega, by go_num, hno2, hg2.out⟩
          case measure => simp [intOf]; omega
        · have e3 : (x.e.cl == cl) = false := by simpa using q1
          replace hx := Lib.hid hx
          replace hg2 := Lib.hid hg2
          replace hkey := Lib.hid hkey
          replace hno2 := Lib.hid hno2
          clear q1
          go_wp2_with fail
          go_roundw
          case rel => exact ⟨k + 1, by omega, by go_num, hno2, hg2.out⟩
          case measure => simp [intOf]; omega
    · have hkl : k = L.length := by omega
      have hP0 : P = 0 := by
        have := hno.out
        rw [hkl, List.take_length] at this
        rw [hP.out, plIx_none this]
        rfl
      replace hP0 := Lib.hid hP0
      replace hkl := Lib.hid hkl
      go_wp2_with fail
      go_ret
      exact ⟨by rw [hP0.out]; rfl, hg⟩
/-- The reference's Add, an entry more. -/
def RAddP (L : List Ent) (K : Nat → Prop) (n : Nat) (w : World) (e : Ending) (w' : World) : Prop :=
  ∃ a c L', e = .returned (.tuple #[.slice a L'.length c, .int .i64 n, .int .i64 0]) ∧ L'.map (·.e) = L ∧ LedM (fun b => w.heap.size ≤ b ∨ K b) w' a L' ∧ (a = none → c = 0) ∧ Gr w w'
set_option maxRecDepth 100000 in
set_option maxHeartbeats 1600000 in
theorem radd_found (a : Option Addr) (c : Nat) (L : List EntM) (x : EntM) (w : World) (h : LedM Any w a L) (hm : L.length ≤ maxLen) (k : Nat) (hk : plIx L x.e.cl x.e.nu = k) :
    Calls Tryd.prog 96 #[.slice a L.length c, .agg #[.int .i64 x.e.cl, .int .i64 x.e.nu, .int .i64 x.e.kd, .int .i64 x.e.id, .int .i64 x.e.srv.k, .int .i64 x.e.srv.q, .int .i64 x.e.srv.t, .int .i64 x.e.po, .slice x.a x.e.tasks.length x.c, .int .i64 x.e.at_]] w fun e w' => e = .returned (.tuple #[.slice a L.length c, .int .i64 ((k : Int) + 1), .int .i64 0]) ∧ Gr w w' := by
  have g0 := (Gr.refl w).alloc x.obj
  have hp := rplace_any a c L x.e.cl x.e.nu (w.alloc x.obj) (h.gr g0) hm
  rw [hk] at hp
  have t1 : (0 : Int) < (k : Int) + 1 := by omega
  replace hp := Lib.hid hp
  replace hk := Lib.hid hk
  go_enter Tryd.func96, Tryd.ntmps96
  go_wp2_with fail
  refine (hp.out).mono ?_
  rintro e wp ⟨rfl, gp⟩
  obtain ⟨cp, fp, sp⟩ := gp.cells
  try simp only [size_drewN] at cp fp sp
  try simp only [World.size_alloc] at cp fp sp
  try simp only [World.size_drew] at cp fp sp
  try simp only [World.size_setCell] at cp fp sp
  go_wp2_with fail
  go_ret3
  exact ⟨rfl, g0.trans gp⟩
set_option maxRecDepth 100000 in
set_option maxHeartbeats 1600000 in
theorem radd_full (a : Option Addr) (c : Nat) (L : List EntM) (x : EntM) (w : World) (h : LedM Any w a L) (hm : L.length ≤ maxLen) (hk : plIx L x.e.cl x.e.nu = -1) (h64 : 64 ≤ L.length) :
    Calls Tryd.prog 96 #[.slice a L.length c, .agg #[.int .i64 x.e.cl, .int .i64 x.e.nu, .int .i64 x.e.kd, .int .i64 x.e.id, .int .i64 x.e.srv.k, .int .i64 x.e.srv.q, .int .i64 x.e.srv.t, .int .i64 x.e.po, .slice x.a x.e.tasks.length x.c, .int .i64 x.e.at_]] w fun e w' => e = .returned (.tuple #[.slice none 0 0, .int .i64 0, .int .i64 7]) ∧ Gr w w' := by
  have g0 := (Gr.refl w).alloc x.obj
  have hp := rplace_any a c L x.e.cl x.e.nu (w.alloc x.obj) (h.gr g0) hm
  rw [hk] at hp
  have t2 : (64 : Int) ≤ (L.length : Int) := by omega
  replace hp := Lib.hid hp
  replace hk := Lib.hid hk
  go_enter Tryd.func96, Tryd.ntmps96
  go_wp2_with fail
  refine (hp.out).mono ?_
  rintro e wp ⟨rfl, gp⟩
  obtain ⟨cp, fp, sp⟩ := gp.cells
  try simp only [size_drewN] at cp fp sp
  try simp only [World.size_alloc] at cp fp sp
  try simp only [World.size_drew] at cp fp sp
  try simp only [World.size_setCell] at cp fp sp
  go_wp2_with fail
  go_ret3
  exact ⟨rfl, g0.trans gp⟩
end Go.Proofs.YtblfljpmkgmjaaaDoor
