/- A round: tell, Accepted, Promise, Ledger, Place. -/
import Derived.Test.YtblfljpmkgmjaaaDoorG8
namespace Go.Proofs.YtblfljpmkgmjaaaDoor
open Go.RowKit
variable {K0 : Nat → Prop}

theorem RndAt.newLed {w : World} {rb ab : Nat} {R : Rnd} (h : RndAt K0 w rb ab R) {a : Option Addr} {c : Nat} {L : List EntM} (hl : LedM (fun b => b ≠ rb ∧ b ≠ ab ∧ K0 b) w a L) (hc : a = none → c = 0) (hm : L.length * 96 ≤ 140737488351232) :
    RndAt K0 (w.setCell ⟨rb, 17, none⟩ (.slice a L.length c)) rb ab {R with la := a, lc := c, led := L} := by
  have g : GrX [rb, ab] w (w.setCell ⟨rb, 17, none⟩ (.slice a L.length c)) := (GrX.refl _ w).set (.inl (by simp)) _
  have hT : ∀ y, y ∈ [rb, ab] → ¬ (y ≠ rb ∧ y ≠ ab ∧ K0 y) := by rintro y hy ⟨y1, y2, _⟩; simp at hy; omega
  exact ⟨h.o.set 17 _, h.b.other (fun e => h.ne e.symm) _, h.ne, h.n7, h.x.grx g hT, hl.grx g hT, hc, hm⟩
theorem RndAt.stage {w : World} {rb ab : Nat} {R : Rnd} (h : RndAt K0 w rb ab R) (s : Int) : RndAt K0 (w.setCell ⟨rb, 14, none⟩ (.int .i64 s)) rb ab {R with st := s} := h.set 14 _ rfl rfl rfl rfl rfl rfl
theorem LedM.any {K : Nat → Prop} {w : World} {a : Option Addr} {L : List EntM} (h : LedM K w a L) : LedM Any w a L := h.mono (fun _ _ _ => trivial)

/-- A round's method: what it gives, and what the round knows then. -/
def RndP (K0 : Nat → Prop) (rb ab : Nat) (v : Value) (r : RndV) (w : World) (e : Ending) (w' : World) : Prop := e = .returned v ∧ ∃ R', RndAt K0 w' rb ab R' ∧ R'.v = r ∧ GrX [rb, ab] w w'

set_option maxRecDepth 100000 in
set_option maxHeartbeats 1600000 in
theorem tell_reads (R : Rnd) (w : World) (rb ab : Nat) (h : RndAt K0 w rb ab R) (hr : R.reads = true) :
    Calls Tryd.prog 55 #[.pointer (some ⟨rb, 0, none⟩)] w (RndP K0 rb ab (.tuple #[]) R.v.tell w) := by
  have h1 := h.stage 2
  have c0 : (w.setCell ⟨rb, 14, none⟩ (.int .i64 2)).cell? ⟨rb, 0, none⟩ = some (.slice (some ⟨ab, 0, none⟩) R.an.length R.an.length) := h1.o.cell rfl
  have z0 := h.o.lt
  have f0 := fun i => h.o.free i
  have c14 : w.cell? ⟨rb, 14, none⟩ = some (.int .i64 R.st) := h.o.cell rfl
  obtain ⟨W2, hcl, h2, g2⟩ := h1.clr
  have c11 : W2.cell? ⟨rb, 11, none⟩ = some (.bool true) := h2.o.cell (by simp [Rnd.row, hr])
  have hv : R.v.tell = {R.v.clr with st := 2} := by unfold RndV.tell; simp [hr]
  rw [hv]
  have hg : GrX [rb, ab] w W2 := ((GrX.refl _ w).set (.inl (by simp)) _).trans g2
  have hend : ∃ R', RndAt K0 W2 rb ab R' ∧ R'.v = {R.v.clr with st := 2} ∧ GrX [rb, ab] w W2 := ⟨_, h2, rfl, hg⟩
  replace hend := Lib.hid hend
  clear h h1 h2 g2 hg hv
  go_enter Tryd.func55, Tryd.ntmps55
  go_wp2_with (simp only [hcl])
  go_end0
  exact ⟨rfl, hend.out⟩

set_option maxRecDepth 100000 in
set_option maxHeartbeats 3200000 in
theorem tell_adds (R : Rnd) (w : World) (rb ab : Nat) (hK : ∀ b, w.heap.size ≤ b → K0 b) (h : RndAt K0 w rb ab R) (hr : R.reads = false) (l : List Ent) (n : Nat) (hl : l.length ≤ R.led.length ∨ l.length ≤ 64)
    (hadd : ∀ w', GrX [rb, ab] w w' → Calls Tryd.prog 91 #[.slice R.la R.led.length R.lc, .agg #[.int .i64 R.x.e.cl, .int .i64 R.x.e.nu, .int .i64 R.x.e.kd, .int .i64 R.x.e.id, .int .i64 R.x.e.srv.k, .int .i64 R.x.e.srv.q, .int .i64 R.x.e.srv.t, .int .i64 R.x.e.po, .slice R.x.a R.x.e.tasks.length R.x.c, .int .i64 R.x.e.at_]] w' (AddP l n w')) :
    Calls Tryd.prog 55 #[.pointer (some ⟨rb, 0, none⟩)] w (RndP K0 rb ab (.tuple #[]) {R.v.clr with st := 2, led := l} w) := by
  have h1 := h.stage 2
  have c0 : (w.setCell ⟨rb, 14, none⟩ (.int .i64 2)).cell? ⟨rb, 0, none⟩ = some (.slice (some ⟨ab, 0, none⟩) R.an.length R.an.length) := h1.o.cell rfl
  have z0 := h.o.lt
  have z1 := h.b.lt
  have f0 := fun i => h.o.free i
  have c14 : w.cell? ⟨rb, 14, none⟩ = some (.int .i64 R.st) := h.o.cell rfl
  obtain ⟨W2, hcl, h2, g2⟩ := h1.clr
  have hg : GrX [rb, ab] w W2 := ((GrX.refl _ w).set (.inl (by simp)) _).trans g2
  have d1 : W2.cell? ⟨rb, 1, none⟩ = some (.int .i64 R.x.e.cl) := h2.o.cell rfl
  have d2 : W2.cell? ⟨rb, 2, none⟩ = some (.int .i64 R.x.e.nu) := h2.o.cell rfl
  have d3 : W2.cell? ⟨rb, 3, none⟩ = some (.int .i64 R.x.e.kd) := h2.o.cell rfl
  have d4 : W2.cell? ⟨rb, 4, none⟩ = some (.int .i64 R.x.e.id) := h2.o.cell rfl
  have d5 : W2.cell? ⟨rb, 5, none⟩ = some (.int .i64 R.x.e.srv.k) := h2.o.cell rfl
  have d6 : W2.cell? ⟨rb, 6, none⟩ = some (.int .i64 R.x.e.srv.q) := h2.o.cell rfl
  have d7 : W2.cell? ⟨rb, 7, none⟩ = some (.int .i64 R.x.e.srv.t) := h2.o.cell rfl
  have d8 : W2.cell? ⟨rb, 8, none⟩ = some (.int .i64 R.x.e.po) := h2.o.cell rfl
  have d9 : W2.cell? ⟨rb, 9, none⟩ = some (.slice R.x.a R.x.e.tasks.length R.x.c) := h2.o.cell rfl
  have d10 : W2.cell? ⟨rb, 10, none⟩ = some (.int .i64 R.x.e.at_) := h2.o.cell rfl
  have d11 : W2.cell? ⟨rb, 11, none⟩ = some (.bool false) := h2.o.cell (by simp [Rnd.row, hr])
  have d17 : W2.cell? ⟨rb, 17, none⟩ = some (.slice R.la R.led.length R.lc) := h2.o.cell rfl
  have f2 := fun i => h2.o.free i
  have z2 := h2.o.lt
  have z3 := h2.b.lt
  have hcap := h.cap
  obtain ⟨w3, hw3⟩ : ∃ w3, w3 = W2.drew := ⟨_, rfl⟩
  have hA := hadd W2.drew hg.drew
  replace hA := Lib.hid hA
  replace h2 := Lib.hid h2
  replace hg := Lib.hid hg
  clear h h1 g2 hw3 hadd
  go_enter Tryd.func55, Tryd.ntmps55
  go_wp2_with (simp only [hcl])
  go_region_held3 (fun w' => w'.cell? ⟨rb, 1, none⟩ = some (.int .i64 R.x.e.cl) ∧ w'.cell? ⟨rb, 2, none⟩ = some (.int .i64 R.x.e.nu) ∧ w'.cell? ⟨rb, 3, none⟩ = some (.int .i64 R.x.e.kd) ∧ w'.cell? ⟨rb, 4, none⟩ = some (.int .i64 R.x.e.id) ∧ w'.cell? ⟨rb, 5, none⟩ = some (.int .i64 R.x.e.srv.k) ∧ w'.cell? ⟨rb, 6, none⟩ = some (.int .i64 R.x.e.srv.q) ∧ w'.cell? ⟨rb, 7, none⟩ = some (.int .i64 R.x.e.srv.t) ∧ w'.cell? ⟨rb, 8, none⟩ = some (.int .i64 R.x.e.po) ∧ w'.cell? ⟨rb, 9, none⟩ = some (.slice R.x.a R.x.e.tasks.length R.x.c) ∧ w'.cell? ⟨rb, 10, none⟩ = some (.int .i64 R.x.e.at_) ∧ w'.cell? ⟨rb, 17, none⟩ = some (.slice R.la R.led.length R.lc)) (simp (maxDischargeDepth := 8) [go_sem, *])
    (first
      | (go_at_call 91; (with_reducible refine hA.out.mono ?_); rintro e w1 ⟨a1, c1, L1, rfl, m1, l1, n1, q1, q2, g1⟩; obtain ⟨k1, j1, s1⟩ := g1.cells; simp only [World.size_drew] at k1 j1 s1; have kk1 := fun o => k1 rb o (by omega); have jj1 := fun o => j1 rb o (by omega); replace m1 := Lib.hid m1; clear k1 j1)
      | fail)
  have g3 : Gr W2 w1 := ((Gr.refl W2).drew).trans g1
  have hL1 : L1.length = l.length := by simpa using congrArg List.length m1.out
  have hend := (h2.out.gr g3).newLed (l1.mono (fun b _ hb => by simp at hb; exact ⟨by omega, by omega, hK b (by have := hg.out.size; omega)⟩)) n1 (by omega)
  have hge := (hg.out.gr g3).set (p := ⟨rb, 17, none⟩) (.inl (by simp)) (.slice a1 L1.length c1)
  replace hend := Lib.hid hend
  replace hge := Lib.hid hge
  clear l1 g1 g3 hA hL1
  go_wp2_with fail
  go_end0
  exact ⟨rfl, _, hend.out, by simp [RndV.clr, m1.out], hge.out⟩

set_option maxRecDepth 100000 in
set_option maxHeartbeats 3200000 in
theorem tell_fulls {E : Nat → Addr} (R : Rnd) (w : World) (rb ab : Nat) (h : RndAt K0 w rb ab R) (hr : R.reads = false)
    (hadd : ∀ w', GrX [rb, ab] w w' → Calls Tryd.prog 91 #[.slice R.la R.led.length R.lc, .agg #[.int .i64 R.x.e.cl, .int .i64 R.x.e.nu, .int .i64 R.x.e.kd, .int .i64 R.x.e.id, .int .i64 R.x.e.srv.k, .int .i64 R.x.e.srv.q, .int .i64 R.x.e.srv.t, .int .i64 R.x.e.po, .slice R.x.a R.x.e.tasks.length R.x.c, .int .i64 R.x.e.at_]] w' fun e w'' => e = .returned (.tuple #[.slice none 0 0, .int .i64 0, (Value.iface 194 (.pointer (some (E 8))))]) ∧ Gr w' w'') :
    Calls Tryd.prog 55 #[.pointer (some ⟨rb, 0, none⟩)] w (RndP K0 rb ab (.tuple #[]) {R.v.clr with st := 4} w) := by
  have h1 := h.stage 2
  have c0 : (w.setCell ⟨rb, 14, none⟩ (.int .i64 2)).cell? ⟨rb, 0, none⟩ = some (.slice (some ⟨ab, 0, none⟩) R.an.length R.an.length) := h1.o.cell rfl
  have z0 := h.o.lt
  have z1 := h.b.lt
  have f0 := fun i => h.o.free i
  have c14 : w.cell? ⟨rb, 14, none⟩ = some (.int .i64 R.st) := h.o.cell rfl
  obtain ⟨W2, hcl, h2, g2⟩ := h1.clr
  have hg : GrX [rb, ab] w W2 := ((GrX.refl _ w).set (.inl (by simp)) _).trans g2
  have d1 : W2.cell? ⟨rb, 1, none⟩ = some (.int .i64 R.x.e.cl) := h2.o.cell rfl
  have d2 : W2.cell? ⟨rb, 2, none⟩ = some (.int .i64 R.x.e.nu) := h2.o.cell rfl
  have d3 : W2.cell? ⟨rb, 3, none⟩ = some (.int .i64 R.x.e.kd) := h2.o.cell rfl
  have d4 : W2.cell? ⟨rb, 4, none⟩ = some (.int .i64 R.x.e.id) := h2.o.cell rfl
  have d5 : W2.cell? ⟨rb, 5, none⟩ = some (.int .i64 R.x.e.srv.k) := h2.o.cell rfl
  have d6 : W2.cell? ⟨rb, 6, none⟩ = some (.int .i64 R.x.e.srv.q) := h2.o.cell rfl
  have d7 : W2.cell? ⟨rb, 7, none⟩ = some (.int .i64 R.x.e.srv.t) := h2.o.cell rfl
  have d8 : W2.cell? ⟨rb, 8, none⟩ = some (.int .i64 R.x.e.po) := h2.o.cell rfl
  have d9 : W2.cell? ⟨rb, 9, none⟩ = some (.slice R.x.a R.x.e.tasks.length R.x.c) := h2.o.cell rfl
  have d10 : W2.cell? ⟨rb, 10, none⟩ = some (.int .i64 R.x.e.at_) := h2.o.cell rfl
  have d11 : W2.cell? ⟨rb, 11, none⟩ = some (.bool false) := h2.o.cell (by simp [Rnd.row, hr])
  have d17 : W2.cell? ⟨rb, 17, none⟩ = some (.slice R.la R.led.length R.lc) := h2.o.cell rfl
  have f2 := fun i => h2.o.free i
  have z2 := h2.o.lt
  have z3 := h2.b.lt
  have hcap := h.cap
  have hA := hadd W2.drew hg.drew
  have d14 : W2.cell? ⟨rb, 14, none⟩ = some (.int .i64 2) := h2.o.cell rfl
  replace hA := Lib.hid hA
  replace h2 := Lib.hid h2
  replace hg := Lib.hid hg
  clear h h1 g2 hadd
  go_enter Tryd.func55, Tryd.ntmps55
  go_wp2_with (simp only [hcl])
  go_region_held3 (fun w' => w'.cell? ⟨rb, 1, none⟩ = some (.int .i64 R.x.e.cl) ∧ w'.cell? ⟨rb, 2, none⟩ = some (.int .i64 R.x.e.nu) ∧ w'.cell? ⟨rb, 3, none⟩ = some (.int .i64 R.x.e.kd) ∧ w'.cell? ⟨rb, 4, none⟩ = some (.int .i64 R.x.e.id) ∧ w'.cell? ⟨rb, 5, none⟩ = some (.int .i64 R.x.e.srv.k) ∧ w'.cell? ⟨rb, 6, none⟩ = some (.int .i64 R.x.e.srv.q) ∧ w'.cell? ⟨rb, 7, none⟩ = some (.int .i64 R.x.e.srv.t) ∧ w'.cell? ⟨rb, 8, none⟩ = some (.int .i64 R.x.e.po) ∧ w'.cell? ⟨rb, 9, none⟩ = some (.slice R.x.a R.x.e.tasks.length R.x.c) ∧ w'.cell? ⟨rb, 10, none⟩ = some (.int .i64 R.x.e.at_) ∧ w'.cell? ⟨rb, 17, none⟩ = some (.slice R.la R.led.length R.lc)) (simp (maxDischargeDepth := 8) [go_sem, *])
    (first
      | (go_at_call 91; (with_reducible refine hA.out.mono ?_); rintro e w1 ⟨rfl, g1⟩; obtain ⟨k1, j1, s1⟩ := g1.cells; simp only [World.size_drew] at k1 j1 s1; have kk1 := fun o => k1 rb o (by omega); have jj1 := fun o => j1 rb o (by omega); clear k1 j1)
      | fail)
  have g3 : Gr W2 w1 := ((Gr.refl W2).drew).trans g1
  have hend := (h2.out.gr g3).stage 4
  have hge := (hg.out.gr g3).set (p := ⟨rb, 14, none⟩) (.inl (by simp)) (.int .i64 4)
  replace hend := Lib.hid hend
  replace hge := Lib.hid hge
  clear g1 g3 hA
  go_wp2_with fail
  go_end0
  exact ⟨rfl, _, hend.out, rfl, hge.out⟩

theorem tell_any {G : List Nat} {E : Nat → Addr} (W0 : World) (hE : EAt G E W0) (i6 : 6 ∈ G) (i8 : 8 ∈ G) (R : Rnd) (w : World) (rb ab : Nat) (hK : ∀ b, w.heap.size ≤ b → K0 b) (h : RndAt K0 w rb ab R) (g0 : Gr W0 w) (hrb : W0.heap.size ≤ rb) (hab : W0.heap.size ≤ ab) :
    Calls Tryd.prog 55 #[.pointer (some ⟨rb, 0, none⟩)] w (RndP K0 rb ab (.tuple #[]) R.v.tell w) := by
  have hT : ∀ y, y ∈ [rb, ab] → ¬ (y ≠ rb ∧ y ≠ ab ∧ K0 y) := by rintro y hy ⟨y1, y2, _⟩; simp at hy; omega
  have hB : ∀ x, x ∈ [rb, ab] → W0.heap.size ≤ x := by intro y hy; simp at hy; omega
  have hcap := h.cap
  by_cases hr : R.reads = true
  · exact tell_reads R w rb ab h hr
  · have hr : R.reads = false := by simpa using hr
    rcases plE_cases R.v.led R.v.x.cl R.v.x.nu with hp | ⟨k, hp, hk⟩
    · by_cases h64 : R.led.length < 64
      · have hv : R.v.tell = {R.v.clr with st := 2, led := R.v.led ++ [R.v.x]} := by unfold RndV.tell; simp [hr, hp, h64]
        rw [hv]
        refine tell_adds R w rb ab hK h hr _ (R.led.length + 1) (.inr (by simp; omega)) (fun w' g => ?_)
        exact add_new R.la R.lc R.led R.x w' (hE.gr (GrX.all g0 g hB)) i6 (h.l.grx g hT).any ((h.x.grx g hT).mono (fun _ _ _ => trivial)) (by rw [plIx_map]; exact hp) h64
      · have hv : R.v.tell = {R.v.clr with st := 4} := by unfold RndV.tell; simp [hr, hp, h64]
        rw [hv]
        refine tell_fulls (E := E) R w rb ab h hr (fun w' g => ?_)
        exact add_full R.la R.lc R.led R.x w' (hE.gr (GrX.all g0 g hB)) i6 i8 (h.l.grx g hT).any (by rw [plIx_map]; exact hp) (by omega) (by unfold maxLen; omega)
    · have hne : ¬ plE R.v.led R.v.x.cl R.v.x.nu = -1 := by omega
      have hv : R.v.tell = {R.v.clr with st := 2, led := R.v.led} := by unfold RndV.tell; rw [if_neg (by simp [hr]), if_neg hne]; rfl
      rw [hv]
      refine tell_adds R w rb ab hK h hr _ (k + 1) (.inl (by simp)) (fun w' g => ?_)
      exact add_found R.la R.lc R.led R.x w' k (h.l.grx g hT).any (by rw [plIx_map]; exact hp) (by simpa using hk) hcap
end Go.Proofs.YtblfljpmkgmjaaaDoor
