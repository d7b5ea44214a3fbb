/- plan.Within and the reference's, each in one contract. -/
import Derived.Test.YtmookdgeblcjnaaDoorN9
namespace Go.Proofs.YtmookdgeblcjnaaDoor
open Go.RowKit

/-- How a share compares with a server's; whether there is an answer. -/
def wiB (o : Option Nat) (s : Srv) : Bool := (o == none) && (decide (s.k = 0 ∧ s.q = 0 ∧ s.t = 0) || s.leg)
def wiC (o : Option Nat) (p : Int × Int) (s : Srv) : Int := if wiB o s = true then (if s.k = 0 ∧ s.q = 0 ∧ s.t = 0 then cmpI p.1 p.2 else cmpI (p.1 * s.t) (p.2 * s.q)) else 0

set_option maxHeartbeats 800000 in
theorem within_bad {G : List Nat} {E : Nat → Addr} (a b c d : Int) (s : Srv) (w : World) (hE : EAt G E w) (i0 : 0 ∈ G) (hs : s.leg = false) (hz : ¬ (s.k = 0 ∧ s.q = 0 ∧ s.t = 0)) :
    Calls Tryd.prog 50 #[.agg #[.int .u64 a, .int .u64 b, .int .u64 c, .int .u64 d], .agg #[.int .i64 s.k, .int .i64 s.q, .int .i64 s.t]] w fun e w' => e = .returned (.tuple #[.int .i64 0, .bool false]) ∧ Gr w w' := by
  obtain ⟨k, q, t⟩ := s
  dsimp only at hz ⊢
  replace hs := Lib.hid hs
  have hE2 := hE.gr (((Gr.refl w).alloc (.cells #[.int .u64 a, .int .u64 b, .int .u64 c, .int .u64 d] 34)).alloc (.cells #[.int .i64 k, .int .i64 q, .int .i64 t] 23))
  by_cases hk : k = 0
  · subst hk
    by_cases hq : q = 0
    · subst hq
      have ht : ¬ t = 0 := fun h => hz ⟨rfl, rfl, h⟩
      have ht' : (t == 0) = false := by simpa using ht
      clear hz ht
      go_enter Tryd.func50, Tryd.ntmps50
      go_wp2_with fail
      refine (checkServer_no 0 0 t _ hE2 i0 hs.out).mono ?_
      rintro e wa ⟨rfl, ga⟩
      obtain ⟨ca, fa, sa⟩ := ga.cells
      try simp only [size_drewN] at ca fa sa
      try simp only [World.size_alloc] at ca fa sa
      try simp only [World.size_drew] at ca fa sa
      try simp only [World.size_setCell] at ca fa sa
      have za0 : w.heap.size < wa.heap.size := by omega
      have ya0 : w.heap.size ≤ wa.heap.size := by omega
      have ka0 := fun o => ca (w.heap.size) o (by omega)
      have ja0 := fun o => fa (w.heap.size) o (by omega)
      have za1 : w.heap.size + 1 < wa.heap.size := by omega
      have ka1 := fun o => ca (w.heap.size + 1) o (by omega)
      have ja1 := fun o => fa (w.heap.size + 1) o (by omega)
      go_wp2_with fail
      go_ret2
      refine ⟨rfl, ?_⟩
      repeat (first | exact Gr.refl _ | apply Gr.alloc | apply Gr.drew | apply Gr.drewN | (refine Gr.setCell ?_ (by simp) _) | (refine Gr.trans ?_ (by assumption)))
    · have hq' : (q == 0) = false := by simpa using hq
      clear hz hq
      go_enter Tryd.func50, Tryd.ntmps50
      go_wp2_with fail
      refine (checkServer_no 0 q t _ hE2 i0 hs.out).mono ?_
      rintro e wa ⟨rfl, ga⟩
      obtain ⟨ca, fa, sa⟩ := ga.cells
      try simp only [size_drewN] at ca fa sa
      try simp only [World.size_alloc] at ca fa sa
      try simp only [World.size_drew] at ca fa sa
      try simp only [World.size_setCell] at ca fa sa
      have za0 : w.heap.size < wa.heap.size := by omega
      have ya0 : w.heap.size ≤ wa.heap.size := by omega
      have ka0 := fun o => ca (w.heap.size) o (by omega)
      have ja0 := fun o => fa (w.heap.size) o (by omega)
      have za1 : w.heap.size + 1 < wa.heap.size := by omega
      have ka1 := fun o => ca (w.heap.size + 1) o (by omega)
      have ja1 := fun o => fa (w.heap.size + 1) o (by omega)
      go_wp2_with fail
      go_ret2
      refine ⟨rfl, ?_⟩
      repeat (first | exact Gr.refl _ | apply Gr.alloc | apply Gr.drew | apply Gr.drewN | (refine Gr.setCell ?_ (by simp) _) | (refine Gr.trans ?_ (by assumption)))
  · have hk' : (k == 0) = false := by simpa using hk
    clear hz hk
    go_enter Tryd.func50, Tryd.ntmps50
    go_wp2_with fail
    refine (checkServer_no k q t _ hE2 i0 hs.out).mono ?_
    rintro e wa ⟨rfl, ga⟩
    obtain ⟨ca, fa, sa⟩ := ga.cells
    try simp only [size_drewN] at ca fa sa
    try simp only [World.size_alloc] at ca fa sa
    try simp only [World.size_drew] at ca fa sa
    try simp only [World.size_setCell] at ca fa sa
    have za0 : w.heap.size < wa.heap.size := by omega
    have ya0 : w.heap.size ≤ wa.heap.size := by omega
    have ka0 := fun o => ca (w.heap.size) o (by omega)
    have ja0 := fun o => fa (w.heap.size) o (by omega)
    have za1 : w.heap.size + 1 < wa.heap.size := by omega
    have ka1 := fun o => ca (w.heap.size + 1) o (by omega)
    have ja1 := fun o => fa (w.heap.size + 1) o (by omega)
    go_wp2_with fail
    go_ret2
    refine ⟨rfl, ?_⟩
    repeat (first | exact Gr.refl _ | apply Gr.alloc | apply Gr.drew | apply Gr.drewN | (refine Gr.setCell ?_ (by simp) _) | (refine Gr.trans ?_ (by assumption)))

set_option maxHeartbeats 800000 in
theorem within_leg0 (s : Srv) (w : World) (hs : s.leg = true) :
    Calls Tryd.prog 50 #[partZ, .agg #[.int .i64 s.k, .int .i64 s.q, .int .i64 s.t]] w fun e w' => e = .returned (.tuple #[.int .i64 0, .bool false]) ∧ Gr w w' := by
  obtain ⟨h1, h2, h3, h4, h5⟩ := (Srv.leg_iff _).1 hs
  replace hs := Lib.hid hs
  have ha := fun w => against_zero 0 s.q s.t w
  have e0 : hiW 0 = 0 ∧ loW 0 = 0 := by decide
  rw [e0.1, e0.2] at ha
  replace ha := Lib.hid ha
  clear e0
  go_enter Tryd.func50, Tryd.ntmps50
  go_wp2_with fail
  refine (checkServer_yes s.k s.q s.t _ hs.out).mono ?_
  rintro e wa ⟨rfl, ga⟩
  obtain ⟨ca, fa, sa⟩ := ga.cells
  try simp only [size_drewN] at ca fa sa
  try simp only [World.size_alloc] at ca fa sa
  try simp only [World.size_drew] at ca fa sa
  try simp only [World.size_setCell] at ca fa sa
  have za0 : w.heap.size < wa.heap.size := by omega
  have ya0 : w.heap.size ≤ wa.heap.size := by omega
  have ka0 := fun o => ca (w.heap.size) o (by omega)
  have ja0 := fun o => fa (w.heap.size) o (by omega)
  have za1 : w.heap.size + 1 < wa.heap.size := by omega
  have ka1 := fun o => ca (w.heap.size + 1) o (by omega)
  have ja1 := fun o => fa (w.heap.size + 1) o (by omega)
  go_wp2_with fail
  refine (ha.out _).mono ?_
  rintro e wb ⟨rfl, gb⟩
  obtain ⟨cb, fb, sb⟩ := gb.cells
  try simp only [size_drewN] at cb fb sb
  try simp only [World.size_alloc] at cb fb sb
  try simp only [World.size_drew] at cb fb sb
  try simp only [World.size_setCell] at cb fb sb
  have zb0 : w.heap.size < wb.heap.size := by omega
  have yb0 : w.heap.size ≤ wb.heap.size := by omega
  have kb0 := fun o => cb (w.heap.size) o (by omega)
  have jb0 := fun o => fb (w.heap.size) o (by omega)
  have zb1 : w.heap.size + 1 < wb.heap.size := by omega
  have kb1 := fun o => cb (w.heap.size + 1) o (by omega)
  have jb1 := fun o => fb (w.heap.size + 1) o (by omega)
  go_wp2_with fail
  go_ret2
  refine ⟨rfl, ?_⟩
  repeat (first | exact Gr.refl _ | apply Gr.alloc | apply Gr.drew | apply Gr.drewN | (refine Gr.setCell ?_ (by simp) _) | (refine Gr.trans ?_ (by assumption)))
set_option maxHeartbeats 800000 in
theorem within_whole0 (w : World) :
    Calls Tryd.prog 50 #[partZ, .agg #[.int .i64 0, .int .i64 0, .int .i64 0]] w fun e w' => e = .returned (.tuple #[.int .i64 0, .bool false]) ∧ Gr w w' := by
  have ha := fun w => against_zero 0 1 1 w
  have e0 : hiW 0 = 0 ∧ loW 0 = 0 := by decide
  rw [e0.1, e0.2] at ha
  replace ha := Lib.hid ha
  clear e0
  go_enter Tryd.func50, Tryd.ntmps50
  go_wp2_with fail
  refine (ha.out _).mono ?_
  rintro e wb ⟨rfl, gb⟩
  obtain ⟨cb, fb, sb⟩ := gb.cells
  try simp only [size_drewN] at cb fb sb
  try simp only [World.size_alloc] at cb fb sb
  try simp only [World.size_drew] at cb fb sb
  try simp only [World.size_setCell] at cb fb sb
  have zb0 : w.heap.size < wb.heap.size := by omega
  have yb0 : w.heap.size ≤ wb.heap.size := by omega
  have kb0 := fun o => cb (w.heap.size) o (by omega)
  have jb0 := fun o => fb (w.heap.size) o (by omega)
  have zb1 : w.heap.size + 1 < wb.heap.size := by omega
  have kb1 := fun o => cb (w.heap.size + 1) o (by omega)
  have jb1 := fun o => fb (w.heap.size + 1) o (by omega)
  go_wp2_with fail
  go_ret2
  refine ⟨rfl, ?_⟩
  repeat (first | exact Gr.refl _ | apply Gr.alloc | apply Gr.drew | apply Gr.drewN | (refine Gr.setCell ?_ (by simp) _) | (refine Gr.trans ?_ (by assumption)))

theorem plan_within {G : List Nat} {E : Nat → Addr} (o : Option Nat) (p : Int × Int) (s : Srv) (w : World) (hE : EAt G E w) (i0 : 0 ∈ G) (hp : o = none → Shr p) :
    Calls Tryd.prog 50 #[pv o p, .agg #[.int .i64 s.k, .int .i64 s.q, .int .i64 s.t]] w fun e w' => e = .returned (.tuple #[.int .i64 (wiC o p s), .bool (wiB o s)]) ∧ Gr w w' := by
  by_cases hz : s.k = 0 ∧ s.q = 0 ∧ s.t = 0
  · obtain ⟨k, q, t⟩ := s
    dsimp only at hz
    obtain ⟨rfl, rfl, rfl⟩ := hz
    cases o with
    | none => exact within_whole p w (hp rfl)
    | some g => exact within_whole0 w
  · cases hs : s.leg
    · have : wiB o s = false := by unfold wiB; rw [decide_eq_false hz, hs]; simp
      unfold wiC
      rw [this]
      exact within_bad _ _ _ _ s w hE i0 hs hz
    · cases o with
      | none =>
        have : wiB none s = true := by unfold wiB; rw [hs]; simp
        unfold wiC
        rw [this, if_pos rfl, if_neg hz]
        exact within_leg p s w (hp rfl) hs
      | some g =>
        have : wiB (some g) s = false := rfl
        unfold wiC
        rw [this]
        exact within_leg0 s w hs

set_option maxHeartbeats 800000 in
theorem rwithin_bad (a b c d : Int) (s : Srv) (w : World) (hs : s.leg = false) (hz : ¬ (s.k = 0 ∧ s.q = 0 ∧ s.t = 0)) :
    Calls Tryd.prog 12 #[.agg #[.int .u64 a, .int .u64 b, .int .u64 c, .int .u64 d], .agg #[.int .i64 s.k, .int .i64 s.q, .int .i64 s.t]] w fun e w' => e = .returned (.tuple #[.int .i64 0, .bool false]) ∧ Gr w w' := by
  obtain ⟨k, q, t⟩ := s
  dsimp only at hz ⊢
  have hl := rlegal_any ⟨k, q, t⟩
  rw [hs] at hl
  replace hl := Lib.hid hl
  clear hs
  by_cases hk : k = 0
  · subst hk
    by_cases hq : q = 0
    · subst hq
      have ht : ¬ t = 0 := fun h => hz ⟨rfl, rfl, h⟩
      have ht' : (t == 0) = false := by simpa using ht
      clear hz ht
      go_enter Tryd.func12, Tryd.ntmps12
      go_wp2_with fail
      go_quiet (fail)
      go_wp2_with fail
      refine (hl.out _).mono ?_
      rintro e wa ⟨rfl, ga⟩
      obtain ⟨ca, fa, sa⟩ := ga.cells
      try simp only [size_drewN] at ca fa sa
      try simp only [World.size_alloc] at ca fa sa
      try simp only [World.size_drew] at ca fa sa
      try simp only [World.size_setCell] at ca fa sa
      have za0 : w.heap.size < wa.heap.size := by omega
      have ya0 : w.heap.size ≤ wa.heap.size := by omega
      have ka0 := fun o => ca (w.heap.size) o (by omega)
      have ja0 := fun o => fa (w.heap.size) o (by omega)
      have za1 : w.heap.size + 1 < wa.heap.size := by omega
      have ka1 := fun o => ca (w.heap.size + 1) o (by omega)
      have ja1 := fun o => fa (w.heap.size + 1) o (by omega)
      go_wp2_with fail
      go_ret2
      refine ⟨rfl, ?_⟩
      repeat (first | exact Gr.refl _ | apply Gr.alloc | apply Gr.drew | apply Gr.drewN | (refine Gr.setCell ?_ (by simp) _) | (refine Gr.trans ?_ (by assumption)))
    · have hq' : (q == 0) = false := by simpa using hq
      clear hz hq
      go_enter Tryd.func12, Tryd.ntmps12
      go_wp2_with fail
      go_quiet (fail)
      go_wp2_with fail
      refine (hl.out _).mono ?_
      rintro e wa ⟨rfl, ga⟩
      obtain ⟨ca, fa, sa⟩ := ga.cells
      try simp only [size_drewN] at ca fa sa
      try simp only [World.size_alloc] at ca fa sa
      try simp only [World.size_drew] at ca fa sa
      try simp only [World.size_setCell] at ca fa sa
      have za0 : w.heap.size < wa.heap.size := by omega
      have ya0 : w.heap.size ≤ wa.heap.size := by omega
      have ka0 := fun o => ca (w.heap.size) o (by omega)
      have ja0 := fun o => fa (w.heap.size) o (by omega)
      have za1 : w.heap.size + 1 < wa.heap.size := by omega
      have ka1 := fun o => ca (w.heap.size + 1) o (by omega)
      have ja1 := fun o => fa (w.heap.size + 1) o (by omega)
      go_wp2_with fail
      go_ret2
      refine ⟨rfl, ?_⟩
      repeat (first | exact Gr.refl _ | apply Gr.alloc | apply Gr.drew | apply Gr.drewN | (refine Gr.setCell ?_ (by simp) _) | (refine Gr.trans ?_ (by assumption)))
  · have hk' : (k == 0) = false := by simpa using hk
    clear hz hk
    go_enter Tryd.func12, Tryd.ntmps12
    go_wp2_with fail
    go_quiet (fail)
    go_wp2_with fail
    refine (hl.out _).mono ?_
    rintro e wa ⟨rfl, ga⟩
    obtain ⟨ca, fa, sa⟩ := ga.cells
    try simp only [size_drewN] at ca fa sa
    try simp only [World.size_alloc] at ca fa sa
    try simp only [World.size_drew] at ca fa sa
    try simp only [World.size_setCell] at ca fa sa
    have za0 : w.heap.size < wa.heap.size := by omega
    have ya0 : w.heap.size ≤ wa.heap.size := by omega
    have ka0 := fun o => ca (w.heap.size) o (by omega)
    have ja0 := fun o => fa (w.heap.size) o (by omega)
    have za1 : w.heap.size + 1 < wa.heap.size := by omega
    have ka1 := fun o => ca (w.heap.size + 1) o (by omega)
    have ja1 := fun o => fa (w.heap.size + 1) o (by omega)
    go_wp2_with fail
    go_ret2
    refine ⟨rfl, ?_⟩
    repeat (first | exact Gr.refl _ | apply Gr.alloc | apply Gr.drew | apply Gr.drewN | (refine Gr.setCell ?_ (by simp) _) | (refine Gr.trans ?_ (by assumption)))

set_option maxHeartbeats 800000 in
theorem rwithin_leg (p : Int × Int) (s : Srv) (w : World) (hp : Shr p) (hs : s.leg = true) :
    Calls Tryd.prog 12 #[partV p, .agg #[.int .i64 s.k, .int .i64 s.q, .int .i64 s.t]] w fun e w' => e = .returned (.tuple #[.int .i64 (cmpI (p.1 * s.t) (p.2 * s.q)), .bool true]) ∧ Gr w w' := by
  obtain ⟨h1, h2, h3, h4, h5⟩ := (Srv.leg_iff _).1 hs
  have hl := rlegal_any s
  rw [hs] at hl
  replace hl := Lib.hid hl
  clear hs
  go_enter Tryd.func12, Tryd.ntmps12
  go_wp2_with fail
  go_quiet (fail)
  go_wp2_with fail
  refine (hl.out _).mono ?_
  rintro e wa ⟨rfl, ga⟩
  obtain ⟨ca, fa, sa⟩ := ga.cells
  try simp only [size_drewN] at ca fa sa
  try simp only [World.size_alloc] at ca fa sa
  try simp only [World.size_drew] at ca fa sa
  try simp only [World.size_setCell] at ca fa sa
  have za0 : w.heap.size < wa.heap.size := by omega
  have ya0 : w.heap.size ≤ wa.heap.size := by omega
  have ka0 := fun o => ca (w.heap.size) o (by omega)
  have ja0 := fun o => fa (w.heap.size) o (by omega)
  have za1 : w.heap.size + 1 < wa.heap.size := by omega
  have ka1 := fun o => ca (w.heap.size + 1) o (by omega)
  have ja1 := fun o => fa (w.heap.size + 1) o (by omega)
  go_wp2_with fail
  refine (ragainst_shr p s.q s.t _ hp (by omega) (by omega) (by omega) (by omega)).mono ?_
  rintro e wb ⟨rfl, gb⟩
  obtain ⟨cb, fb, sb⟩ := gb.cells
  try simp only [size_drewN] at cb fb sb
  try simp only [World.size_alloc] at cb fb sb
  try simp only [World.size_drew] at cb fb sb
  try simp only [World.size_setCell] at cb fb sb
  have zb0 : w.heap.size < wb.heap.size := by omega
  have yb0 : w.heap.size ≤ wb.heap.size := by omega
  have kb0 := fun o => cb (w.heap.size) o (by omega)
  have jb0 := fun o => fb (w.heap.size) o (by omega)
  have zb1 : w.heap.size + 1 < wb.heap.size := by omega
  have kb1 := fun o => cb (w.heap.size + 1) o (by omega)
  have jb1 := fun o => fb (w.heap.size + 1) o (by omega)
  go_wp2_with fail
  go_ret2
  refine ⟨rfl, ?_⟩
  repeat (first | exact Gr.refl _ | apply Gr.alloc | apply Gr.drew | apply Gr.drewN | (refine Gr.setCell ?_ (by simp) _) | (refine Gr.trans ?_ (by assumption)))

set_option maxHeartbeats 800000 in
theorem rwithin_leg0 (s : Srv) (w : World) (hs : s.leg = true) :
    Calls Tryd.prog 12 #[partZ, .agg #[.int .i64 s.k, .int .i64 s.q, .int .i64 s.t]] w fun e w' => e = .returned (.tuple #[.int .i64 0, .bool false]) ∧ Gr w w' := by
  obtain ⟨h1, h2, h3, h4, h5⟩ := (Srv.leg_iff _).1 hs
  have hl := rlegal_any s
  rw [hs] at hl
  replace hl := Lib.hid hl
  clear hs
  have ha := fun w => ragainst_zero 0 s.q s.t w
  have e0 : hiW 0 = 0 ∧ loW 0 = 0 := by decide
  rw [e0.1, e0.2] at ha
  replace ha := Lib.hid ha
  clear e0
  go_enter Tryd.func12, Tryd.ntmps12
  go_wp2_with fail
  go_quiet (fail)
  go_wp2_with fail
  refine (hl.out _).mono ?_
  rintro e wa ⟨rfl, ga⟩
  obtain ⟨ca, fa, sa⟩ := ga.cells
  try simp only [size_drewN] at ca fa sa
  try simp only [World.size_alloc] at ca fa sa
  try simp only [World.size_drew] at ca fa sa
  try simp only [World.size_setCell] at ca fa sa
  have za0 : w.heap.size < wa.heap.size := by omega
  have ya0 : w.heap.size ≤ wa.heap.size := by omega
  have ka0 := fun o => ca (w.heap.size) o (by omega)
  have ja0 := fun o => fa (w.heap.size) o (by omega)
  have za1 : w.heap.size + 1 < wa.heap.size := by omega
  have ka1 := fun o => ca (w.heap.size + 1) o (by omega)
  have ja1 := fun o => fa (w.heap.size + 1) o (by omega)
  go_wp2_with fail
  refine (ha.out _).mono ?_
  rintro e wb ⟨rfl, gb⟩
  obtain ⟨cb, fb, sb⟩ := gb.cells
  try simp only [size_drewN] at cb fb sb
  try simp only [World.size_alloc] at cb fb sb
  try simp only [World.size_drew] at cb fb sb
  try simp only [World.size_setCell] at cb fb sb
  have zb0 : w.heap.size < wb.heap.size := by omega
  have yb0 : w.heap.size ≤ wb.heap.size := by omega
  have kb0 := fun o => cb (w.heap.size) o (by omega)
  have jb0 := fun o => fb (w.heap.size) o (by omega)
  have zb1 : w.heap.size + 1 < wb.heap.size := by omega
  have kb1 := fun o => cb (w.heap.size + 1) o (by omega)
  have jb1 := fun o => fb (w.heap.size + 1) o (by omega)
  go_wp2_with fail
  go_ret2
  refine ⟨rfl, ?_⟩
  repeat (first | exact Gr.refl _ | apply Gr.alloc | apply Gr.drew | apply Gr.drewN | (refine Gr.setCell ?_ (by simp) _) | (refine Gr.trans ?_ (by assumption)))

set_option maxHeartbeats 800000 in
theorem rwithin_whole (p : Int × Int) (w : World) (hp : Shr p) :
    Calls Tryd.prog 12 #[partV p, .agg #[.int .i64 0, .int .i64 0, .int .i64 0]] w fun e w' => e = .returned (.tuple #[.int .i64 (cmpI p.1 p.2), .bool true]) ∧ Gr w w' := by
  have hx := fun w => ragainst_shr p 1 1 w hp (by decide) (by decide) (by decide) (by decide)
  rw [Int.mul_one, Int.mul_one] at hx
  replace hx := Lib.hid hx
  go_enter Tryd.func12, Tryd.ntmps12
  go_wp2_with fail
  go_quiet (fail)
  go_wp2_with fail
  refine (hx.out _).mono ?_
  rintro e wb ⟨rfl, gb⟩
  obtain ⟨cb, fb, sb⟩ := gb.cells
  try simp only [size_drewN] at cb fb sb
  try simp only [World.size_alloc] at cb fb sb
  try simp only [World.size_drew] at cb fb sb
  try simp only [World.size_setCell] at cb fb sb
  have zb0 : w.heap.size < wb.heap.size := by omega
  have yb0 : w.heap.size ≤ wb.heap.size := by omega
  have kb0 := fun o => cb (w.heap.size) o (by omega)
  have jb0 := fun o => fb (w.heap.size) o (by omega)
  have zb1 : w.heap.size + 1 < wb.heap.size := by omega
  have kb1 := fun o => cb (w.heap.size + 1) o (by omega)
  have jb1 := fun o => fb (w.heap.size + 1) o (by omega)
  go_wp2_with fail
  go_ret2
  refine ⟨rfl, ?_⟩
  repeat (first | exact Gr.refl _ | apply Gr.alloc | apply Gr.drew | apply Gr.drewN | (refine Gr.setCell ?_ (by simp) _) | (refine Gr.trans ?_ (by assumption)))
set_option maxHeartbeats 800000 in
theorem rwithin_whole0 (w : World) :
    Calls Tryd.prog 12 #[partZ, .agg #[.int .i64 0, .int .i64 0, .int .i64 0]] w fun e w' => e = .returned (.tuple #[.int .i64 0, .bool false]) ∧ Gr w w' := by
  have ha := fun w => ragainst_zero 0 1 1 w
  have e0 : hiW 0 = 0 ∧ loW 0 = 0 := by decide
  rw [e0.1, e0.2] at ha
  replace ha := Lib.hid ha
  clear e0
  go_enter Tryd.func12, Tryd.ntmps12
  go_wp2_with fail
  go_quiet (fail)
  go_wp2_with fail
  refine (ha.out _).mono ?_
  rintro e wb ⟨rfl, gb⟩
  obtain ⟨cb, fb, sb⟩ := gb.cells
  try simp only [size_drewN] at cb fb sb
  try simp only [World.size_alloc] at cb fb sb
  try simp only [World.size_drew] at cb fb sb
  try simp only [World.size_setCell] at cb fb sb
  have zb0 : w.heap.size < wb.heap.size := by omega
  have yb0 : w.heap.size ≤ wb.heap.size := by omega
  have kb0 := fun o => cb (w.heap.size) o (by omega)
  have jb0 := fun o => fb (w.heap.size) o (by omega)
  have zb1 : w.heap.size + 1 < wb.heap.size := by omega
  have kb1 := fun o => cb (w.heap.size + 1) o (by omega)
  have jb1 := fun o => fb (w.heap.size + 1) o (by omega)
  go_wp2_with fail
  go_ret2
  refine ⟨rfl, ?_⟩
  repeat (first | exact Gr.refl _ | apply Gr.alloc | apply Gr.drew | apply Gr.drewN | (refine Gr.setCell ?_ (by simp) _) | (refine Gr.trans ?_ (by assumption)))

theorem ref_within (o : Option Nat) (p : Int × Int) (s : Srv) (w : World) (hp : o = none → Shr p) :
    Calls Tryd.prog 12 #[pv o p, .agg #[.int .i64 s.k, .int .i64 s.q, .int .i64 s.t]] w fun e w' => e = .returned (.tuple #[.int .i64 (wiC o p s), .bool (wiB o s)]) ∧ Gr w w' := by
  by_cases hz : s.k = 0 ∧ s.q = 0 ∧ s.t = 0
  · obtain ⟨k, q, t⟩ := s
    dsimp only at hz
    obtain ⟨rfl, rfl, rfl⟩ := hz
    cases o with
    | none => exact rwithin_whole p w (hp rfl)
    | some g => exact rwithin_whole0 w
  · cases hs : s.leg
    · have : wiB o s = false := by unfold wiB; rw [decide_eq_false hz, hs]; simp
      unfold wiC
      rw [this]
      exact rwithin_bad _ _ _ _ s w hs hz
    · cases o with
      | none =>
        have : wiB none s = true := by unfold wiB; rw [hs]; simp
        unfold wiC
        rw [this, if_pos rfl, if_neg hz]
        exact rwithin_leg p s w (hp rfl) hs
      | some g =>
        have : wiB (some g) s = false := rfl
        unfold wiC
        rw [this]
        exact rwithin_leg0 s w hs
theorem srvErr_shr {l : List Srv} (h : srvErr l = none) : Shr (shareS l) := by
  unfold srvErr at h
  split at h
  · cases h
  · rename_i h1
    split at h
    · cases h
    · rename_i h2; exact shr_share (by simpa using h1) (by omega)
end Go.Proofs.YtmookdgeblcjnaaDoor
