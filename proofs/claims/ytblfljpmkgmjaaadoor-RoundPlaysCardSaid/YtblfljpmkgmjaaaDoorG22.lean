/- almonerref09.InForm. -/
import Derived.Test.YtblfljpmkgmjaaaDoorG21
namespace Go.Proofs.YtblfljpmkgmjaaaDoor
open Go.RowKit

abbrev Ent.agg (e : Ent) (a : Option Addr) (c : Nat) : Value := .agg #[.int .i64 e.cl, .int .i64 e.nu, .int .i64 e.kd, .int .i64 e.id, .int .i64 e.srv.k, .int .i64 e.srv.q, .int .i64 e.srv.t, .int .i64 e.po, .slice a e.tasks.length c, .int .i64 e.at_]
abbrev Ent.ord (e : Ent) (a : Option Addr) (c : Nat) : Obj := .cells #[.int .i64 e.kd, .int .i64 e.id, .int .i64 e.srv.k, .int .i64 e.srv.q, .int .i64 e.srv.t, .int .i64 e.po, .slice a e.tasks.length c, .int .i64 e.at_] 34

set_option maxRecDepth 100000 in
set_option maxHeartbeats 3200000 in
theorem inForm_range (x : EntM) (w : World) (hno : entF x.e = false) (hr : ¬ (0 ≤ x.e.cl ∧ x.e.cl < 16 ∧ 1 ≤ x.e.nu ∧ x.e.nu ≤ 1099511627776 ∧ (okN x.e.at_ && okN x.e.id) = true)) :
    Calls Tryd.prog 24 #[x.e.agg x.a x.c] w fun e w' => e = .returned (.bool (entF x.e)) ∧ Gr w w' := by
  rw [hno]
  replace hno := Lib.hid hno
  by_cases n1 : x.e.cl < 0
  · clear hr
    go_enter Tryd.func24, Tryd.ntmps24
    go_wp2_with fail
    go_ret
    exact ⟨rfl, (by repeat (first | exact Gr.refl _ | apply Gr.alloc | apply Gr.drew | apply Gr.drewN | (refine Gr.setCell ?_ (by first | (simp; done) | (simp; omega)) _) | (refine Gr.trans ?_ (by assumption))))⟩
  · by_cases n2 : 15 < x.e.cl
    · clear hr
      go_enter Tryd.func24, Tryd.ntmps24
      go_wp2_with fail
      go_ret
      exact ⟨rfl, (by repeat (first | exact Gr.refl _ | apply Gr.alloc | apply Gr.drew | apply Gr.drewN | (refine Gr.setCell ?_ (by first | (simp; done) | (simp; omega)) _) | (refine Gr.trans ?_ (by assumption))))⟩
    · by_cases n3 : x.e.nu < 1
      · clear hr
        go_enter Tryd.func24, Tryd.ntmps24
        go_wp2_with fail
        go_ret
        exact ⟨rfl, (by repeat (first | exact Gr.refl _ | apply Gr.alloc | apply Gr.drew | apply Gr.drewN | (refine Gr.setCell ?_ (by first | (simp; done) | (simp; omega)) _) | (refine Gr.trans ?_ (by assumption))))⟩
      · cases n4 : okN x.e.nu with
        | false =>
          clear hr
          go_enter Tryd.func24, Tryd.ntmps24
          go_wp2_with fail
          refine (okR_any _ _).mono ?_
          rintro e wa ⟨rfl, rfl⟩
          go_wp2_with fail
          go_ret
          exact ⟨rfl, (by repeat (first | exact Gr.refl _ | apply Gr.alloc | apply Gr.drew | apply Gr.drewN | (refine Gr.setCell ?_ (by first | (simp; done) | (simp; omega)) _) | (refine Gr.trans ?_ (by assumption))))⟩
        | true =>
          cases n5 : okN x.e.at_ with
          | false =>
            clear hr
            go_enter Tryd.func24, Tryd.ntmps24
            go_wp2_with fail
            refine (okR_any _ _).mono ?_
            rintro e wa ⟨rfl, rfl⟩
            go_wp2_with fail
            refine (okR_any _ _).mono ?_
            rintro e wa ⟨rfl, rfl⟩
            go_wp2_with fail
            go_ret
            exact ⟨rfl, (by repeat (first | exact Gr.refl _ | apply Gr.alloc | apply Gr.drew | apply Gr.drewN | (refine Gr.setCell ?_ (by first | (simp; done) | (simp; omega)) _) | (refine Gr.trans ?_ (by assumption))))⟩
          | true =>
            cases n6 : okN x.e.id with
            | false =>
              clear hr
              go_enter Tryd.func24, Tryd.ntmps24
              go_wp2_with fail
              refine (okR_any _ _).mono ?_
              rintro e wa ⟨rfl, rfl⟩
              go_wp2_with fail
              refine (okR_any _ _).mono ?_
              rintro e wa ⟨rfl, rfl⟩
              go_wp2_with fail
              refine (okR_any _ _).mono ?_
              rintro e wa ⟨rfl, rfl⟩
              go_wp2_with fail
              go_ret
              exact ⟨rfl, (by repeat (first | exact Gr.refl _ | apply Gr.alloc | apply Gr.drew | apply Gr.drewN | (refine Gr.setCell ?_ (by first | (simp; done) | (simp; omega)) _) | (refine Gr.trans ?_ (by assumption))))⟩
            | true =>
              have := okN_iff.1 n4
              exact absurd ⟨by omega, by omega, by omega, this.2, by rw [n5, n6]; rfl⟩ hr

/-- almonerref09.SameOrder as InForm calls it. -/
theorem sameO_create (x : EntM) (w W : World) (h : x.ok Any w) (g : Gr w W) : Calls Tryd.prog 59 #[.agg #[.int .i64 x.e.kd, .int .i64 x.e.id, .int .i64 x.e.srv.k, .int .i64 x.e.srv.q, .int .i64 x.e.srv.t, .int .i64 x.e.po, .slice x.a x.e.tasks.length x.c, .int .i64 x.e.at_], .agg #[.int .i64 x.e.kd, .int .i64 x.e.id, .int .i64 x.e.srv.k, .int .i64 x.e.srv.q, .int .i64 x.e.srv.t, .int .i64 0, .slice none 0 0, .int .i64 x.e.at_]] W fun y w' => y = .returned (.bool (decide (x.e.po = 0) && decide (x.e.tasks = []))) ∧ Gr W w' := by
  have h1 := sameOrder_any x.e x.e.srv 0 [] x.a none x.c 0 W (h.gr g) ⟨RecsIn.nil _ _ _ _ _, fun _ => rfl, Nat.le_refl _, Nat.zero_le _, by simp⟩ (.inl rfl)
  have h2 : sameO x.e.srv x.e.srv x.e.po 0 x.e.tasks.length ([] : List Tsk).length = (decide (x.e.po = 0) && decide (x.e.tasks = [])) := by simp [sameO]
  rw [h2] at h1
  exact h1
theorem sameO_delete (x : EntM) (w W : World) (h : x.ok Any w) (g : Gr w W) : Calls Tryd.prog 59 #[.agg #[.int .i64 x.e.kd, .int .i64 x.e.id, .int .i64 x.e.srv.k, .int .i64 x.e.srv.q, .int .i64 x.e.srv.t, .int .i64 x.e.po, .slice x.a x.e.tasks.length x.c, .int .i64 x.e.at_], .agg #[.int .i64 x.e.kd, .int .i64 x.e.id, .int .i64 0, .int .i64 0, .int .i64 0, .int .i64 0, .slice none 0 0, .int .i64 x.e.at_]] W fun y w' => y = .returned (.bool (decide (x.e.srv.k = 0 ∧ x.e.srv.q = 0 ∧ x.e.srv.t = 0) && decide (x.e.po = 0) && decide (x.e.tasks = []))) ∧ Gr W w' := by
  have h1 := sameOrder_any x.e ⟨0, 0, 0⟩ 0 [] x.a none x.c 0 W (h.gr g) ⟨RecsIn.nil _ _ _ _ _, fun _ => rfl, Nat.le_refl _, Nat.zero_le _, by simp⟩ (.inl rfl)
  have h2 : sameO x.e.srv ⟨0, 0, 0⟩ x.e.po 0 x.e.tasks.length ([] : List Tsk).length = (decide (x.e.srv.k = 0 ∧ x.e.srv.q = 0 ∧ x.e.srv.t = 0) && decide (x.e.po = 0) && decide (x.e.tasks = [])) := by simp [sameO]
  rw [h2] at h1
  exact h1
theorem sameO_bind (x : EntM) (w W : World) (h : x.ok Any w) (g : Gr w W) : Calls Tryd.prog 59 #[.agg #[.int .i64 x.e.kd, .int .i64 x.e.id, .int .i64 x.e.srv.k, .int .i64 x.e.srv.q, .int .i64 x.e.srv.t, .int .i64 x.e.po, .slice x.a x.e.tasks.length x.c, .int .i64 x.e.at_], .agg #[.int .i64 x.e.kd, .int .i64 x.e.id, .int .i64 0, .int .i64 0, .int .i64 0, .int .i64 x.e.po, .slice x.a x.e.tasks.length x.c, .int .i64 x.e.at_]] W fun y w' => y = .returned (.bool (decide (x.e.srv.k = 0 ∧ x.e.srv.q = 0 ∧ x.e.srv.t = 0))) ∧ Gr W w' := by
  have h1 := sameOrder_any x.e ⟨0, 0, 0⟩ x.e.po x.e.tasks x.a x.a x.c x.c W (h.gr g) (h.gr g) (.inr rfl)
  have h2 : sameO x.e.srv ⟨0, 0, 0⟩ x.e.po x.e.po x.e.tasks.length x.e.tasks.length = decide (x.e.srv.k = 0 ∧ x.e.srv.q = 0 ∧ x.e.srv.t = 0) := by simp [sameO]
  rw [h2] at h1
  exact h1

theorem fin_t {z l a bb f : Bool} (h1 : bb = (f && a)) (h2 : f = l) : (z && true && l && a) = (bb && z) := by subst h1 h2; cases z <;> cases f <;> cases a <;> rfl
theorem fin_f {z l a bb f : Bool} (h1 : bb = (f && a)) (h2 : f = false) : (z && false && l && a) = (bb && z) := by subst h1 h2; cases z <;> cases l <;> cases a <;> rfl

set_option maxRecDepth 100000 in
set_option maxHeartbeats 3200000 in
theorem inForm_else (e : Ent) (a : Option Addr) (c : Nat) (w : World) (h : (⟨e, a, c⟩ : EntM).ok Any w) (m1 : 0 ≤ e.cl) (m2 : e.cl < 16) (m3 : 1 ≤ e.nu) (m4 : okN e.nu = true) (m5 : okN e.at_ = true) (m6 : okN e.id = true) (q4 : (e.kd == 4) = false) :
    Calls Tryd.prog 24 #[e.agg a c] w fun y w' => y = .returned (.bool (entF e)) ∧ Gr w w' := by
  have hcap := ent_cap h
  dsimp only at hcap
  obtain ⟨v, hv⟩ : ∃ v, v = entF e := ⟨_, rfl⟩
  rw [← hv]
  have hfin : v = (if (e.kd == 1 || e.kd == 2) then decide (e.po = 0) && decide (e.tasks = []) && (okN e.srv.k && okN e.srv.q && okN e.srv.t) else if e.kd == 3 then decide (e.po = 0) && decide (e.tasks = []) && decide (e.srv.k = 0 ∧ e.srv.q = 0 ∧ e.srv.t = 0) else if e.kd == 4 then decide (e.srv.k = 0 ∧ e.srv.q = 0 ∧ e.srv.t = 0) && okN e.po && decide (e.tasks.length ≤ 8) && e.tasks.all tskF else false) := by
    have := okN_iff.1 m4
    rw [hv]
    unfold entF ordF
    rw [decide_eq_true (⟨m1, m2, m3, this.2⟩ : 0 ≤ e.cl ∧ e.cl < 16 ∧ 1 ≤ e.nu ∧ e.nu ≤ 1099511627776), m5, m6]
    simp only [Bool.or_eq_true, beq_iff_eq, Bool.true_and]
  have hsoC := fun W g => sameO_create ⟨e, a, c⟩ w W h g
  have hsoD := fun W g => sameO_delete ⟨e, a, c⟩ w W h g
  have hsoB := fun W g => sameO_bind ⟨e, a, c⟩ w W h g
  have gC : Gr w (((w.alloc (EntM.obj ⟨e, a, c⟩)).alloc (e.ord a c)).alloc (.cells #[.int .i64 e.kd, .int .i64 e.id, .int .i64 e.srv.k, .int .i64 e.srv.q, .int .i64 e.srv.t, .int .i64 0, .slice none 0 0, .int .i64 e.at_] 34)) := (((Gr.refl w).alloc _).alloc _).alloc _
  have gD : Gr w (((w.alloc (EntM.obj ⟨e, a, c⟩)).alloc (e.ord a c)).alloc (.cells #[.int .i64 e.kd, .int .i64 e.id, .int .i64 0, .int .i64 0, .int .i64 0, .int .i64 0, .slice none 0 0, .int .i64 e.at_] 34)) := (((Gr.refl w).alloc _).alloc _).alloc _
  have gB : Gr w (((w.alloc (EntM.obj ⟨e, a, c⟩)).alloc (e.ord a c)).alloc (.cells #[.int .i64 e.kd, .int .i64 e.id, .int .i64 0, .int .i64 0, .int .i64 0, .int .i64 e.po, .slice a e.tasks.length c, .int .i64 e.at_] 34)) := (((Gr.refl w).alloc _).alloc _).alloc _
  dsimp only at hsoC hsoD hsoB
  replace hsoC := Lib.hid hsoC
  replace hsoD := Lib.hid hsoD
  replace hsoB := Lib.hid hsoB
  replace gC := Lib.hid gC
  replace gD := Lib.hid gD
  replace gB := Lib.hid gB
  replace hfin := Lib.hid hfin
  replace hv := Lib.hid hv
  go_enter Tryd.func24, Tryd.ntmps24
  go_wp2_with fail
  refine (okR_any _ _).mono ?_
  rintro e wa ⟨rfl, rfl⟩
  go_wp2_with fail
  refine (okR_any _ _).mono ?_
  rintro e wa ⟨rfl, rfl⟩
  go_wp2_with fail
  refine (okR_any _ _).mono ?_
  rintro e wa ⟨rfl, rfl⟩
  go_wp2_with fail
  · refine (okR_any _ _).mono ?_
    rintro y w' ⟨rfl, rfl⟩
    cases h1 : okN e.srv.k with
    | false =>
      go_wp2_with fail
      go_ret
      refine ⟨retb (Eq.symm ?_), (by repeat (first | exact Gr.refl _ | apply Gr.alloc | apply Gr.drew | apply Gr.drewN | (refine Gr.setCell ?_ (by first | (simp; done) | (simp; omega)) _) | (refine Gr.trans ?_ (by assumption))))⟩
      clear hsoC hsoD hsoB
      go_light
      rw [hfin.out]
      simp [*]
    | true =>
      go_wp2_with fail
      refine (okR_any _ _).mono ?_
      rintro y w' ⟨rfl, rfl⟩
      cases h2 : okN e.srv.q with
      | false =>
        go_wp2_with fail
        go_ret
        refine ⟨retb (Eq.symm ?_), (by repeat (first | exact Gr.refl _ | apply Gr.alloc | apply Gr.drew | apply Gr.drewN | (refine Gr.setCell ?_ (by first | (simp; done) | (simp; omega)) _) | (refine Gr.trans ?_ (by assumption))))⟩
        clear hsoC hsoD hsoB
        go_light
        rw [hfin.out]
        simp [*]
      | true =>
        go_wp2_with fail
        refine (okR_any _ _).mono ?_
        rintro y w' ⟨rfl, rfl⟩
        cases h3 : okN e.srv.t with
        | false =>
          go_wp2_with fail
          go_ret
          refine ⟨retb (Eq.symm ?_), (by repeat (first | exact Gr.refl _ | apply Gr.alloc | apply Gr.drew | apply Gr.drewN | (refine Gr.setCell ?_ (by first | (simp; done) | (simp; omega)) _) | (refine Gr.trans ?_ (by assumption))))⟩
          clear hsoC hsoD hsoB
          go_light
          rw [hfin.out]
          simp [*]
        | true =>
          go_wp2_with fail
          refine (hsoC.out _ gC.out).mono ?_
          rintro y w5 ⟨rfl, g5⟩
          go_wp2_with fail
          go_ret
          refine ⟨retb (Eq.symm ?_), gC.out.trans g5⟩
          clear hsoC hsoD hsoB
          go_light
          rw [hfin.out]
          simp [*]
  · refine (okR_any _ _).mono ?_
    rintro y w' ⟨rfl, rfl⟩
    cases h1 : okN e.srv.k with
    | false =>
      go_wp2_with fail
      go_ret
      refine ⟨retb (Eq.symm ?_), (by repeat (first | exact Gr.refl _ | apply Gr.alloc | apply Gr.drew | apply Gr.drewN | (refine Gr.setCell ?_ (by first | (simp; done) | (simp; omega)) _) | (refine Gr.trans ?_ (by assumption))))⟩
      clear hsoC hsoD hsoB
      go_light
      rw [hfin.out]
      simp [*]
    | true =>
      go_wp2_with fail
      refine (okR_any _ _).mono ?_
      rintro y w' ⟨rfl, rfl⟩
      cases h2 : okN e.srv.q with
      | false =>
        go_wp2_with fail
        go_ret
        refine ⟨retb (Eq.symm ?_), (by repeat (first | exact Gr.refl _ | apply Gr.alloc | apply Gr.drew | apply Gr.drewN | (refine Gr.setCell ?_ (by first | (simp; done) | (simp; omega)) _) | (refine Gr.trans ?_ (by assumption))))⟩
        clear hsoC hsoD hsoB
        go_light
        rw [hfin.out]
        simp [*]
      | true =>
        go_wp2_with fail
        refine (okR_any _ _).mono ?_
        rintro y w' ⟨rfl, rfl⟩
        cases h3 : okN e.srv.t with
        | false =>
          go_wp2_with fail
          go_ret
          refine ⟨retb (Eq.symm ?_), (by repeat (first | exact Gr.refl _ | apply Gr.alloc | apply Gr.drew | apply Gr.drewN | (refine Gr.setCell ?_ (by first | (simp; done) | (simp; omega)) _) | (refine Gr.trans ?_ (by assumption))))⟩
          clear hsoC hsoD hsoB
          go_light
          rw [hfin.out]
          simp [*]
        | true =>
          go_wp2_with fail
          refine (hsoC.out _ gC.out).mono ?_
          rintro y w5 ⟨rfl, g5⟩
          go_wp2_with fail
          go_ret
          refine ⟨retb (Eq.symm ?_), gC.out.trans g5⟩
          clear hsoC hsoD hsoB
          go_light
          rw [hfin.out]
          simp [*]
  · refine (hsoD.out _ gD.out).mono ?_
    rintro y w5 ⟨rfl, g5⟩
    go_wp2_with fail
    go_ret
    refine ⟨retb (Eq.symm ?_), gD.out.trans g5⟩
    clear hsoC hsoD hsoB
    go_light
    rw [hfin.out]
    simp [Bool.and_comm, Bool.and_left_comm, *]
  · go_ret
    refine ⟨retb (Eq.symm ?_), (by repeat (first | exact Gr.refl _ | apply Gr.alloc | apply Gr.drew | apply Gr.drewN | (refine Gr.setCell ?_ (by first | (simp; done) | (simp; omega)) _) | (refine Gr.trans ?_ (by assumption))))⟩
    clear hsoC hsoD hsoB
    go_light
    rw [hfin.out]
    simp [*]
set_option maxRecDepth 100000 in
set_option maxHeartbeats 3200000 in
theorem inForm_bind (e : Ent) (a : Option Addr) (c : Nat) (w : World) (h : (⟨e, a, c⟩ : EntM).ok Any w) (m1 : 0 ≤ e.cl) (m2 : e.cl < 16) (m3 : 1 ≤ e.nu) (m4 : okN e.nu = true) (m5 : okN e.at_ = true) (m6 : okN e.id = true) (q1 : (e.kd == 1) = false) (q2 : (e.kd == 2) = false) (q3 : (e.kd == 3) = false) (q4 : (e.kd == 4) = true) :
    Calls Tryd.prog 24 #[e.agg a c] w fun y w' => y = .returned (.bool (entF e)) ∧ Gr w w' := by
  have hcap := ent_cap h
  dsimp only at hcap
  obtain ⟨v, hv⟩ : ∃ v, v = entF e := ⟨_, rfl⟩
  rw [← hv]
  have hfin : v = (if (e.kd == 1 || e.kd == 2) then decide (e.po = 0) && decide (e.tasks = []) && (okN e.srv.k && okN e.srv.q && okN e.srv.t) else if e.kd == 3 then decide (e.po = 0) && decide (e.tasks = []) && decide (e.srv.k = 0 ∧ e.srv.q = 0 ∧ e.srv.t = 0) else if e.kd == 4 then decide (e.srv.k = 0 ∧ e.srv.q = 0 ∧ e.srv.t = 0) && okN e.po && decide (e.tasks.length ≤ 8) && e.tasks.all tskF else false) := by
    have := okN_iff.1 m4
    rw [hv]
    unfold entF ordF
    rw [decide_eq_true (⟨m1, m2, m3, this.2⟩ : 0 ≤ e.cl ∧ e.cl < 16 ∧ 1 ≤ e.nu ∧ e.nu ≤ 1099511627776), m5, m6]
    simp only [Bool.or_eq_true, beq_iff_eq, Bool.true_and]
  have hsoC := fun W g => sameO_create ⟨e, a, c⟩ w W h g
  have hsoD := fun W g => sameO_delete ⟨e, a, c⟩ w W h g
  have hsoB := fun W g => sameO_bind ⟨e, a, c⟩ w W h g
  have gC : Gr w (((w.alloc (EntM.obj ⟨e, a, c⟩)).alloc (e.ord a c)).alloc (.cells #[.int .i64 e.kd, .int .i64 e.id, .int .i64 e.srv.k, .int .i64 e.srv.q, .int .i64 e.srv.t, .int .i64 0, .slice none 0 0, .int .i64 e.at_] 34)) := (((Gr.refl w).alloc _).alloc _).alloc _
  have gD : Gr w (((w.alloc (EntM.obj ⟨e, a, c⟩)).alloc (e.ord a c)).alloc (.cells #[.int .i64 e.kd, .int .i64 e.id, .int .i64 0, .int .i64 0, .int .i64 0, .int .i64 0, .slice none 0 0, .int .i64 e.at_] 34)) := (((Gr.refl w).alloc _).alloc _).alloc _
  have gB : Gr w (((w.alloc (EntM.obj ⟨e, a, c⟩)).alloc (e.ord a c)).alloc (.cells #[.int .i64 e.kd, .int .i64 e.id, .int .i64 0, .int .i64 0, .int .i64 0, .int .i64 e.po, .slice a e.tasks.length c, .int .i64 e.at_] 34)) := (((Gr.refl w).alloc _).alloc _).alloc _
  dsimp only at hsoC hsoD hsoB
  replace hsoC := Lib.hid hsoC
  replace hsoD := Lib.hid hsoD
  replace hsoB := Lib.hid hsoB
  replace gC := Lib.hid gC
  replace gD := Lib.hid gD
  replace gB := Lib.hid gB
  replace hfin := Lib.hid hfin
  replace hv := Lib.hid hv
  go_enter Tryd.func24, Tryd.ntmps24
  go_wp2_with fail
  refine (okR_any _ _).mono ?_
  rintro e wa ⟨rfl, rfl⟩
  go_wp2_with fail
  refine (okR_any _ _).mono ?_
  rintro e wa ⟨rfl, rfl⟩
  go_wp2_with fail
  refine (okR_any _ _).mono ?_
  rintro e wa ⟨rfl, rfl⟩
  go_wp2_with fail
  obtain ⟨z, hz⟩ : ∃ z, z = decide (e.srv.k = 0 ∧ e.srv.q = 0 ∧ e.srv.t = 0) := ⟨_, rfl⟩
  have hfin4 : v = (z && okN e.po && decide (e.tasks.length ≤ 8) && e.tasks.all tskF) := by
    clear hsoC hsoD hsoB
    go_light
    rw [hfin.out]
    simp [*]
  replace hz := Lib.hid hz
  replace hfin4 := Lib.hid hfin4
  go_region
  go_wp2_with fail
  refine (okR_any _ _).mono ?_
  rintro y w' ⟨rfl, rfl⟩
  cases hp : okN e.po with
  | true =>
    go_wp2_with fail
    obtain ⟨f, hf⟩ : ∃ f : Bool, f = decide ((e.tasks.length : Int) ≤ 8) := ⟨_, rfl⟩
    replace hf := Lib.hid hf
    go_loopw [94, 5] (fun iv v wr => ∃ k : Nat, k ≤ e.tasks.length ∧ iv = .int .i64 k ∧ v = .bool (f && (e.tasks.take k).all tskF) ∧ Gr ((((w.alloc (EntM.obj ⟨e, a, c⟩)).alloc (e.ord a c)).alloc (.cells #[.int .i64 e.kd, .int .i64 e.id, .int .i64 0, .int .i64 0, .int .i64 0, .int .i64 e.po, .slice a e.tasks.length c, .int .i64 e.at_] 34)).drew) wr) (fun iv _ _ => e.tasks.length - (intOf iv).toNat)
    case atStart => exact ⟨0, Nat.zero_le _, rfl, by rw [hf.out]; simp, Gr.refl _⟩
    case round =>
      obtain ⟨k, hk, rfl, rfl, hg⟩ := hrel
      obtain ⟨cg, fg, sg⟩ := hg.cells
      simp only [World.size_drew, World.size_alloc] at cg fg sg
      have k1 := fun o => cg (w.heap.size + 1) o (by omega)
      have k2 := fun o => cg (w.heap.size + 1 + 1) o (by omega)
      clear cg fg
      have gall : Gr w wr := (gB.out.drew).trans hg
      by_cases hlt : k < e.tasks.length
      · obtain ⟨t, ht⟩ := get_some e.tasks k hlt
        obtain ⟨b, off, hb0, hb, d0, d1, d2, d3⟩ := tsk_cells (h.gr gall).1.1 ht
        dsimp only at hb0
        subst hb0
        have hnext : (e.tasks.take (k + 1)).all tskF = ((e.tasks.take k).all tskF && tskF t) := by rw [take_snoc ht, List.all_append]; simp
        obtain ⟨bb, hbb⟩ : ∃ bb, bb = (f && (e.tasks.take k).all tskF) := ⟨_, rfl⟩
        rw [← hbb]
        have hnx : (f && (e.tasks.take (k + 1)).all tskF) = (bb && tskF t) := by rw [hnext, hbb, Bool.and_assoc]
        clear hnext
        have hnext := Lib.hid hnx
        clear hnx
        replace hbb := Lib.hid hbb
        replace ht := Lib.hid ht
        cases bb with
        | false =>
          go_wp2_with fail
          go_roundw
          case rel => exact ⟨k + 1, by omega, by go_num, by rw [hnext.out]; rfl, hg.trans (by repeat (first | exact Gr.refl _ | apply Gr.alloc | apply Gr.drew | apply Gr.drewN | (refine Gr.setCell ?_ (by first | (simp; done) | (simp; omega)) _) | (refine Gr.trans ?_ (by assumption))))⟩
          case measure => simp [intOf]; omega
        | true =>
              go_wp2_with fail
              refine (okR_any _ _).mono ?_
              rintro y w' ⟨rfl, rfl⟩
              cases h1 : okN t.c with
              | false =>
                go_wp2_with fail
                go_roundw
                case rel => exact ⟨k + 1, by omega, by go_num, by rw [hnext.out]; simp [tskF, *], hg.trans (by repeat (first | exact Gr.refl _ | apply Gr.alloc | apply Gr.drew | apply Gr.drewN | (refine Gr.setCell ?_ (by first | (simp; done) | (simp; omega)) _) | (refine Gr.trans ?_ (by assumption))))⟩
                case measure => simp [intOf]; omega
              | true =>
                go_wp2_with fail
                refine (okR_any _ _).mono ?_
                rintro y w' ⟨rfl, rfl⟩
                cases h2 : okN t.p with
                | false =>
                  go_wp2_with fail
                  go_roundw
                  case rel => exact ⟨k + 1, by omega, by go_num, by rw [hnext.out]; simp [tskF, *], hg.trans (by repeat (first | exact Gr.refl _ | apply Gr.alloc | apply Gr.drew | apply Gr.drewN | (refine Gr.setCell ?_ (by first | (simp; done) | (simp; omega)) _) | (refine Gr.trans ?_ (by assumption))))⟩
                  case measure => simp [intOf]; omega
                | true =>
                  go_wp2_with fail
                  refine (okR_any _ _).mono ?_
                  rintro y w' ⟨rfl, rfl⟩
                  cases h3 : okN t.d with
                  | false =>
                    go_wp2_with fail
                    go_roundw
                    case rel => exact ⟨k + 1, by omega, by go_num, by rw [hnext.out]; simp [tskF, *], hg.trans (by repeat (first | exact Gr.refl _ | apply Gr.alloc | apply Gr.drew | apply Gr.drewN | (refine Gr.setCell ?_ (by first | (simp; done) | (simp; omega)) _) | (refine Gr.trans ?_ (by assumption))))⟩
                    case measure => simp [intOf]; omega
                  | true =>
                    go_wp2_with fail
                    refine (okR_any _ _).mono ?_
                    rintro y w' ⟨rfl, rfl⟩
                    cases h4 : okN t.s with
                    | false =>
                      go_wp2_with fail
                      go_roundw
                      case rel => exact ⟨k + 1, by omega, by go_num, by rw [hnext.out]; simp [tskF, *], hg.trans (by repeat (first | exact Gr.refl _ | apply Gr.alloc | apply Gr.drew | apply Gr.drewN | (refine Gr.setCell ?_ (by first | (simp; done) | (simp; omega)) _) | (refine Gr.trans ?_ (by assumption))))⟩
                      case measure => simp [intOf]; omega
                    | true =>
                      go_wp2_with fail
                      go_roundw
                      case rel => exact ⟨k + 1, by omega, by go_num, by rw [hnext.out]; simp [tskF, *], hg.trans (by repeat (first | exact Gr.refl _ | apply Gr.alloc | apply Gr.drew | apply Gr.drewN | (refine Gr.setCell ?_ (by first | (simp; done) | (simp; omega)) _) | (refine Gr.trans ?_ (by assumption))))⟩
                      case measure => simp [intOf]; omega
      · have hall : e.tasks.take k = e.tasks := List.take_of_length_le (by omega)
        rw [hall]
        obtain ⟨bb, hbb⟩ : ∃ bb, bb = (f && e.tasks.all tskF) := ⟨_, rfl⟩
        rw [← hbb]
        replace hbb := Lib.hid hbb
        have hso := hsoB.out wr gall
        rw [← hz.out] at hso
        replace hso := Lib.hid hso
        cases bb with
        | false =>
          go_wp2_with fail
          go_ret
          refine ⟨retb (Eq.symm ?_), gall⟩
          rw [hfin4.out, hp]
          exact fin_t hbb.out (hf.out.trans (decide_eq_decide.2 (by omega)))
        | true =>
          go_wp2_with fail
          refine hso.out.mono ?_
          rintro y w5 ⟨rfl, g5⟩
          go_wp2_with fail
          go_ret
          refine ⟨retb (Eq.symm ?_), gall.trans g5⟩
          rw [hfin4.out, hp]
          exact fin_t hbb.out (hf.out.trans (decide_eq_decide.2 (by omega)))
  | false =>
    go_wp2_with fail
    obtain ⟨f, hf⟩ : ∃ f : Bool, f = false := ⟨_, rfl⟩
    replace hf := Lib.hid hf
    go_loopw [94, 5] (fun iv v wr => ∃ k : Nat, k ≤ e.tasks.length ∧ iv = .int .i64 k ∧ v = .bool (f && (e.tasks.take k).all tskF) ∧ Gr ((((w.alloc (EntM.obj ⟨e, a, c⟩)).alloc (e.ord a c)).alloc (.cells #[.int .i64 e.kd, .int .i64 e.id, .int .i64 0, .int .i64 0, .int .i64 0, .int .i64 e.po, .slice a e.tasks.length c, .int .i64 e.at_] 34)).drew) wr) (fun iv _ _ => e.tasks.length - (intOf iv).toNat)
    case atStart => exact ⟨0, Nat.zero_le _, rfl, by rw [hf.out]; simp, Gr.refl _⟩
    case round =>
      obtain ⟨k, hk, rfl, rfl, hg⟩ := hrel
      obtain ⟨cg, fg, sg⟩ := hg.cells
      simp only [World.size_drew, World.size_alloc] at cg fg sg
      have k1 := fun o => cg (w.heap.size + 1) o (by omega)
      have k2 := fun o => cg (w.heap.size + 1 + 1) o (by omega)
      clear cg fg
      have gall : Gr w wr := (gB.out.drew).trans hg
      by_cases hlt : k < e.tasks.length
      · obtain ⟨t, ht⟩ := get_some e.tasks k hlt
        obtain ⟨b, off, hb0, hb, d0, d1, d2, d3⟩ := tsk_cells (h.gr gall).1.1 ht
        dsimp only at hb0
        subst hb0
        have hnext : (e.tasks.take (k + 1)).all tskF = ((e.tasks.take k).all tskF && tskF t) := by rw [take_snoc ht, List.all_append]; simp
        obtain ⟨bb, hbb⟩ : ∃ bb, bb = (f && (e.tasks.take k).all tskF) := ⟨_, rfl⟩
        rw [← hbb]
        have hnx : (f && (e.tasks.take (k + 1)).all tskF) = (bb && tskF t) := by rw [hnext, hbb, Bool.and_assoc]
        clear hnext
        have hnext := Lib.hid hnx
        clear hnx
        replace hbb := Lib.hid hbb
        replace ht := Lib.hid ht
        cases bb with
        | false =>
          go_wp2_with fail
          go_roundw
          case rel => exact ⟨k + 1, by omega, by go_num, by rw [hnext.out]; rfl, hg.trans (by repeat (first | exact Gr.refl _ | apply Gr.alloc | apply Gr.drew | apply Gr.drewN | (refine Gr.setCell ?_ (by first | (simp; done) | (simp; omega)) _) | (refine Gr.trans ?_ (by assumption))))⟩
          case measure => simp [intOf]; omega
        | true =>
              go_wp2_with fail
              refine (okR_any _ _).mono ?_
              rintro y w' ⟨rfl, rfl⟩
              cases h1 : okN t.c with
              | false =>
                go_wp2_with fail
                go_roundw
                case rel => exact ⟨k + 1, by omega, by go_num, by rw [hnext.out]; simp [tskF, *], hg.trans (by repeat (first | exact Gr.refl _ | apply Gr.alloc | apply Gr.drew | apply Gr.drewN | (refine Gr.setCell ?_ (by first | (simp; done) | (simp; omega)) _) | (refine Gr.trans ?_ (by assumption))))⟩
                case measure => simp [intOf]; omega
              | true =>
                go_wp2_with fail
                refine (okR_any _ _).mono ?_
                rintro y w' ⟨rfl, rfl⟩
                cases h2 : okN t.p with
                | false =>
                  go_wp2_with fail
                  go_roundw
                  case rel => exact ⟨k + 1, by omega, by go_num, by rw [hnext.out]; simp [tskF, *], hg.trans (by repeat (first | exact Gr.refl _ | apply Gr.alloc | apply Gr.drew | apply Gr.drewN | (refine Gr.setCell ?_ (by first | (simp; done) | (simp; omega)) _) | (refine Gr.trans ?_ (by assumption))))⟩
                  case measure => simp [intOf]; omega
                | true =>
                  go_wp2_with fail
                  refine (okR_any _ _).mono ?_
                  rintro y w' ⟨rfl, rfl⟩
                  cases h3 : okN t.d with
                  | false =>
                    go_wp2_with fail
                    go_roundw
                    case rel => exact ⟨k + 1, by omega, by go_num, by rw [hnext.out]; simp [tskF, *], hg.trans (by repeat (first | exact Gr.refl _ | apply Gr.alloc | apply Gr.drew | apply Gr.drewN | (refine Gr.setCell ?_ (by first | (simp; done) | (simp; omega)) _) | (refine Gr.trans ?_ (by assumption))))⟩
                    case measure => simp [intOf]; omega
                  | true =>
                    go_wp2_with fail
                    refine (okR_any _ _).mono ?_
                    rintro y w' ⟨rfl, rfl⟩
                    cases h4 : okN t.s with
                    | false =>
                      go_wp2_with fail
                      go_roundw
                      case rel => exact ⟨k + 1, by omega, by go_num, by rw [hnext.out]; simp [tskF, *], hg.trans (by repeat (first | exact Gr.refl _ | apply Gr.alloc | apply Gr.drew | apply Gr.drewN | (refine Gr.setCell ?_ (by first | (simp; done) | (simp; omega)) _) | (refine Gr.trans ?_ (by assumption))))⟩
                      case measure => simp [intOf]; omega
                    | true =>
                      go_wp2_with fail
                      go_roundw
                      case rel => exact ⟨k + 1, by omega, by go_num, by rw [hnext.out]; simp [tskF, *], hg.trans (by repeat (first | exact Gr.refl _ | apply Gr.alloc | apply Gr.drew | apply Gr.drewN | (refine Gr.setCell ?_ (by first | (simp; done) | (simp; omega)) _) | (refine Gr.trans ?_ (by assumption))))⟩
                      case measure => simp [intOf]; omega
      · have hall : e.tasks.take k = e.tasks := List.take_of_length_le (by omega)
        rw [hall]
        obtain ⟨bb, hbb⟩ : ∃ bb, bb = (f && e.tasks.all tskF) := ⟨_, rfl⟩
        rw [← hbb]
        replace hbb := Lib.hid hbb
        have hso := hsoB.out wr gall
        rw [← hz.out] at hso
        replace hso := Lib.hid hso
        cases bb with
        | false =>
          go_wp2_with fail
          go_ret
          refine ⟨retb (Eq.symm ?_), gall⟩
          rw [hfin4.out, hp]
          exact fin_f hbb.out hf.out
        | true =>
          go_wp2_with fail
          refine hso.out.mono ?_
          rintro y w5 ⟨rfl, g5⟩
          go_wp2_with fail
          go_ret
          refine ⟨retb (Eq.symm ?_), gall.trans g5⟩
          rw [hfin4.out, hp]
          exact fin_f hbb.out hf.out
theorem inForm_any (e : Ent) (a : Option Addr) (c : Nat) (w : World) (h : (⟨e, a, c⟩ : EntM).ok Any w) :
    Calls Tryd.prog 24 #[.agg #[.int .i64 e.cl, .int .i64 e.nu, .int .i64 e.kd, .int .i64 e.id, .int .i64 e.srv.k, .int .i64 e.srv.q, .int .i64 e.srv.t, .int .i64 e.po, .slice a e.tasks.length c, .int .i64 e.at_]] w fun y w' => y = .returned (.bool (entF e)) ∧ Gr w w' := by
  by_cases hr : 0 ≤ e.cl ∧ e.cl < 16 ∧ 1 ≤ e.nu ∧ e.nu ≤ 1099511627776 ∧ (okN e.at_ && okN e.id) = true
  · obtain ⟨h1, h2, h3, h4, h5⟩ := hr
    rw [Bool.and_eq_true] at h5
    by_cases h6 : e.kd = 4
    · have q : ∀ n, e.kd ≠ n → (e.kd == n) = false := fun n hn => by simpa using hn
      exact inForm_bind e a c w h h1 h2 h3 (okN_iff.2 ⟨by omega, h4⟩) h5.1 h5.2 (q 1 (by omega)) (q 2 (by omega)) (q 3 (by omega)) (by simpa using h6)
    · exact inForm_else e a c w h h1 h2 h3 (okN_iff.2 ⟨by omega, h4⟩) h5.1 h5.2 (by simpa using h6)
  · refine inForm_range ⟨e, a, c⟩ w ?_ hr
    cases hf : entF e with
    | false => rfl
    | true =>
      unfold entF ordF at hf
      rw [Bool.and_eq_true, Bool.and_eq_true] at hf
      obtain ⟨h1, h2, h3, h4⟩ := of_decide_eq_true hf.1
      exact absurd ⟨h1, h2, h3, h4, hf.2.1⟩ hr
end Go.Proofs.YtblfljpmkgmjaaaDoor
