/- order.checkOrder, order.Check of any entry. -/
import Derived.Test.YtblfljpmkgmjaaaDoorG19
import Derived.Deep.Light
namespace Go.Proofs.YtblfljpmkgmjaaaDoor
open Go.RowKit


/-- Two servers' == . -/
theorem srv_eql (a b : Srv) (w : World) : (binOp .eql 31 (.agg #[.int .i64 a.k, .int .i64 a.q, .int .i64 a.t]) (.agg #[.int .i64 b.k, .int .i64 b.q, .int .i64 b.t])).run Tryd.prog w = .ok (.bool (decide (a.k = b.k ∧ a.q = b.q ∧ a.t = b.t))) w := by
  by_cases h1 : a.k = b.k
  · by_cases h2 : a.q = b.q
    · by_cases h3 : a.t = b.t
      · simp [go_sem, h1, h2, h3]
      · simp [go_sem, h1, h2, h3]
    · simp [go_sem, h1, h2]
  · simp [go_sem, h1]

set_option maxRecDepth 100000 in
set_option maxHeartbeats 3200000 in
theorem checkOrder_any (e : Ent) (a : Option Addr) (c : Nat) (w : World) (h : (⟨e, a, c⟩ : EntM).ok Any w) :
    Calls Tryd.prog 90 #[.agg #[.int .i64 e.kd, .int .i64 e.id, .int .i64 e.srv.k, .int .i64 e.srv.q, .int .i64 e.srv.t, .int .i64 e.po, .slice a e.tasks.length c, .int .i64 e.at_]] w fun x w' => x = .returned (.bool (ordF e)) ∧ Gr w w' := by
  have hcap := ent_cap h
  dsimp only at hcap
  have hf := fun (b : Nat) (l : List Int) (w : World) h hm => fit_any (some ⟨b, 0, none⟩) l l.length w h hm
  replace hf := Lib.hid hf
  obtain ⟨v, hv⟩ : ∃ v, v = ordF e := ⟨_, rfl⟩
  rw [← hv]
  cases hb : okN e.at_ && okN e.id with
  | false =>
    have hv0 : v = false := by rw [hv]; unfold ordF; rw [hb]; rfl
    subst hv0
    have hall : [e.at_, e.id].all okN = false := by simpa using hb
    have hfit := fun b w h => hf.out b [e.at_, e.id] w h (by unfold maxLen; simp)
    rw [hall] at hfit
    replace hfit := Lib.hid hfit
    replace hb := Lib.hid hb
    replace hv := Lib.hid hv
    clear hall h
    go_enter Tryd.func90, Tryd.ntmps90
    go_wp2_with fail
    refine (hfit.out (w.heap.size + 1) _ ?_).mono ?_
    · have := recs_alloc intC_len (w.alloc (.cells #[.int .i64 e.kd, .int .i64 e.id, .int .i64 e.srv.k, .int .i64 e.srv.q, .int .i64 e.srv.t, .int .i64 e.po, .slice a e.tasks.length c, .int .i64 e.at_] 34)) [e.at_, e.id] 3 #[.int .i64 e.at_, .int .i64 e.id] rfl
      simpa using this
    rintro x w1 ⟨rfl, rfl⟩
    go_wp2_with fail
    go_ret
    exact ⟨rfl, ((Gr.refl _).alloc _).alloc _⟩
  | true =>
    have hall : [e.at_, e.id].all okN = true := by simpa using hb
    have hfit := fun b w h => hf.out b [e.at_, e.id] w h (by unfold maxLen; simp)
    rw [hall] at hfit
    have hs := fun w => srv_eql e.srv ⟨0, 0, 0⟩ w
    obtain ⟨z, hz⟩ : ∃ z, z = decide (e.srv.k = 0 ∧ e.srv.q = 0 ∧ e.srv.t = 0) := ⟨_, rfl⟩
    dsimp only at hs
    rw [← hz] at hs
    obtain ⟨k, hk⟩ : ∃ k, k = e.kd := ⟨_, rfl⟩
    rw [← hk]
    have hfin : v = (if (k == 1 || k == 2) then decide (e.po = 0) && decide (e.tasks = []) && (okN e.srv.k && okN e.srv.q && okN e.srv.t) else if k == 3 then decide (e.po = 0) && decide (e.tasks = []) && z else if k == 4 then z && okN e.po && decide (e.tasks.length ≤ 8) && e.tasks.all tskF else false) := by
      rw [hv]
      unfold ordF
      rw [hb, ← hz, ← hk, Bool.true_and]
      simp only [Bool.or_eq_true, beq_iff_eq]
    replace hfit := Lib.hid hfit
    replace hb := Lib.hid hb
    replace hv := Lib.hid hv
    replace hz := Lib.hid hz
    replace hfin := Lib.hid hfin
    replace hk := Lib.hid hk
    clear hall
    replace h := Lib.hid h
    go_enter Tryd.func90, Tryd.ntmps90
    go_wp2_with fail
    refine (hfit.out (w.heap.size + 1) _ ?_).mono ?_
    · have := recs_alloc intC_len (w.alloc (.cells #[.int .i64 k, .int .i64 e.id, .int .i64 e.srv.k, .int .i64 e.srv.q, .int .i64 e.srv.t, .int .i64 e.po, .slice a e.tasks.length c, .int .i64 e.at_] 34)) [e.at_, e.id] 3 #[.int .i64 e.at_, .int .i64 e.id] rfl
      simpa using this
    rintro x w1 ⟨rfl, rfl⟩
    have hr3 := fun (W : World) => recs_alloc intC_len W [e.srv.k, e.srv.q, e.srv.t] 3 #[.int .i64 e.srv.k, .int .i64 e.srv.q, .int .i64 e.srv.t] rfl
    have hr1 := fun (W : World) (p : Int) => recs_alloc intC_len W [p] 3 #[.int .i64 p] rfl
    replace hr3 := Lib.hid hr3
    replace hr1 := Lib.hid hr1
    obtain ⟨f3, hf3⟩ : ∃ f3, f3 = [e.srv.k, e.srv.q, e.srv.t].all okN := ⟨_, rfl⟩
    have hfit3 : ∀ b w, RecsAt 1 intC w (some ⟨b, 0, none⟩) [e.srv.k, e.srv.q, e.srv.t] → Calls Tryd.prog 114 #[.slice (some ⟨b, 0, none⟩) 3 3] w fun e w' => e = .returned (.bool f3) ∧ w = w' := fun b w h => by
      have := hf.out b [e.srv.k, e.srv.q, e.srv.t] w h (by unfold maxLen; simp)
      rw [← hf3] at this
      exact this
    have hfit1 : ∀ b p w, RecsAt 1 intC w (some ⟨b, 0, none⟩) [p] → Calls Tryd.prog 114 #[.slice (some ⟨b, 0, none⟩) 1 1] w fun e w' => e = .returned (.bool (okN p)) ∧ w = w' := fun b p w h => by
      have := hf.out b [p] w h (by unfold maxLen; simp)
      rw [show [p].all okN = okN p by simp] at this
      exact this
    replace hfit3 := Lib.hid hfit3
    replace hfit1 := Lib.hid hfit1
    replace hf3 := Lib.hid hf3
    have hct := fun (w : World) h => badTask_any a c e.tasks w h (by unfold maxLen; omega)
    replace hct := Lib.hid hct
    cases z
    all_goals go_wp2_with fail
    all_goals first
      | (go_ret
         refine ⟨retb (Eq.symm ?_), ((Gr.refl _).alloc _).alloc _⟩
         clear hfit3 hfit1 hct hr3 hr1 hfit hf hb hv hs hz hk hcap hf3
         go_light
         rw [hfin.out]
         simp [*]
         done)
      | (with_reducible refine (hfit3.out (w.heap.size + 1 + 1) _ ?_).mono ?_
         · have := hr3.out ((w.alloc (.cells #[.int .i64 k, .int .i64 e.id, .int .i64 e.srv.k, .int .i64 e.srv.q, .int .i64 e.srv.t, .int .i64 0, .slice a 0 c, .int .i64 e.at_] 34)).alloc (.cells #[.int .i64 e.at_, .int .i64 e.id] 3))
           simpa using this
         rintro x w2 ⟨rfl, rfl⟩
         go_wp2_with fail
         go_ret
         refine ⟨retb (Eq.symm ?_), (((Gr.refl _).alloc _).alloc _).alloc _⟩
         clear hfit3 hfit1 hct hr3 hr1 hfit hf hb hv hs hz hk hcap
         go_light
         rw [hfin.out, hf3.out]
         simp [Bool.and_assoc, *]
         done)
      | skip
    · with_reducible refine (hfit1.out (w.heap.size + 1 + 1) 0 _ ?_).mono ?_
      · have := hr1.out ((w.alloc (.cells #[.int .i64 k, .int .i64 e.id, .int .i64 e.srv.k, .int .i64 e.srv.q, .int .i64 e.srv.t, .int .i64 0, .slice a e.tasks.length c, .int .i64 e.at_] 34)).alloc (.cells #[.int .i64 e.at_, .int .i64 e.id] 3)) 0
        simpa using this
      rintro x w2 ⟨rfl, rfl⟩
      have hct2 := hct.out (((w.alloc (.cells #[.int .i64 k, .int .i64 e.id, .int .i64 e.srv.k, .int .i64 e.srv.q, .int .i64 e.srv.t, .int .i64 0, .slice a e.tasks.length c, .int .i64 e.at_] 34)).alloc (.cells #[.int .i64 e.at_, .int .i64 e.id] 3)).alloc (.cells #[.int .i64 0] 3)) ((h.out.gr ((((Gr.refl w).alloc _).alloc _).alloc _)).1)
      have gW := (((Gr.refl w).alloc (.cells #[.int .i64 k, .int .i64 e.id, .int .i64 e.srv.k, .int .i64 e.srv.q, .int .i64 e.srv.t, .int .i64 0, .slice a e.tasks.length c, .int .i64 e.at_] 34)).alloc (.cells #[.int .i64 e.at_, .int .i64 e.id] 3)).alloc (.cells #[.int .i64 0] 3)
      replace hct2 := Lib.hid hct2
      have hx : okN 0 = true := by decide
      rw [hx]
      all_goals (replace hx := Lib.hid hx)
      all_goals go_wp2_with fail
      all_goals first
        | (go_ret
           refine ⟨retb (Eq.symm ?_), gW⟩
           clear hfit3 hfit1 hct hct2 hr3 hr1 hfit hf hb hv hs hz hk hcap hf3
           go_light
           rw [hfin.out]
           first
             | (simp [hx.out, *]
                done)
             | (have hl : decide (e.tasks.length ≤ 8) = true := decide_eq_true (by omega)
                rw [hl]
                simp [hx.out, *]
                done)
             | (have hl : decide (e.tasks.length ≤ 8) = false := decide_eq_false (by omega)
                rw [hl]
                simp [hx.out, *]
                done))
        | (with_reducible refine hct2.out.mono ?_
           rintro x w3 ⟨rfl, g3⟩
           go_wp2_with fail
           go_ret
           refine ⟨retb (Eq.symm ?_), gW.trans g3⟩
           clear hfit3 hfit1 hct hct2 hr3 hr1 hfit hf hb hv hs hz hk hcap hf3 gW g3
           go_light
           rw [hfin.out]
           first
             | (simp [hx.out, *]
                done)
             | (have hl : decide (e.tasks.length ≤ 8) = true := decide_eq_true (by omega)
                rw [hl]
                simp [hx.out, *]
                done)
             | (have hl : decide (e.tasks.length ≤ 8) = false := decide_eq_false (by omega)
                rw [hl]
                simp [hx.out, *]
                done))
        | fail
    · with_reducible refine (hfit1.out (w.heap.size + 1 + 1) e.po _ ?_).mono ?_
      · have := hr1.out ((w.alloc (.cells #[.int .i64 k, .int .i64 e.id, .int .i64 e.srv.k, .int .i64 e.srv.q, .int .i64 e.srv.t, .int .i64 e.po, .slice a e.tasks.length c, .int .i64 e.at_] 34)).alloc (.cells #[.int .i64 e.at_, .int .i64 e.id] 3)) e.po
        simpa using this
      rintro x w2 ⟨rfl, rfl⟩
      have hct2 := hct.out (((w.alloc (.cells #[.int .i64 k, .int .i64 e.id, .int .i64 e.srv.k, .int .i64 e.srv.q, .int .i64 e.srv.t, .int .i64 e.po, .slice a e.tasks.length c, .int .i64 e.at_] 34)).alloc (.cells #[.int .i64 e.at_, .int .i64 e.id] 3)).alloc (.cells #[.int .i64 e.po] 3)) ((h.out.gr ((((Gr.refl w).alloc _).alloc _).alloc _)).1)
      have gW := (((Gr.refl w).alloc (.cells #[.int .i64 k, .int .i64 e.id, .int .i64 e.srv.k, .int .i64 e.srv.q, .int .i64 e.srv.t, .int .i64 e.po, .slice a e.tasks.length c, .int .i64 e.at_] 34)).alloc (.cells #[.int .i64 e.at_, .int .i64 e.id] 3)).alloc (.cells #[.int .i64 e.po] 3)
      replace hct2 := Lib.hid hct2
      cases hx : okN e.po
      all_goals (replace hx := Lib.hid hx)
      all_goals go_wp2_with fail
      all_goals first
        | (go_ret
           refine ⟨retb (Eq.symm ?_), gW⟩
           clear hfit3 hfit1 hct hct2 hr3 hr1 hfit hf hb hv hs hz hk hcap hf3
           go_light
           rw [hfin.out]
           first
             | (simp [hx.out, *]
                done)
             | (have hl : decide (e.tasks.length ≤ 8) = true := decide_eq_true (by omega)
                rw [hl]
                simp [hx.out, *]
                done)
             | (have hl : decide (e.tasks.length ≤ 8) = false := decide_eq_false (by omega)
                rw [hl]
                simp [hx.out, *]
                done))
        | (with_reducible refine hct2.out.mono ?_
           rintro x w3 ⟨rfl, g3⟩
           go_wp2_with fail
           go_ret
           refine ⟨retb (Eq.symm ?_), gW.trans g3⟩
           clear hfit3 hfit1 hct hct2 hr3 hr1 hfit hf hb hv hs hz hk hcap hf3 gW g3
           go_light
           rw [hfin.out]
           first
             | (simp [hx.out, *]
                done)
             | (have hl : decide (e.tasks.length ≤ 8) = true := decide_eq_true (by omega)
                rw [hl]
                simp [hx.out, *]
                done)
             | (have hl : decide (e.tasks.length ≤ 8) = false := decide_eq_false (by omega)
                rw [hl]
                simp [hx.out, *]
                done))
        | fail

/-- order.Check: nil of an entry in form, ErrState of none. -/
abbrev entV (E : Nat → Addr) (b : Bool) : Value := if b then .nilIface else (Value.iface 194 (.pointer (some (E 0))))
set_option maxRecDepth 100000 in
set_option maxHeartbeats 1600000 in
theorem check_any {G : List Nat} {E : Nat → Addr} (x : EntM) (w : World) (h : x.ok Any w) (hE : EAt G E w) (i0 : 0 ∈ G) :
    Calls Tryd.prog 48 #[.agg #[.int .i64 x.e.cl, .int .i64 x.e.nu, .int .i64 x.e.kd, .int .i64 x.e.id, .int .i64 x.e.srv.k, .int .i64 x.e.srv.q, .int .i64 x.e.srv.t, .int .i64 x.e.po, .slice x.a x.e.tasks.length x.c, .int .i64 x.e.at_]] w fun e w' => e = .returned (entV E (entF x.e)) ∧ Gr w w' := by
  have gw := (Gr.refl w).alloc x.obj
  have ho := checkOrder_any x.e x.a x.c _ (h.gr gw)
  have he := (hE.gr gw).c0 i0
  replace gw := Lib.hid gw
  unfold entF
  by_cases hn : 0 ≤ x.e.cl ∧ x.e.cl < 16 ∧ 1 ≤ x.e.nu ∧ x.e.nu ≤ 1099511627776
  · rw [decide_eq_true hn, Bool.true_and]
    obtain ⟨n1, n2, n3, n4⟩ := hn
    cases hf : ordF x.e with
    | true =>
      rw [hf] at ho
      replace ho := Lib.hid ho
      replace hf := Lib.hid hf
      clear h
      go_enter Tryd.func48, Tryd.ntmps48
      go_wp2_with fail
      refine (ho.out).mono ?_
      rintro e wa ⟨rfl, ga⟩
      obtain ⟨ca, fa, sa⟩ := ga.cells
      try simp only [size_drewN] at ca fa sa
      try simp only [World.size_alloc] at ca fa sa
      try simp only [World.size_drew] at ca fa sa
      try simp only [World.size_setCell] at ca fa sa
      have za0 : w.heap.size < wa.heap.size := by omega
      have ya0 : w.heap.size ≤ wa.heap.size := by omega
      have ka0 := fun o => ca (w.heap.size) o (by omega)
      have ja0 := fun o => fa (w.heap.size) o (by omega)
      go_wp2_with fail
      go_ret
      exact ⟨rfl, gw.out.trans ga⟩
    | false =>
      rw [hf] at ho
      replace ho := Lib.hid ho
      replace hf := Lib.hid hf
      clear h
      go_enter Tryd.func48, Tryd.ntmps48
      go_wp2_with fail
      refine (ho.out).mono ?_
      rintro e wa ⟨rfl, ga⟩
      obtain ⟨ca, fa, sa⟩ := ga.cells
      try simp only [size_drewN] at ca fa sa
      try simp only [World.size_alloc] at ca fa sa
      try simp only [World.size_drew] at ca fa sa
      try simp only [World.size_setCell] at ca fa sa
      have za0 : w.heap.size < wa.heap.size := by omega
      have ya0 : w.heap.size ≤ wa.heap.size := by omega
      have ka0 := fun o => ca (w.heap.size) o (by omega)
      have ja0 := fun o => fa (w.heap.size) o (by omega)
      have hea := (hE.gr (gw.out.trans ga)).c0 i0
      go_wp2_with fail
      go_ret
      exact ⟨rfl, gw.out.trans ga⟩
  · rw [decide_eq_false hn, Bool.false_and]
    clear h ho
    by_cases n1 : x.e.cl < 0
    · clear hn
      go_enter Tryd.func48, Tryd.ntmps48
      go_wp2_with fail
      go_ret
      exact ⟨rfl, gw.out⟩
    · by_cases n2 : 16 ≤ x.e.cl
      · clear hn
        go_enter Tryd.func48, Tryd.ntmps48
        go_wp2_with fail
        go_ret
        exact ⟨rfl, gw.out⟩
      · by_cases n3 : x.e.nu < 1
        · clear hn
          go_enter Tryd.func48, Tryd.ntmps48
          go_wp2_with fail
          go_ret
          exact ⟨rfl, gw.out⟩
        · have n4 : 1099511627776 < x.e.nu := by omega
          clear hn
          go_enter Tryd.func48, Tryd.ntmps48
          go_wp2_with fail
          go_ret
          exact ⟨rfl, gw.out⟩
end Go.Proofs.YtblfljpmkgmjaaaDoor
