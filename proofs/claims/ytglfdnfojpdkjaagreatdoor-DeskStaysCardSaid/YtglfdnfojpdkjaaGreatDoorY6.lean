/- desk.Answer of an order's question. Printed by gen_y6.py. -/
import Derived.Test.YtglfdnfojpdkjaaGreatDoorY5
import Derived.Test.YtglfdnfojpdkjaaGreatDoorJ41
namespace Go.Proofs.YtglfdnfojpdkjaaGreatDoor
open Go.RowKit

theorem plix_plc (L : List EntM) (c n : Int) : plIx L c n = match plcE (L.map (·.e)) c n with
    | some k => (k : Int)
    | none => -1 := by
  have key : ∀ L : List EntM, L.findIdx? (fun x => isKey c n x.e) = plcE (L.map (·.e)) c n := by
    intro L
    induction L with
    | nil => rfl
    | cons x r ih =>
      rw [List.findIdx?_cons, List.map_cons]
      unfold plcE
      by_cases hc : x.e.cl = c ∧ x.e.nu = n
      · rw [if_pos hc, if_pos (by unfold isKey; simp [hc.1, hc.2])]
      · rw [if_neg hc, if_neg (by unfold isKey; simpa using hc), ih]
  unfold plIx
  rw [key]
  cases plcE (L.map (·.e)) c n <;> rfl
theorem LedM.take {K : Nat → Prop} {w : World} {a : Option Addr} {L : List EntM} (h : LedM K w a L) (k : Nat) : LedM K w a (L.take k) := by
  have hk : ∀ (i : Nat) (x : EntM), (L.take k)[i]? = some x → L[i]? = some x := fun i x hx => by
    have hl := get_lt hx
    rw [List.length_take] at hl
    rw [List.getElem?_take_of_lt (by omega)] at hx
    exact hx
  exact ⟨⟨fun i x hx => h.1.1 i x (hk i x hx), fun ad ha hn => h.1.2 ad ha (fun e => hn (by rw [e]; simp))⟩, fun x hx => h.2 x (List.mem_of_mem_take hx)⟩
theorem results_any {G : List Nat} {E : Nat → Addr} (a : Option Addr) (c : Nat) (L : List EntM) (w : World) (hE : EAt G E w) (i0 : 4 ∈ G) (i1 : 5 ∈ G) (i3 : 7 ∈ G) (i4 : 6 ∈ G) (h : LedM Any w a L) (hi : ∀ x ∈ L, EntB x.e) (hm : L.length ≤ 100000) :
    Calls Tryz.prog 8 #[.slice a L.length c] w fun e w' => ∃ (ra : Option Addr) (rc : Nat), e = .returned (.slice ra (resL L).length rc) ∧ RecsAt 2 resC w' ra (resL L) ∧ Gr w w' := by
  have hf := fold_any a c L w hE i0 i1 i3 i4 h hi hm
  replace hf := Lib.hid hf
  clear hE h hi
  go_enter Tryz.func8, Tryz.ntmps8
  go_wp2_with fail
  refine hf.out.mono ?_
  rintro e w1 ⟨T, ra, rc, rfl, hT, hO, g1⟩
  have g2 : Gr w1 (w1.alloc (.cells T.row 35)) := (Gr.refl _).alloc _
  obtain ⟨a1, c1, e1, r1, -, -⟩ := recs_of_owns resC_len (owns_gr hO g2)
  injection e1 with p1 _ _
  subst p1
  replace r1 := Lib.hid r1
  replace hO := Lib.hid hO
  replace hT := Lib.hid hT
  go_wp2_with fail
  go_ret
  exact ⟨_, _, rfl, r1.out, g1.trans g2⟩
set_option maxHeartbeats 1600000 in
theorem refuse1_any (q : EntM) (code : Int) (w : World) :
    Calls Tryz.prog 21 #[.agg #[.int .i64 1, .int .i64 q.e.cl, .int .i64 q.e.nu, .int .i64 q.e.kd, .int .i64 q.e.id, .int .i64 q.e.srv.k, .int .i64 q.e.srv.q, .int .i64 q.e.srv.t, .int .i64 q.e.po, .slice q.a q.e.tasks.length q.c, .int .i64 q.e.at_], .int .i64 code] w fun e w' => e = .returned (.agg #[.int .i64 q.e.cl, .int .i64 q.e.nu, .int .i64 code, .int .i64 0, .slice none 0 0]) ∧ Gr w w' := by
  go_enter Tryz.func21, Tryz.ntmps21
  go_wp2
  refine bodyPost_ret (v := .agg #[.int .i64 q.e.cl, .int .i64 q.e.nu, .int .i64 code, .int .i64 0, .slice none 0 0]) (by simp [results, Tryz.results21, go_sem]) rfl ⟨rfl, ?_⟩
  repeat (first | exact Gr.refl _ | apply Gr.alloc | apply Gr.drew | apply Gr.drewN | (refine Gr.setCell ?_ (by simp) _) | (refine Gr.trans ?_ (by assumption)))
/-- A reply, written into its variable. -/
theorem rep_set {w w1 wf : World} {rb : Nat} {v0 v1 v2 v3 v4 : Value} (hb : Blk w1 rb #[.int .i64 0, .int .i64 0, .int .i64 0, .int .i64 0, .slice none 0 0] 46) (hw : wf = ((((w1.setCell ⟨rb, 0, none⟩ v0).setCell ⟨rb, 1, none⟩ v1).setCell ⟨rb, 2, none⟩ v2).setCell ⟨rb, 3, none⟩ v3).setCell ⟨rb, 4, none⟩ v4) (g : Gr w w1) (h : w.heap.size ≤ rb) : Blk wf rb #[v0, v1, v2, v3, v4] 46 ∧ Gr w wf := by
  have gx : GrX [rb] w1 wf := by
    rw [hw]
    exact (((((GrX.refl _ _).set (.inl (by simp)) _).set (.inl (by simp)) _).set (.inl (by simp)) _).set (.inl (by simp)) _).set (.inl (by simp)) _
  refine ⟨?_, gx.all g (fun y hy => by simp at hy; omega)⟩
  have h0 := hb.set 0 v0
  have h1 := h0.set 1 v1
  have h2 := h1.set 2 v2
  have h3 := h2.set 3 v3
  have h4 := h3.set 4 v4
  rw [hw]
  simpa using h4
/-- What desk.Answer answers. -/
def AnsP (r : Option (Int × Int)) (q : EntM) (w : World) (e : Ending) (w' : World) : Prop := Gr w w' ∧ match r with
  | some s => e = .returned (.tuple #[.agg #[.int .i64 q.e.cl, .int .i64 q.e.nu, .int .i64 s.1, .int .i64 s.2, .slice none 0 0], .bool true])
  | none => e = .returned (.tuple #[.agg #[.int .i64 0, .int .i64 0, .int .i64 0, .int .i64 0, .slice none 0 0], .bool false])
set_option maxRecDepth 100000 in
set_option maxHeartbeats 6400000 in
theorem answer_any {G : List Nat} {E : Nat → Addr} (a : Option Addr) (c : Nat) (L : List EntM) (q : EntM) (w : World) (hE : EAt G E w) (i0 : 4 ∈ G) (i1 : 5 ∈ G) (i3 : 7 ∈ G) (i4 : 6 ∈ G) (i6 : 0 ∈ G) (h : LedM Any w a L) (hi : ∀ x ∈ L, EntB x.e) (hm : L.length ≤ 100000) (hcap : L.length ≤ c) (hqb : EntB q.e) :
    Calls Tryz.prog 11 #[.slice a L.length c, .agg #[.int .i64 1, .int .i64 q.e.cl, .int .i64 q.e.nu, .int .i64 q.e.kd, .int .i64 q.e.id, .int .i64 q.e.srv.k, .int .i64 q.e.srv.q, .int .i64 q.e.srv.t, .int .i64 q.e.po, .slice q.a q.e.tasks.length q.c, .int .i64 q.e.at_]] w (AnsP (ansE (L.map (·.e)) q.e.cl q.e.nu) q w) := by
  obtain ⟨V, hV⟩ : ∃ V, V = ansE (L.map (·.e)) q.e.cl q.e.nu := ⟨_, rfl⟩
  rw [← hV]
  unfold ansE at hV
  obtain ⟨q1, q2, q3⟩ := hqb
  obtain ⟨W, hW⟩ : ∃ W, W = (w.alloc (.cells #[.int .i64 1, .int .i64 q.e.cl, .int .i64 q.e.nu, .int .i64 q.e.kd, .int .i64 q.e.id, .int .i64 q.e.srv.k, .int .i64 q.e.srv.q, .int .i64 q.e.srv.t, .int .i64 q.e.po, .slice q.a q.e.tasks.length q.c, .int .i64 q.e.at_] 29)).alloc (.cells #[.int .i64 0, .int .i64 0, .int .i64 0, .int .i64 0, .slice none 0 0] 46) := ⟨_, rfl⟩
  have gW : Gr w W := by rw [hW]; exact ((Gr.refl w).alloc _).alloc _
  have hQW : Blk W w.heap.size #[.int .i64 1, .int .i64 q.e.cl, .int .i64 q.e.nu, .int .i64 q.e.kd, .int .i64 q.e.id, .int .i64 q.e.srv.k, .int .i64 q.e.srv.q, .int .i64 q.e.srv.t, .int .i64 q.e.po, .slice q.a q.e.tasks.length q.c, .int .i64 q.e.at_] 29 := by rw [hW]; exact (Blk.new w _ _).alloc _
  have hRW : Blk W (w.heap.size + 1) #[.int .i64 0, .int .i64 0, .int .i64 0, .int .i64 0, .slice none 0 0] 46 := by
    rw [hW]
    have := Blk.new (w.alloc (.cells #[.int .i64 1, .int .i64 q.e.cl, .int .i64 q.e.nu, .int .i64 q.e.kd, .int .i64 q.e.id, .int .i64 q.e.srv.k, .int .i64 q.e.srv.q, .int .i64 q.e.srv.t, .int .i64 q.e.po, .slice q.a q.e.tasks.length q.c, .int .i64 q.e.at_] 29)) #[.int .i64 0, .int .i64 0, .int .i64 0, .int .i64 0, .slice none 0 0] 46
    rw [World.size_alloc] at this
    exact this
  have hpx := plix_plc L q.e.cl q.e.nu
  have hLW := h.gr gW
  have hEW := hE.gr gW
  have k0 := hQW.cell (i := 0) (v := .int .i64 1) rfl
  have k1 := hQW.cell (i := 1) (v := .int .i64 q.e.cl) rfl
  have k2 := hQW.cell (i := 2) (v := .int .i64 q.e.nu) rfl
  have k3 := hQW.cell (i := 3) (v := .int .i64 q.e.kd) rfl
  have k4 := hQW.cell (i := 4) (v := .int .i64 q.e.id) rfl
  have k5 := hQW.cell (i := 5) (v := .int .i64 q.e.srv.k) rfl
  have k6 := hQW.cell (i := 6) (v := .int .i64 q.e.srv.q) rfl
  have k7 := hQW.cell (i := 7) (v := .int .i64 q.e.srv.t) rfl
  have k8 := hQW.cell (i := 8) (v := .int .i64 q.e.po) rfl
  have k9 := hQW.cell (i := 9) (v := .slice q.a q.e.tasks.length q.c) rfl
  have k10 := hQW.cell (i := 10) (v := .int .i64 q.e.at_) rfl
  replace hW := Lib.hid hW
  replace hQW := Lib.hid hQW
  replace hRW := Lib.hid hRW
  replace h := Lib.hid h
  replace hi := Lib.hid hi
  replace hLW := Lib.hid hLW
  cases hpl : plcE (L.map (·.e)) q.e.cl q.e.nu with
  | none =>
    rw [hpl] at hV hpx
    dsimp only at hV hpx
    have hpn := place_no a c L q.e.cl q.e.nu W hEW i6 hLW.out (by unfold maxLen; omega) hpx
    rw [old_max] at hV
    replace hpn := Lib.hid hpn
    replace hpx := Lib.hid hpx
    replace hpl := Lib.hid hpl
    replace hV := Lib.hid hV
    go_enter Tryz.func11, Tryz.ntmps11
    go_upto_region 1 with fail
    rw [← hW.out]
    go_wp2_with fail
    refine hpn.out.mono ?_
    rintro e w1 ⟨rfl, g1⟩
    clear k0 k1 k2 k3 k4 k5 k6 k7 k8 k9 k10
    have hQ1 := hQW.out.gr g1
    have hR1 := hRW.out.gr g1
    have gA1 := gW.trans g1
    have hla := last_any a c L w1.drew ((hLW.out.gr g1).gr ((Gr.refl w1).drew)) hi.out (by omega)
    have k0 := hQ1.cell (i := 0) (v := .int .i64 1) rfl
    have k1 := hQ1.cell (i := 1) (v := .int .i64 q.e.cl) rfl
    have k2 := hQ1.cell (i := 2) (v := .int .i64 q.e.nu) rfl
    have k3 := hQ1.cell (i := 3) (v := .int .i64 q.e.kd) rfl
    have k4 := hQ1.cell (i := 4) (v := .int .i64 q.e.id) rfl
    have k5 := hQ1.cell (i := 5) (v := .int .i64 q.e.srv.k) rfl
    have k6 := hQ1.cell (i := 6) (v := .int .i64 q.e.srv.q) rfl
    have k7 := hQ1.cell (i := 7) (v := .int .i64 q.e.srv.t) rfl
    have k8 := hQ1.cell (i := 8) (v := .int .i64 q.e.po) rfl
    have k9 := hQ1.cell (i := 9) (v := .slice q.a q.e.tasks.length q.c) rfl
    have k10 := hQ1.cell (i := 10) (v := .int .i64 q.e.at_) rfl
    replace hQ1 := Lib.hid hQ1
    replace hR1 := Lib.hid hR1
    replace hla := Lib.hid hla
    go_upto_region 12 with fail
    go_region_held3 (fun w' => w'.cell? ⟨w.heap.size, 1, none⟩ = some (.int .i64 q.e.cl) ∧ w'.cell? ⟨w.heap.size, 2, none⟩ = some (.int .i64 q.e.nu)) (simp (maxDischargeDepth := 8) [go_sem, *])
      (first
        | (go_at_call 24; (with_reducible refine hla.out.mono ?_); rintro e w3 ⟨D, mb, nn, rfl, hM, hD, g3⟩; have gq : Gr w1 w3 := ((Gr.refl w1).drew).trans g3; obtain ⟨v, hlk, hvm⟩ := look_int hM hD q1; have hQ3 := hQ1.out.gr gq; have hR3 := hR1.out.gr gq; have gA3 := gA1.trans gq; have m0 := hQ3.cell (i := 0) (v := .int .i64 1) rfl; have m1 := hQ3.cell (i := 1) (v := .int .i64 q.e.cl) rfl; have m2 := hQ3.cell (i := 2) (v := .int .i64 q.e.nu) rfl; have m3 := hQ3.cell (i := 3) (v := .int .i64 q.e.kd) rfl; have m4 := hQ3.cell (i := 4) (v := .int .i64 q.e.id) rfl; have m5 := hQ3.cell (i := 5) (v := .int .i64 q.e.srv.k) rfl; have m6 := hQ3.cell (i := 6) (v := .int .i64 q.e.srv.q) rfl; have m7 := hQ3.cell (i := 7) (v := .int .i64 q.e.srv.t) rfl; have m8 := hQ3.cell (i := 8) (v := .int .i64 q.e.po) rfl; have m9 := hQ3.cell (i := 9) (v := .slice q.a q.e.tasks.length q.c) rfl; have m10 := hQ3.cell (i := 10) (v := .int .i64 q.e.at_) rfl; replace hQ3 := Lib.hid hQ3; replace hR3 := Lib.hid hR3; replace hM := Lib.hid hM; replace hD := Lib.hid hD)
        | fail)
    clear k0 k1 k2 k3 k4 k5 k6 k7 k8 k9 k10 m0 m1 m2 m3 m4 m5 m6 m7 m8 m9 m10
    cases hmx : maxNu (L.map (·.e)) q.e.cl with
    | none =>
      rw [hmx] at hlk
      have hVn : V = none := by rw [hV.out, hmx]; rfl
      dsimp only [Option.isSome]
      clear hvm
      have k0 := hQ3.out.cell (i := 0) (v := .int .i64 1) rfl
      have k1 := hQ3.out.cell (i := 1) (v := .int .i64 q.e.cl) rfl
      have k2 := hQ3.out.cell (i := 2) (v := .int .i64 q.e.nu) rfl
      have k3 := hQ3.out.cell (i := 3) (v := .int .i64 q.e.kd) rfl
      have k4 := hQ3.out.cell (i := 4) (v := .int .i64 q.e.id) rfl
      have k5 := hQ3.out.cell (i := 5) (v := .int .i64 q.e.srv.k) rfl
      have k6 := hQ3.out.cell (i := 6) (v := .int .i64 q.e.srv.q) rfl
      have k7 := hQ3.out.cell (i := 7) (v := .int .i64 q.e.srv.t) rfl
      have k8 := hQ3.out.cell (i := 8) (v := .int .i64 q.e.po) rfl
      have k9 := hQ3.out.cell (i := 9) (v := .slice q.a q.e.tasks.length q.c) rfl
      have k10 := hQ3.out.cell (i := 10) (v := .int .i64 q.e.at_) rfl
      obtain ⟨wf, hwf⟩ : ∃ wf, wf = (((((w3.setCell ⟨w.heap.size + 1, 0, none⟩ (.int .i64 0)).setCell ⟨w.heap.size + 1, 1, none⟩ (.int .i64 0)).setCell ⟨w.heap.size + 1, 2, none⟩ (.int .i64 0)).setCell ⟨w.heap.size + 1, 3, none⟩ (.int .i64 0)).setCell ⟨w.heap.size + 1, 4, none⟩ (.slice none 0 0)) := ⟨_, rfl⟩
      obtain ⟨hRf, gWf⟩ := rep_set hR3.out hwf gA3 (by omega)
      have z0 := hRf.cell (i := 0) (v := .int .i64 0) rfl
      have z1 := hRf.cell (i := 1) (v := .int .i64 0) rfl
      have z2 := hRf.cell (i := 2) (v := .int .i64 0) rfl
      have z3 := hRf.cell (i := 3) (v := .int .i64 0) rfl
      have z4 := hRf.cell (i := 4) (v := .slice none 0 0) rfl
      have rf := fun i => hR3.out.free i
      have o0 := hR3.out.cell (i := 0) (v := .int .i64 0) rfl
      have o1 := hR3.out.cell (i := 1) (v := .int .i64 0) rfl
      have o2 := hR3.out.cell (i := 2) (v := .int .i64 0) rfl
      have o3 := hR3.out.cell (i := 3) (v := .int .i64 0) rfl
      have o4 := hR3.out.cell (i := 4) (v := .slice none 0 0) rfl
      go_wp2_with fail
      rw [← hwf]
      refine bodyPost_ret (v := .tuple #[.agg #[.int .i64 0, .int .i64 0, .int .i64 0, .int .i64 0, .slice none 0 0], .bool false]) (by simp [results, Tryz.results11, go_sem, z0, z1, z2, z3, z4]) rfl ?_
      rw [hVn]
      exact ⟨gWf, rfl⟩
    | some m =>
      have hvx := hvm m hmx
      clear hvm
      dsimp only [Option.isSome]
      by_cases hlt : q.e.nu < m
      · have tv : q.e.nu < v := by rw [hvx]; exact hlt
        have tvb : decide (q.e.nu < v) = true := decide_eq_true tv
        have hVn : V = some (102, 0) := by rw [hV.out, hmx]; show (if decide (q.e.nu < m) = true then _ else _) = _; rw [if_pos (decide_eq_true hlt)]
        replace hVn := Lib.hid hVn
        replace hvx := Lib.hid hvx
        have k0 := hQ3.out.cell (i := 0) (v := .int .i64 1) rfl
        have k1 := hQ3.out.cell (i := 1) (v := .int .i64 q.e.cl) rfl
        have k2 := hQ3.out.cell (i := 2) (v := .int .i64 q.e.nu) rfl
        have k3 := hQ3.out.cell (i := 3) (v := .int .i64 q.e.kd) rfl
        have k4 := hQ3.out.cell (i := 4) (v := .int .i64 q.e.id) rfl
        have k5 := hQ3.out.cell (i := 5) (v := .int .i64 q.e.srv.k) rfl
        have k6 := hQ3.out.cell (i := 6) (v := .int .i64 q.e.srv.q) rfl
        have k7 := hQ3.out.cell (i := 7) (v := .int .i64 q.e.srv.t) rfl
        have k8 := hQ3.out.cell (i := 8) (v := .int .i64 q.e.po) rfl
        have k9 := hQ3.out.cell (i := 9) (v := .slice q.a q.e.tasks.length q.c) rfl
        have k10 := hQ3.out.cell (i := 10) (v := .int .i64 q.e.at_) rfl
        go_wp2_with fail
        refine (refuse1_any q 102 _).mono ?_
        rintro e w4 ⟨rfl, g4⟩
        have hR4 := hR3.out.gr g4
        have gA4 := gA3.trans g4
        replace hR4 := Lib.hid hR4
        clear k0 k1 k2 k3 k4 k5 k6 k7 k8 k9 k10
        obtain ⟨wf, hwf⟩ : ∃ wf, wf = (((((w4.setCell ⟨w.heap.size + 1, 0, none⟩ (.int .i64 q.e.cl)).setCell ⟨w.heap.size + 1, 1, none⟩ (.int .i64 q.e.nu)).setCell ⟨w.heap.size + 1, 2, none⟩ (.int .i64 (102))).setCell ⟨w.heap.size + 1, 3, none⟩ (.int .i64 (0))).setCell ⟨w.heap.size + 1, 4, none⟩ (.slice none 0 0)) := ⟨_, rfl⟩
        obtain ⟨hRf, gWf⟩ := rep_set hR4.out hwf gA4 (by omega)
        have z0 := hRf.cell (i := 0) (v := .int .i64 q.e.cl) rfl
        have z1 := hRf.cell (i := 1) (v := .int .i64 q.e.nu) rfl
        have z2 := hRf.cell (i := 2) (v := .int .i64 (102)) rfl
        have z3 := hRf.cell (i := 3) (v := .int .i64 (0)) rfl
        have z4 := hRf.cell (i := 4) (v := .slice none 0 0) rfl
        have rf := fun i => hR4.out.free i
        have o0 := hR4.out.cell (i := 0) (v := .int .i64 0) rfl
        have o1 := hR4.out.cell (i := 1) (v := .int .i64 0) rfl
        have o2 := hR4.out.cell (i := 2) (v := .int .i64 0) rfl
        have o3 := hR4.out.cell (i := 3) (v := .int .i64 0) rfl
        have o4 := hR4.out.cell (i := 4) (v := .slice none 0 0) rfl
        go_wp2_with fail
        rw [← hwf]
        refine bodyPost_ret (v := .tuple #[.agg #[.int .i64 q.e.cl, .int .i64 q.e.nu, .int .i64 (102), .int .i64 (0), .slice none 0 0], .bool true]) (by simp [results, Tryz.results11, go_sem, z0, z1, z2, z3, z4]) rfl ?_
        rw [hVn.out]
        exact ⟨gWf, rfl⟩
      · have tv : ¬ q.e.nu < v := by rw [hvx]; exact hlt
        have tvb : decide (q.e.nu < v) = false := decide_eq_false tv
        have hVn : V = none := by rw [hV.out, hmx]; show (if decide (q.e.nu < m) = true then _ else _) = _; rw [if_neg (by rw [decide_eq_false hlt]; decide)]
        replace hVn := Lib.hid hVn
        replace hvx := Lib.hid hvx
        have k0 := hQ3.out.cell (i := 0) (v := .int .i64 1) rfl
        have k1 := hQ3.out.cell (i := 1) (v := .int .i64 q.e.cl) rfl
        have k2 := hQ3.out.cell (i := 2) (v := .int .i64 q.e.nu) rfl
        have k3 := hQ3.out.cell (i := 3) (v := .int .i64 q.e.kd) rfl
        have k4 := hQ3.out.cell (i := 4) (v := .int .i64 q.e.id) rfl
        have k5 := hQ3.out.cell (i := 5) (v := .int .i64 q.e.srv.k) rfl
        have k6 := hQ3.out.cell (i := 6) (v := .int .i64 q.e.srv.q) rfl
        have k7 := hQ3.out.cell (i := 7) (v := .int .i64 q.e.srv.t) rfl
        have k8 := hQ3.out.cell (i := 8) (v := .int .i64 q.e.po) rfl
        have k9 := hQ3.out.cell (i := 9) (v := .slice q.a q.e.tasks.length q.c) rfl
        have k10 := hQ3.out.cell (i := 10) (v := .int .i64 q.e.at_) rfl
        obtain ⟨wf, hwf⟩ : ∃ wf, wf = (((((w3.setCell ⟨w.heap.size + 1, 0, none⟩ (.int .i64 0)).setCell ⟨w.heap.size + 1, 1, none⟩ (.int .i64 0)).setCell ⟨w.heap.size + 1, 2, none⟩ (.int .i64 0)).setCell ⟨w.heap.size + 1, 3, none⟩ (.int .i64 0)).setCell ⟨w.heap.size + 1, 4, none⟩ (.slice none 0 0)) := ⟨_, rfl⟩
        obtain ⟨hRf, gWf⟩ := rep_set hR3.out hwf gA3 (by omega)
        have z0 := hRf.cell (i := 0) (v := .int .i64 0) rfl
        have z1 := hRf.cell (i := 1) (v := .int .i64 0) rfl
        have z2 := hRf.cell (i := 2) (v := .int .i64 0) rfl
        have z3 := hRf.cell (i := 3) (v := .int .i64 0) rfl
        have z4 := hRf.cell (i := 4) (v := .slice none 0 0) rfl
        have rf := fun i => hR3.out.free i
        have o0 := hR3.out.cell (i := 0) (v := .int .i64 0) rfl
        have o1 := hR3.out.cell (i := 1) (v := .int .i64 0) rfl
        have o2 := hR3.out.cell (i := 2) (v := .int .i64 0) rfl
        have o3 := hR3.out.cell (i := 3) (v := .int .i64 0) rfl
        have o4 := hR3.out.cell (i := 4) (v := .slice none 0 0) rfl
        go_wp2_with fail
        rw [← hwf]
        refine bodyPost_ret (v := .tuple #[.agg #[.int .i64 0, .int .i64 0, .int .i64 0, .int .i64 0, .slice none 0 0], .bool false]) (by simp [results, Tryz.results11, go_sem, z0, z1, z2, z3, z4]) rfl ?_
        rw [hVn.out]
        exact ⟨gWf, rfl⟩
  | some k =>
    rw [hpl] at hV hpx
    dsimp only at hV hpx
    obtain ⟨e0, he0, -, -, -⟩ := plcE_get hpl
    have hkl : k < L.length := by have := get_lt he0; rw [List.length_map] at this; exact this
    clear he0
    have hrt : (resL L).take (k + 1) = resL (L.take (k + 1)) := by
      have h1 := resG_take ⟨[], [], 0, 0⟩ (((L.take (k + 1)).map (·.e)).map ordOf) (((L.drop (k + 1)).map (·.e)).map ordOf)
      rw [← List.map_append, ← List.map_append, List.take_append_drop, List.length_map, List.length_map, List.length_take, Nat.min_eq_left (by omega)] at h1
      exact h1
    have hrl : (resL (L.take (k + 1))).length = k + 1 := by rw [resL_len, List.length_take]; omega
    obtain ⟨r, hr⟩ := get_some (resL (L.take (k + 1))) k (by omega)
    have hVr : V = some r := by
      rw [hV]
      have h1 : (resL L)[k]? = some r := by rw [← hr, ← hrt, List.getElem?_take_of_lt (by omega)]
      unfold resL at h1
      rw [h1]
      rfl
    have hpy := place_yes a c L q.e.cl q.e.nu k W hLW.out (by unfold maxLen; omega) hpx hkl
    obtain ⟨x0, hx0⟩ := get_some L k hkl
    obtain ⟨b, off, hag, _, _, _⟩ := h.out.get hx0
    subst hag
    have htl : (L.take (k + 1)).length = k + 1 := by rw [List.length_take]; omega
    have hre := fun (w' : World) (g : Gr W w') => results_any (some ⟨b, off, none⟩) c (L.take (k + 1)) w' (hEW.gr g) i0 i1 i3 i4 ((hLW.out.gr g).take _) (fun x hx => hi.out x (List.mem_of_mem_take hx)) (by omega)
    rw [htl, hrl] at hre
    replace hpy := Lib.hid hpy
    replace hpx := Lib.hid hpx
    replace hpl := Lib.hid hpl
    replace hV := Lib.hid hV
    replace hrt := Lib.hid hrt
    replace hrl := Lib.hid hrl
    replace hr := Lib.hid hr
    replace hVr := Lib.hid hVr
    replace hx0 := Lib.hid hx0
    replace htl := Lib.hid htl
    replace hre := Lib.hid hre
    have w1e : IntKind.i64.wrap ((k : Int) + 1 - 1) = k := by rw [IntKind.wrap_i64] <;> omega
    have t1 : (0 : Int) ≤ (k : Int) + 1 := by omega
    have t2 : (k : Int) + 1 ≤ (c : Int) := by omega
    have t3 : ((k : Int) + 1).toNat = k + 1 := by omega
    have t4 : (k : Int) < (k : Int) + 1 := by omega
    go_enter Tryz.func11, Tryz.ntmps11
    go_upto_region 1 with fail
    rw [← hW.out]
    go_wp2_with fail
    refine hpy.out.mono ?_
    rintro e w1 ⟨rfl, g1⟩
    clear k0 k1 k2 k3 k4 k5 k6 k7 k8 k9 k10
    go_wp2_with fail
    refine (hre.out w1 g1).mono ?_
    rintro e w2 ⟨ra, rc, rfl, hrs, g2⟩
    obtain ⟨b2, off2, hag2, hb2, hrc⟩ := hrs k r hr.out
    subst hag2
    have r0 := hrc 0 _ rfl
    have r1 := hrc 1 _ rfl
    rw [Nat.add_zero] at r0
    clear hrc hrs
    obtain ⟨sb, hsb⟩ : ∃ sb, sb = w2.heap.size := ⟨_, rfl⟩
    obtain ⟨w3, hw3⟩ : ∃ w3, w3 = w2.alloc (.cells #[.int .i64 r.1, .int .i64 r.2] 43) := ⟨_, rfl⟩
    have g3 : Gr w2 w3 := by rw [hw3]; exact (Gr.refl _).alloc _
    have hS3 : Blk w3 sb #[.int .i64 r.1, .int .i64 r.2] 43 := by rw [hw3, hsb]; exact Blk.new _ _ _
    have gq3 := (g1.trans g2).trans g3
    have hQ3 := hQW.out.gr gq3
    have s0 := hS3.cell (i := 0) (v := .int .i64 r.1) rfl
    have s1 := hS3.cell (i := 1) (v := .int .i64 r.2) rfl
    have k0 := hQ3.cell (i := 0) (v := .int .i64 1) rfl
    have k1 := hQ3.cell (i := 1) (v := .int .i64 q.e.cl) rfl
    have k2 := hQ3.cell (i := 2) (v := .int .i64 q.e.nu) rfl
    have k3 := hQ3.cell (i := 3) (v := .int .i64 q.e.kd) rfl
    have k4 := hQ3.cell (i := 4) (v := .int .i64 q.e.id) rfl
    have k5 := hQ3.cell (i := 5) (v := .int .i64 q.e.srv.k) rfl
    have k6 := hQ3.cell (i := 6) (v := .int .i64 q.e.srv.q) rfl
    have k7 := hQ3.cell (i := 7) (v := .int .i64 q.e.srv.t) rfl
    have k8 := hQ3.cell (i := 8) (v := .int .i64 q.e.po) rfl
    have k9 := hQ3.cell (i := 9) (v := .slice q.a q.e.tasks.length q.c) rfl
    have k10 := hQ3.cell (i := 10) (v := .int .i64 q.e.at_) rfl
    replace hsb := Lib.hid hsb
    replace hw3 := Lib.hid hw3
    replace hS3 := Lib.hid hS3
    replace hQ3 := Lib.hid hQ3
    go_upto_region 17 with fail
    rw [← hsb.out, ← hw3.out]
    clear r0 r1
    go_wp2_with fail
    refine (refuse1_any q r.1 _).mono ?_
    rintro e w4 ⟨rfl, g4⟩
    clear s0 s1 k0 k1 k2 k3 k4 k5 k6 k7 k8 k9 k10
    obtain ⟨ob, hob⟩ : ∃ ob, ob = w4.heap.size := ⟨_, rfl⟩
    obtain ⟨w5, hw5⟩ : ∃ w5, w5 = w4.alloc (.cells #[.int .i64 q.e.cl, .int .i64 q.e.nu, .int .i64 (r.1), .int .i64 (0), .slice none 0 0] 46) := ⟨_, rfl⟩
    have g5 : Gr w4 w5 := by rw [hw5]; exact (Gr.refl _).alloc _
    have hO5 : Blk w5 ob #[.int .i64 q.e.cl, .int .i64 q.e.nu, .int .i64 (r.1), .int .i64 (0), .slice none 0 0] 46 := by rw [hw5, hob]; exact Blk.new _ _ _
    have g45 := g4.trans g5
    have hS5 := hS3.out.gr g45
    have gq5 := gq3.trans g45
    have hR5 := hRW.out.gr gq5
    have zr4 := (hRW.out.gr (gq3.trans g4)).lt
    have nob : ob ≠ w.heap.size + 1 := by omega
    have s0 := hS5.cell (i := 0) (v := .int .i64 r.1) rfl
    have s1 := hS5.cell (i := 1) (v := .int .i64 r.2) rfl
    have of_ := fun i => hO5.free i
    have o0 := hO5.cell (i := 0) (v := .int .i64 q.e.cl) rfl
    have o1 := hO5.cell (i := 1) (v := .int .i64 q.e.nu) rfl
    have o2 := hO5.cell (i := 2) (v := .int .i64 (r.1)) rfl
    have o3 := hO5.cell (i := 3) (v := .int .i64 (0)) rfl
    have o4 := hO5.cell (i := 4) (v := .slice none 0 0) rfl
    replace hob := Lib.hid hob
    replace hw5 := Lib.hid hw5
    replace hS5 := Lib.hid hS5
    replace hO5 := Lib.hid hO5
    replace hR5 := Lib.hid hR5
    replace zr4 := Lib.hid zr4
    go_upto_region 18 with fail
    rw [← hob.out, ← hw5.out]
    go_upto_region 19 with fail
    obtain ⟨w6, hw6⟩ : ∃ w6, w6 = w5.setCell ⟨ob, 3, none⟩ (.int .i64 r.2) := ⟨_, rfl⟩
    rw [← hw6]
    clear s0 s1 of_ o0 o1 o2 o3 o4
    have hO6 : Blk w6 ob #[.int .i64 q.e.cl, .int .i64 q.e.nu, .int .i64 (r.1), .int .i64 (r.2), .slice none 0 0] 46 := by rw [hw6]; exact hO5.out.set 3 (.int .i64 r.2)
    have hR6 : Blk w6 (w.heap.size + 1) #[.int .i64 0, .int .i64 0, .int .i64 0, .int .i64 0, .slice none 0 0] 46 := by rw [hw6]; exact hR5.out.other (by show w.heap.size + 1 ≠ ob; omega) _
    have gx6 : GrX [ob] w5 w6 := by rw [hw6]; exact (GrX.refl _ _).set (.inl (by simp)) _
    have gA6 : Gr w w6 := gx6.all (gW.trans gq5) (fun y hy => by rw [List.mem_singleton.1 hy]; have h1 := hob.out; have h2 := zr4.out; omega)
    have p0 := hO6.cell (i := 0) (v := .int .i64 q.e.cl) rfl
    have p1 := hO6.cell (i := 1) (v := .int .i64 q.e.nu) rfl
    have p2 := hO6.cell (i := 2) (v := .int .i64 (r.1)) rfl
    have p3 := hO6.cell (i := 3) (v := .int .i64 (r.2)) rfl
    have p4 := hO6.cell (i := 4) (v := .slice none 0 0) rfl
    replace hw6 := Lib.hid hw6
    replace hO6 := Lib.hid hO6
    replace hR6 := Lib.hid hR6
    replace gx6 := Lib.hid gx6
    obtain ⟨wf, hwf⟩ : ∃ wf, wf = (((((w6.setCell ⟨w.heap.size + 1, 0, none⟩ (.int .i64 q.e.cl)).setCell ⟨w.heap.size + 1, 1, none⟩ (.int .i64 q.e.nu)).setCell ⟨w.heap.size + 1, 2, none⟩ (.int .i64 (r.1))).setCell ⟨w.heap.size + 1, 3, none⟩ (.int .i64 (r.2))).setCell ⟨w.heap.size + 1, 4, none⟩ (.slice none 0 0)) := ⟨_, rfl⟩
    obtain ⟨hRf, gWf⟩ := rep_set hR6.out hwf gA6 (by omega)
    have z0 := hRf.cell (i := 0) (v := .int .i64 q.e.cl) rfl
    have z1 := hRf.cell (i := 1) (v := .int .i64 q.e.nu) rfl
    have z2 := hRf.cell (i := 2) (v := .int .i64 (r.1)) rfl
    have z3 := hRf.cell (i := 3) (v := .int .i64 (r.2)) rfl
    have z4 := hRf.cell (i := 4) (v := .slice none 0 0) rfl
    have rf := fun i => hR6.out.free i
    have o0 := hR6.out.cell (i := 0) (v := .int .i64 0) rfl
    have o1 := hR6.out.cell (i := 1) (v := .int .i64 0) rfl
    have o2 := hR6.out.cell (i := 2) (v := .int .i64 0) rfl
    have o3 := hR6.out.cell (i := 3) (v := .int .i64 0) rfl
    have o4 := hR6.out.cell (i := 4) (v := .slice none 0 0) rfl
    go_wp2_with fail
    rw [← hwf]
    refine bodyPost_ret (v := .tuple #[.agg #[.int .i64 q.e.cl, .int .i64 q.e.nu, .int .i64 (r.1), .int .i64 (r.2), .slice none 0 0], .bool true]) (by simp [results, Tryz.results11, go_sem, z0, z1, z2, z3, z4]) rfl ?_
    rw [hVr.out]
    exact ⟨gWf, rfl⟩
end Go.Proofs.YtglfdnfojpdkjaaGreatDoor
