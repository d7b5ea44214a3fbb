/- almonerlaw19: make1, alive. -/
import Derived.Test.YtblfljpmkgmjaaaDoorG13
namespace Go.Proofs.YtblfljpmkgmjaaaDoor
open Go.RowKit
variable {K0 : Nat → Prop}

abbrev mk1 : EntM := ⟨⟨0, 1, 3, 0, ⟨0, 0, 0⟩, 0, [], 0⟩, none, 0⟩
theorem mk1_ok (K : Nat → Prop) (w : World) : mk1.ok K w := ⟨RecsIn.nil _ _ _ _ _, fun _ => rfl, Nat.le_refl _, Nat.zero_le _, by simp⟩
set_option maxHeartbeats 800000 in
theorem make1_any (w : World) : Calls Tryd.prog 13 #[] w fun e w' => e = .returned (.agg #[.int .i64 0, .int .i64 1, .int .i64 3, .int .i64 0, .int .i64 0, .int .i64 0, .int .i64 0, .int .i64 0, .slice none 0 0, .int .i64 0]) ∧ Gr w w' := by
  go_enter Tryd.func13, Tryd.ntmps13
  go_wp2
  refine bodyPost_ret (v := .agg #[.int .i64 0, .int .i64 1, .int .i64 3, .int .i64 0, .int .i64 0, .int .i64 0, .int .i64 0, .int .i64 0, .slice none 0 0, .int .i64 0]) (by simp [results, Tryd.results13, go_sem]) rfl ⟨rfl, ?_⟩
  repeat (first | exact Gr.refl _ | apply Gr.alloc | apply Gr.drew | apply Gr.drewN | (refine Gr.setCell ?_ (by simp) _) | (refine Gr.trans ?_ (by assumption)))
theorem check_mk1 (w : World) : Calls Tryd.prog 48 #[.agg #[.int .i64 0, .int .i64 1, .int .i64 3, .int .i64 0, .int .i64 0, .int .i64 0, .int .i64 0, .int .i64 0, .slice none 0 0, .int .i64 0]] w fun e w' => e = .returned .nilIface ∧ Gr w w' :=
  check_del mk1.e none 0 w ⟨rfl, rfl, rfl, rfl, by decide, by decide, by decide, by decide⟩ (by decide) (by decide) (by decide) (by decide)
theorem RndAt.mono {K0' : Nat → Prop} {w : World} {rb ab : Nat} {R : Rnd} (h : RndAt K0 w rb ab R) (hk : ∀ b, b < w.heap.size → K0 b → K0' b) : RndAt K0' w rb ab R :=
  ⟨h.o, h.b, h.ne, h.n7, h.x.mono (fun b hb h => ⟨h.1, h.2.1, hk b hb h.2.2⟩), h.l.mono (fun b hb h => ⟨h.1, h.2.1, hk b hb h.2.2⟩), h.lc, h.cap⟩
theorem new_mk1 (n : Nat) (w : World) (h1 : 1 ≤ n) (h7 : n ≤ 7) : Calls Tryd.prog 12 #[.int .i64 n, .agg #[.int .i64 0, .int .i64 1, .int .i64 3, .int .i64 0, .int .i64 0, .int .i64 0, .int .i64 0, .int .i64 0, .slice none 0 0, .int .i64 0], .bool false] w (NewRnd n mk1.e false w) :=
  new_any n mk1 false w (mk1_ok _ _) h1 h7 (fun _ => check_mk1 _)
/-- A round in a world that began as W0, and a ballot's variable. -/
structure Stand (K0 : Nat → Prop) (W0 w : World) (rb ab : Nat) (R : Rnd) : Prop where
  r : RndAt K0 w rb ab R
  g : Gr W0 w
  hr : W0.heap.size ≤ rb
  ha : W0.heap.size ≤ ab
theorem Stand.gr {W0 w w' : World} {rb ab : Nat} {R : Rnd} (h : Stand K0 W0 w rb ab R) (g : Gr w w') : Stand K0 W0 w' rb ab R := ⟨h.r.gr g, h.g.trans g, h.hr, h.ha⟩
theorem Stand.on {W0 w w' : World} {rb ab : Nat} {R R' : Rnd} (h : Stand K0 W0 w rb ab R) (hr : RndAt K0 w' rb ab R') (g : GrX [rb, ab] w w') : Stand K0 W0 w' rb ab R' :=
  ⟨hr, GrX.all h.g g (by intro x hx; have := h.hr; have := h.ha; simp at hx; omega), h.hr, h.ha⟩

/-- What a round's method gives. -/
def StP (K0 : Nat → Prop) (W0 : World) (rb ab : Nat) (v : Value) (r : RndV) (w : World) (e : Ending) (w' : World) : Prop := e = .returned v ∧ ∃ R', Stand K0 W0 w' rb ab R' ∧ R'.v = r ∧ GrX [rb, ab] w w'
theorem RndP.st {W0 w w' : World} {rb ab : Nat} {R : Rnd} {v : Value} {r : RndV} {e : Ending} (hs : Stand K0 W0 w rb ab R) (h : RndP K0 rb ab v r w e w') : StP K0 W0 rb ab v r w e w' := by
  obtain ⟨h1, R', h2, h3, h4⟩ := h
  exact ⟨h1, R', hs.on h2 h4, h3, h4⟩
section
variable {G : List Nat} {E : Nat → Addr} {W0 : World} {R : Rnd} {w : World} {rb ab : Nat}
theorem promise_st (hE : EAt G E W0) (i6 : 6 ∈ G) (i8 : 8 ∈ G) (hK : ∀ b, w.heap.size ≤ b → K0 b) (h : Stand K0 W0 w rb ab R) (fr : Int) (b acc : Bal) (a : Option Addr) (c : Nat) (L : List EntM) (hL : LedM (fun b => b ≠ rb ∧ b ≠ ab) w a L) (hcap : L.length * 96 ≤ 140737488351232) :
    Calls Tryd.prog 18 #[.pointer (some ⟨rb, 0, none⟩), .int .i64 fr, .agg #[.int .i64 b.r, .int .i64 b.n], .agg #[.int .i64 acc.r, .int .i64 acc.n], .slice a L.length c] w (StP K0 W0 rb ab (.bool (R.v.promise fr b acc (L.map (·.e))).1) (R.v.promise fr b acc (L.map (·.e))).2 w) :=
  (promise_any W0 hE i6 i8 R fr b acc a c L w rb ab hK h.r h.g h.hr h.ha hL hcap).mono fun _ _ hp => hp.st h
theorem promise_nil (hE : EAt G E W0) (i6 : 6 ∈ G) (i8 : 8 ∈ G) (hK : ∀ b, w.heap.size ≤ b → K0 b) (h : Stand K0 W0 w rb ab R) (fr : Int) (b : Bal) :
    Calls Tryd.prog 18 #[.pointer (some ⟨rb, 0, none⟩), .int .i64 fr, .agg #[.int .i64 b.r, .int .i64 b.n], .agg #[.int .i64 0, .int .i64 0], .slice none 0 0] w (StP K0 W0 rb ab (.bool (R.v.promise fr b ⟨0, 0⟩ []).1) (R.v.promise fr b ⟨0, 0⟩ []).2 w) :=
  promise_st hE i6 i8 hK h fr b ⟨0, 0⟩ none 0 [] (LedM.nil _ _ _) (by simp)
theorem accepted_st (h : Stand K0 W0 w rb ab R) (fr : Int) (b : Bal) :
    Calls Tryd.prog 25 #[.pointer (some ⟨rb, 0, none⟩), .int .i64 fr, .agg #[.int .i64 b.r, .int .i64 b.n]] w (StP K0 W0 rb ab (.bool (R.v.accepted fr b).1) (R.v.accepted fr b).2 w) :=
  (accepted_any R fr b w rb ab h.r).mono fun _ _ hp => hp.st h
theorem begin_st (h : Stand K0 W0 w rb ab R) (b : Bal) (hs : R.v.st < 3) (hb : balB b = true) (ha : aboveB b R.v.bal = true) (hn0 : 0 ≤ R.v.begun) (hn1 : R.v.begun < 4611686018427387904) :
    Calls Tryd.prog 14 #[.pointer (some ⟨rb, 0, none⟩), .agg #[.int .i64 b.r, .int .i64 b.n]] w (StP K0 W0 rb ab .nilIface (R.v.begin b) w) :=
  (begin_ok R b w rb ab h.r hs hb ha hn0 hn1).mono fun _ _ hp => hp.st h
end

def al0 : RndV := (RndV.new 3 mk1.e false).begin ⟨1, 0⟩
def al1 : RndV := (al0.promise 0 ⟨1, 0⟩ ⟨0, 0⟩ []).2
def al2 : RndV := (al1.promise 0 ⟨1, 0⟩ ⟨0, 0⟩ []).2
def al3 : RndV := (al2.promise 2 ⟨1, 0⟩ ⟨0, 0⟩ []).2
def al4 : RndV := (al3.accepted 1 ⟨1, 0⟩).2
def al5 : RndV := (al4.accepted 2 ⟨1, 0⟩).2
section
variable {G : List Nat} {E : Nat → Addr} {W0 : World} {R : Rnd} {w : World} {rb ab : Nat}
theorem al_1 (hE : EAt G E W0) (i6 : 6 ∈ G) (i8 : 8 ∈ G) (h : Stand Any W0 w rb ab R) (hv : R.v = al0) : Calls Tryd.prog 18 #[.pointer (some ⟨rb, 0, none⟩), .int .i64 0, .agg #[.int .i64 1, .int .i64 0], .agg #[.int .i64 0, .int .i64 0], .slice none 0 0] w (StP Any W0 rb ab (.bool true) al1 w) := by
  have := promise_nil hE i6 i8 (fun _ _ => trivial) h 0 ⟨1, 0⟩
  rw [hv, show (al0.promise 0 ⟨1, 0⟩ ⟨0, 0⟩ []).1 = true by decide] at this
  exact this
theorem al_2 (hE : EAt G E W0) (i6 : 6 ∈ G) (i8 : 8 ∈ G) (h : Stand Any W0 w rb ab R) (hv : R.v = al1) : Calls Tryd.prog 18 #[.pointer (some ⟨rb, 0, none⟩), .int .i64 0, .agg #[.int .i64 1, .int .i64 0], .agg #[.int .i64 0, .int .i64 0], .slice none 0 0] w (StP Any W0 rb ab (.bool false) al2 w) := by
  have := promise_nil hE i6 i8 (fun _ _ => trivial) h 0 ⟨1, 0⟩
  rw [hv, show (al1.promise 0 ⟨1, 0⟩ ⟨0, 0⟩ []).1 = false by decide] at this
  exact this
theorem al_3 (hE : EAt G E W0) (i6 : 6 ∈ G) (i8 : 8 ∈ G) (h : Stand Any W0 w rb ab R) (hv : R.v = al2) : Calls Tryd.prog 18 #[.pointer (some ⟨rb, 0, none⟩), .int .i64 2, .agg #[.int .i64 1, .int .i64 0], .agg #[.int .i64 0, .int .i64 0], .slice none 0 0] w (StP Any W0 rb ab (.bool true) al3 w) := by
  have := promise_nil hE i6 i8 (fun _ _ => trivial) h 2 ⟨1, 0⟩
  rw [hv, show (al2.promise 2 ⟨1, 0⟩ ⟨0, 0⟩ []).1 = true by decide] at this
  exact this
theorem al_4 (h : Stand Any W0 w rb ab R) (hv : R.v = al3) : Calls Tryd.prog 25 #[.pointer (some ⟨rb, 0, none⟩), .int .i64 1, .agg #[.int .i64 1, .int .i64 0]] w (StP Any W0 rb ab (.bool true) al4 w) := by
  have := accepted_st h 1 ⟨1, 0⟩
  rw [hv, show (al3.accepted 1 ⟨1, 0⟩).1 = true by decide] at this
  exact this
theorem al_5 (h : Stand Any W0 w rb ab R) (hv : R.v = al4) : Calls Tryd.prog 25 #[.pointer (some ⟨rb, 0, none⟩), .int .i64 2, .agg #[.int .i64 1, .int .i64 0]] w (StP Any W0 rb ab (.bool true) al5 w) := by
  have := accepted_st h 2 ⟨1, 0⟩
  rw [hv, show (al4.accepted 2 ⟨1, 0⟩).1 = true by decide] at this
  exact this
theorem al_6 (h : Stand Any W0 w rb ab R) (hv : R.v = al5) : Calls Tryd.prog 16 #[.pointer (some ⟨rb, 0, none⟩)] w fun e w' => e = .returned (.int .i64 3) ∧ w = w' := by
  have := stage_any R w rb ab h.r
  rw [show R.st = 3 by rw [show R.st = R.v.st from rfl, hv]; decide] at this
  exact this
theorem al_7 (hE : EAt G E W0) (i6 : 6 ∈ G) (h : Stand Any W0 w rb ab R) (hv : R.v = al5) : Calls Tryd.prog 23 #[.pointer (some ⟨rb, 0, none⟩)] w fun e w' => e = .returned (.int .i64 1) ∧ Gr w w' := by
  have := place19_any W0 hE i6 R w rb ab h.r h.g
  rw [hv, show al5.place = 1 by decide] at this
  exact this
end

set_option maxRecDepth 100000 in
set_option maxHeartbeats 6400000 in
theorem alive19_any {G : List Nat} {E : Nat → Addr} (W : World) (hE : EAt G E W) (i6 : 6 ∈ G) (i8 : 8 ∈ G) :
    Calls Tryd.prog 11 #[] W fun e w' => e = .returned (.bool true) ∧ Gr W w' := by
  go_enter Tryd.func11, Tryd.ntmps11
  go_wp2_with fail
  refine (make1_any W).mono ?_
  rintro e w0 ⟨rfl, g0⟩
  go_wp2_with fail
  refine (new_mk1 3 w0 (by omega) (by omega)).mono ?_
  rintro e w1 ⟨rb, ab, R, rfl, hr, hv, n1, n2, g1⟩
  have hs : Stand Any W w1 rb ab R := ⟨hr.mono (fun _ _ _ => trivial), g0.trans g1, Nat.le_trans g0.size n1, Nat.le_trans g0.size n2⟩
  clear hr
  have hsb := hs.gr ((Gr.refl w1).alloc (.cells #[.int .i64 1, .int .i64 0] 39))
  have z1 := hs.r.o.lt
  have z2 := hs.r.b.lt
  have hbeg := begin_st hsb ⟨1, 0⟩ (by rw [hv]; decide) (by decide) (by rw [hv]; decide) (by rw [hv]; decide) (by rw [hv]; decide)
  rw [hv] at hbeg
  change Calls _ _ _ _ (StP Any W rb ab .nilIface al0 _) at hbeg
  have hb1 := Blk.new w1 #[.int .i64 1, .int .i64 0] 39
  have hnb : w1.heap.size ∉ [rb, ab] := by simp; omega
  replace hbeg := Lib.hid hbeg
  replace hb1 := Lib.hid hb1
  replace hv := Lib.hid hv
  replace hnb := Lib.hid hnb
  go_wp2_with fail
  refine (hbeg.out).mono ?_
  rintro e w2 ⟨rfl, R2, hs2, hv2, g2⟩
  have hb2 := hb1.out.grx g2 hnb.out
  have c20 : w2.cell? ⟨w1.heap.size, 0, none⟩ = some (.int .i64 1) := hb2.cell rfl
  have c21 : w2.cell? ⟨w1.heap.size, 1, none⟩ = some (.int .i64 0) := hb2.cell rfl
  clear g2
  replace hb2 := Lib.hid hb2
  replace hv2 := Lib.hid hv2
  go_wp2_with fail
  refine (al_1 hE i6 i8 hs2 hv2.out).mono ?_
  rintro e w3 ⟨rfl, R3, hs3, hv3, g3⟩
  have hb3 := hb2.out.grx g3 hnb.out
  have c30 : w3.cell? ⟨w1.heap.size, 0, none⟩ = some (.int .i64 1) := hb3.cell rfl
  have c31 : w3.cell? ⟨w1.heap.size, 1, none⟩ = some (.int .i64 0) := hb3.cell rfl
  clear g3
  replace hb3 := Lib.hid hb3
  replace hv3 := Lib.hid hv3
  go_wp2_with fail
  refine (al_2 hE i6 i8 hs3 hv3.out).mono ?_
  rintro e w4 ⟨rfl, R4, hs4, hv4, g4⟩
  have hb4 := hb3.out.grx g4 hnb.out
  have c40 : w4.cell? ⟨w1.heap.size, 0, none⟩ = some (.int .i64 1) := hb4.cell rfl
  have c41 : w4.cell? ⟨w1.heap.size, 1, none⟩ = some (.int .i64 0) := hb4.cell rfl
  clear g4
  replace hb4 := Lib.hid hb4
  replace hv4 := Lib.hid hv4
  go_wp2_with fail
  refine (al_3 hE i6 i8 hs4 hv4.out).mono ?_
  rintro e w5 ⟨rfl, R5, hs5, hv5, g5⟩
  have hb5 := hb4.out.grx g5 hnb.out
  have c50 : w5.cell? ⟨w1.heap.size, 0, none⟩ = some (.int .i64 1) := hb5.cell rfl
  have c51 : w5.cell? ⟨w1.heap.size, 1, none⟩ = some (.int .i64 0) := hb5.cell rfl
  clear g5
  replace hb5 := Lib.hid hb5
  replace hv5 := Lib.hid hv5
  go_wp2_with fail
  refine (al_4 hs5 hv5.out).mono ?_
  rintro e w6 ⟨rfl, R6, hs6, hv6, g6⟩
  have hb6 := hb5.out.grx g6 hnb.out
  have c60 : w6.cell? ⟨w1.heap.size, 0, none⟩ = some (.int .i64 1) := hb6.cell rfl
  have c61 : w6.cell? ⟨w1.heap.size, 1, none⟩ = some (.int .i64 0) := hb6.cell rfl
  clear g6
  replace hb6 := Lib.hid hb6
  replace hv6 := Lib.hid hv6
  go_wp2_with fail
  refine (al_5 hs6 hv6.out).mono ?_
  rintro e w7 ⟨rfl, R7, hs7, hv7, g7⟩
  have hb7 := hb6.out.grx g7 hnb.out
  have c70 : w7.cell? ⟨w1.heap.size, 0, none⟩ = some (.int .i64 1) := hb7.cell rfl
  have c71 : w7.cell? ⟨w1.heap.size, 1, none⟩ = some (.int .i64 0) := hb7.cell rfl
  clear g7
  replace hb7 := Lib.hid hb7
  replace hv7 := Lib.hid hv7
  go_wp2_with fail
  refine (al_6 hs7 hv7.out).mono ?_
  rintro e w8 ⟨rfl, rfl⟩
  go_wp2_with fail
  refine (al_7 hE i6 hs7 hv7.out).mono ?_
  rintro e w9 ⟨rfl, g9⟩
  go_wp2_with fail
  go_ret
  exact ⟨rfl, hs7.g.trans g9⟩
end Go.Proofs.YtblfljpmkgmjaaaDoor
