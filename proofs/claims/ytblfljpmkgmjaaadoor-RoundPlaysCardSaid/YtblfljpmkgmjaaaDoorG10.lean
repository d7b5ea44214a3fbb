/- A round: Accepted, Ledger, Place. -/
import Derived.Test.YtblfljpmkgmjaaaDoorG9
namespace Go.Proofs.YtblfljpmkgmjaaaDoor
open Go.RowKit
variable {K0 : Nat → Prop}

def RndV.hears (r : RndV) (st fr : Int) (b : Bal) : Bool := decide (r.st = st ∧ b.r = r.bal.r ∧ b.n = r.bal.n ∧ 0 ≤ fr ∧ r.an[fr.toNat]? = some false)
def RndV.note (r : RndV) (fr : Int) : RndV := {r with an := r.an.set fr.toNat true}
def RndV.accepted (r : RndV) (fr : Int) (b : Bal) : Bool × RndV :=
  if r.hears 2 fr b then (true, if (r.note fr).most then {r.note fr with st := 3} else r.note fr) else (false, r)

set_option maxRecDepth 100000 in
set_option maxHeartbeats 1600000 in
theorem accepted_any (R : Rnd) (fr : Int) (b : Bal) (w : World) (rb ab : Nat) (h : RndAt K0 w rb ab R) :
    Calls Tryd.prog 25 #[.pointer (some ⟨rb, 0, none⟩), .int .i64 fr, .agg #[.int .i64 b.r, .int .i64 b.n]] w (RndP K0 rb ab (.bool (R.v.accepted fr b).1) (R.v.accepted fr b).2 w) := by
  have h1 := h.gr ((Gr.refl w).alloc (.cells #[.int .i64 b.r, .int .i64 b.n] 39))
  have z0 := h.o.lt
  have z1 := h.b.lt
  have hgx : GrX [rb, ab] w (w.alloc (.cells #[.int .i64 b.r, .int .i64 b.n] 39)) := (GrX.refl _ w).alloc _
  cases hh : R.hears 2 fr b with
  | false =>
    have hv : R.v.accepted fr b = (false, R.v) := by unfold RndV.accepted; rw [show R.v.hears 2 fr b = false from hh]; rfl
    rw [hv]
    have hno := hear_no R 2 fr b _ rb ab h1 hh
    replace hno := Lib.hid hno
    replace h1 := Lib.hid h1
    replace hgx := Lib.hid hgx
    replace hh := Lib.hid hh
    go_enter Tryd.func25, Tryd.ntmps25
    go_wp2_with fail
    refine hno.out.mono ?_
    rintro e w1 ⟨rfl, g1⟩
    go_wp2_with fail
    go_ret
    exact ⟨rfl, R, h1.out.gr g1, rfl, hgx.out.gr g1⟩
  | true =>
    have hyes := hear_yes R 2 fr b _ rb ab h1 hh
    have hmost := fun w1 (h : RndAt K0 w1 rb ab _) => most_any {R with an := R.an.set fr.toNat true} w1 rb ab h
    have hvm : ({R with an := R.an.set fr.toNat true} : Rnd).v.most = (R.v.note fr).most := rfl
    rw [hvm] at hmost
    cases hm : (R.v.note fr).most with
    | false =>
      have hv : R.v.accepted fr b = (true, R.v.note fr) := by unfold RndV.accepted; rw [show R.v.hears 2 fr b = true from hh, hm]; rfl
      rw [hv]
      rw [hm] at hmost
      replace hyes := Lib.hid hyes
      replace hmost := Lib.hid hmost
      replace hgx := Lib.hid hgx
      replace hh := Lib.hid hh
      replace hm := Lib.hid hm
      clear h1 hv hvm
      go_enter Tryd.func25, Tryd.ntmps25
      go_wp2_with fail
      refine hyes.out.mono ?_
      rintro e w1 ⟨rfl, h2, g1⟩
      have hmm := hmost.out _ h2
      replace h2 := Lib.hid h2
      go_wp2_with fail
      refine hmm.mono ?_
      rintro e w2 ⟨rfl, rfl⟩
      go_wp2_with fail
      go_ret
      exact ⟨rfl, _, h2.out, rfl, hgx.out.trans g1⟩
    | true =>
      have hv : R.v.accepted fr b = (true, {R.v.note fr with st := 3}) := by unfold RndV.accepted; rw [show R.v.hears 2 fr b = true from hh, hm]; rfl
      rw [hv]
      rw [hm] at hmost
      replace hyes := Lib.hid hyes
      replace hmost := Lib.hid hmost
      replace hgx := Lib.hid hgx
      replace hh := Lib.hid hh
      replace hm := Lib.hid hm
      clear h1 hv hvm
      go_enter Tryd.func25, Tryd.ntmps25
      go_wp2_with fail
      refine hyes.out.mono ?_
      rintro e w1 ⟨rfl, h2, g1⟩
      have hmm := hmost.out _ h2
      have c14 : w1.cell? ⟨rb, 14, none⟩ = some (.int .i64 R.st) := h2.o.cell rfl
      have f0 := fun i => h2.o.free i
      have z2 := h2.o.lt
      replace h2 := Lib.hid h2
      go_wp2_with fail
      refine hmm.mono ?_
      rintro e w2 ⟨rfl, rfl⟩
      go_wp2_with fail
      go_ret
      exact ⟨rfl, _, h2.out.stage 3, rfl, (hgx.out.trans g1).set (.inl (by simp)) _⟩

def RndV.ledger (r : RndV) : List Ent := if r.told then r.led else []
/-- A ledger as new memory. -/
def NewLed (L : List Ent) (w : World) (e : Ending) (w' : World) : Prop :=
  ∃ a c L', e = .returned (.slice a L'.length c) ∧ L'.map (·.e) = L ∧ LedM (fun b => w.heap.size ≤ b) w' a L' ∧ (a = none → c = 0) ∧ L'.length ≤ c ∧ c ≤ maxLen ∧ Gr w w'

set_option maxRecDepth 100000 in
set_option maxHeartbeats 1600000 in
theorem ledger_any (R : Rnd) (w : World) (rb ab : Nat) (h : RndAt K0 w rb ab R) :
    Calls Tryd.prog 22 #[.pointer (some ⟨rb, 0, none⟩)] w (NewLed R.v.ledger w) := by
  have z0 := h.o.lt
  have ht := told_any R w rb ab h
  have c17 : w.cell? ⟨rb, 17, none⟩ = some (.slice R.la R.led.length R.lc) := h.o.cell rfl
  have hc := copied19_any R.la R.lc R.led w h.l.any h.cap
  replace hc := Lib.hid hc
  unfold RndV.ledger
  cases hh : R.v.told with
  | false =>
    rw [hh] at ht
    rw [if_neg (by decide)]
    replace ht := Lib.hid ht
    replace hh := Lib.hid hh
    clear h
    go_enter Tryd.func22, Tryd.ntmps22
    go_wp2_with fail
    refine ht.out.mono ?_
    rintro e w1 ⟨rfl, rfl⟩
    go_wp2_with fail
    go_ret
    exact ⟨none, 0, [], rfl, rfl, LedM.nil _ _ _, (fun _ => rfl), Nat.le_refl _, by unfold maxLen; omega, Gr.refl _⟩
  | true =>
    rw [hh] at ht
    rw [if_pos rfl]
    replace ht := Lib.hid ht
    replace hh := Lib.hid hh
    clear h
    go_enter Tryd.func22, Tryd.ntmps22
    go_wp2_with fail
    refine ht.out.mono ?_
    rintro e w1 ⟨rfl, rfl⟩
    go_wp2_with fail
    refine hc.out.mono ?_
    rintro e w1 ⟨a1, c1, L1, rfl, m1, l1, n1, q1, q2, g1, o1, d1⟩
    have hL1 : L1.length = R.led.length := by simpa using congrArg List.length m1
    replace m1 := Lib.hid m1
    clear d1 o1
    go_wp2_with fail
    go_ret
    exact ⟨a1, c1, L1, by rw [hL1]; rfl, m1.out, l1, n1, by omega, q2, g1⟩

def RndV.place (r : RndV) : Int := if r.told then (if r.reads then (r.led.length : Int) else plE r.led r.x.cl r.x.nu + 1) else 0
set_option maxRecDepth 100000 in
set_option maxHeartbeats 1600000 in
theorem place19_any {G : List Nat} {E : Nat → Addr} (W0 : World) (hE : EAt G E W0) (i6 : 6 ∈ G) (R : Rnd) (w : World) (rb ab : Nat) (h : RndAt K0 w rb ab R) (g0 : Gr W0 w) :
    Calls Tryd.prog 23 #[.pointer (some ⟨rb, 0, none⟩)] w fun e w' => e = .returned (.int .i64 R.v.place) ∧ Gr w w' := by
  have z0 := h.o.lt
  have ht := told_any R w rb ab h
  have c17 : w.cell? ⟨rb, 17, none⟩ = some (.slice R.la R.led.length R.lc) := h.o.cell rfl
  have c11 : w.cell? ⟨rb, 11, none⟩ = some (.bool R.reads) := h.o.cell rfl
  have c1 : w.cell? ⟨rb, 1, none⟩ = some (.int .i64 R.x.e.cl) := h.o.cell rfl
  have c2 : w.cell? ⟨rb, 2, none⟩ = some (.int .i64 R.x.e.nu) := h.o.cell rfl
  have hcap := h.cap
  have hl := h.l.any
  unfold RndV.place
  cases hh : R.v.told with
  | false =>
    rw [hh] at ht
    rw [if_neg (by decide)]
    replace ht := Lib.hid ht
    replace hh := Lib.hid hh
    clear h hl
    go_enter Tryd.func23, Tryd.ntmps23
    go_wp2_with fail
    refine ht.out.mono ?_
    rintro e w1 ⟨rfl, rfl⟩
    go_wp2_with fail
    go_ret
    exact ⟨rfl, Gr.refl _⟩
  | true =>
    rw [hh] at ht
    rw [if_pos rfl]
    replace ht := Lib.hid ht
    replace hh := Lib.hid hh
    cases hr : R.reads with
    | true =>
      rw [if_pos (show R.v.reads = true from hr)]
      rw [hr] at c11
      have hlen : (R.v.led.length : Int) = (R.led.length : Int) := by simp
      rw [hlen]
      replace hr := Lib.hid hr
      clear h hl hlen
      go_enter Tryd.func23, Tryd.ntmps23
      go_wp2_with fail
      refine ht.out.mono ?_
      rintro e w1 ⟨rfl, rfl⟩
      go_wp2_with fail
      go_ret
      exact ⟨rfl, Gr.refl _⟩
    | false =>
      rw [if_neg (show ¬ R.v.reads = true by rw [show R.v.reads = R.reads from rfl, hr]; decide)]
      rw [hr] at c11
      replace hr := Lib.hid hr
      rcases plE_cases R.v.led R.v.x.cl R.v.x.nu with hp | ⟨k, hp, hk⟩
      · have hpl := fun w' (g : Gr w w') => place_no R.la R.lc R.led R.x.e.cl R.x.e.nu w' (hE.gr (g0.trans g)) i6 (hl.gr g) (by unfold maxLen; omega) (by rw [plIx_map]; exact hp)
        rw [hp]
        replace hp := Lib.hid hp
        replace hpl := Lib.hid hpl
        clear h hl
        go_enter Tryd.func23, Tryd.ntmps23
        go_wp2_with fail
        refine ht.out.mono ?_
        rintro e w1 ⟨rfl, rfl⟩
        go_wp2_with fail
        have q17 := GrW.cell c17
        have q1 := GrW.cell c1
        have q2 := GrW.cell c2
        refine wp_region_grows (by kernel_rfl) (by kernel_rfl) ?_
        repeat (any_goals (first | go_big_quiet_step (first | (exact Calls.grows (hpl.out _ (by exact GrW.gr _)))) | quiet_step (first | (exact Calls.grows (hpl.out _ (by exact GrW.gr _))))))
        refine wpQuiet_nil ?_
        intro wp hwq
        have gp := GrW.of hwq
        clear hwq
        obtain ⟨cp, fp, sp⟩ := gp.cells
        try simp only [size_drewN] at cp fp sp
        try simp only [World.size_alloc] at cp fp sp
        try simp only [World.size_drew] at cp fp sp
        try simp only [World.size_setCell] at cp fp sp
        go_wp2_with fail
        go_ret
        exact ⟨rfl, gp⟩
      · have hpl := fun w' (g : Gr w w') => place_yes R.la R.lc R.led R.x.e.cl R.x.e.nu k w' (hl.gr g) (by unfold maxLen; omega) (by rw [plIx_map]; exact hp) (by simpa using hk)
        rw [hp]
        replace hp := Lib.hid hp
        replace hpl := Lib.hid hpl
        clear h hl
        go_enter Tryd.func23, Tryd.ntmps23
        go_wp2_with fail
        refine ht.out.mono ?_
        rintro e w1 ⟨rfl, rfl⟩
        go_wp2_with fail
        have q17 := GrW.cell c17
        have q1 := GrW.cell c1
        have q2 := GrW.cell c2
        refine wp_region_grows (by kernel_rfl) (by kernel_rfl) ?_
        repeat (any_goals (first | go_big_quiet_step (first | (exact Calls.grows (hpl.out _ (by exact GrW.gr _)))) | quiet_step (first | (exact Calls.grows (hpl.out _ (by exact GrW.gr _))))))
        refine wpQuiet_nil ?_
        intro wp hwq
        have gp := GrW.of hwq
        clear hwq
        obtain ⟨cp, fp, sp⟩ := gp.cells
        try simp only [size_drewN] at cp fp sp
        try simp only [World.size_alloc] at cp fp sp
        try simp only [World.size_drew] at cp fp sp
        try simp only [World.size_setCell] at cp fp sp
        go_wp2_with fail
        go_ret
        exact ⟨rfl, gp⟩
end Go.Proofs.YtblfljpmkgmjaaaDoor
