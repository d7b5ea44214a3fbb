/- A round in memory; hear, told, Stage. -/
import Derived.Test.YtblfljpmkgmjaaaDoorG6
namespace Go.Proofs.YtblfljpmkgmjaaaDoor
open Go.RowKit
variable {K0 : Nat → Prop}

/-- A round. -/
structure Rnd where
  an : List Bool
  x : EntM
  reads : Bool
  bal : Bal
  st : Int
  nw : Bal
  la : Option Addr
  lc : Nat
  led : List EntM
  begun : Int
abbrev Rnd.row (R : Rnd) (ab : Nat) : Array Value :=
  #[.slice (some ⟨ab, 0, none⟩) R.an.length R.an.length, .int .i64 R.x.e.cl, .int .i64 R.x.e.nu, .int .i64 R.x.e.kd, .int .i64 R.x.e.id, .int .i64 R.x.e.srv.k, .int .i64 R.x.e.srv.q, .int .i64 R.x.e.srv.t, .int .i64 R.x.e.po, .slice R.x.a R.x.e.tasks.length R.x.c, .int .i64 R.x.e.at_,
    .bool R.reads, .int .i64 R.bal.r, .int .i64 R.bal.n, .int .i64 R.st, .int .i64 R.nw.r, .int .i64 R.nw.n, .slice R.la R.led.length R.lc, .int .i64 R.begun]
/-- A round lies at rb, its answers at ab. -/
structure RndAt (K0 : Nat → Prop) (w : World) (rb ab : Nat) (R : Rnd) : Prop where
  o : Blk w rb (R.row ab) 103
  b : Blk w ab (R.an.map Value.bool).toArray 4
  ne : rb ≠ ab
  n7 : 1 ≤ R.an.length ∧ R.an.length ≤ 7
  x : R.x.ok (fun b => b ≠ rb ∧ b ≠ ab ∧ K0 b) w
  l : LedM (fun b => b ≠ rb ∧ b ≠ ab ∧ K0 b) w R.la R.led
  lc : R.la = none → R.lc = 0
  cap : R.led.length * 96 ≤ 140737488351232
theorem RndAt.gr {w w' : World} {rb ab : Nat} {R : Rnd} (h : RndAt K0 w rb ab R) (g : Gr w w') : RndAt K0 w' rb ab R :=
  ⟨h.o.gr g, h.b.gr g, h.ne, h.n7, h.x.gr g, h.l.gr g, h.lc, h.cap⟩
theorem RndAt.an {w : World} {rb ab : Nat} {R : Rnd} (h : RndAt K0 w rb ab R) {i : Nat} {v : Bool} (hi : R.an[i]? = some v) : w.cell? ⟨ab, i, none⟩ = some (.bool v) := h.b.cell (by simp [hi])
/-- Another cell of the round, which turns neither its entry nor its ledger. -/
theorem RndAt.set {w : World} {rb ab : Nat} {R R' : Rnd} (h : RndAt K0 w rb ab R) (i : Nat) (v : Value) (hr : R'.row ab = (R.row ab).setIfInBounds i v) (h1 : R'.an = R.an) (h2 : R'.x = R.x) (h3 : R'.la = R.la) (h4 : R'.led = R.led) (h5 : R'.lc = R.lc) : RndAt K0 (w.setCell ⟨rb, i, none⟩ v) rb ab R' := by
  have g : GrX [rb, ab] w (w.setCell ⟨rb, i, none⟩ v) := (GrX.refl _ w).set (.inl (by simp)) v
  have hT : ∀ y, y ∈ [rb, ab] → ¬ (y ≠ rb ∧ y ≠ ab ∧ K0 y) := by rintro y hy ⟨y1, y2, _⟩; simp at hy; omega
  refine ⟨hr ▸ h.o.set i v, ?_, h.ne, by rw [h1]; exact h.n7, by rw [h2]; exact h.x.grx g hT, by rw [h3, h4]; exact h.l.grx g hT, by rw [h3, h5]; exact h.lc, by rw [h4]; exact h.cap⟩
  rw [h1]
  exact h.b.other (fun e => h.ne e.symm) v
theorem RndAt.answer {w : World} {rb ab : Nat} {R : Rnd} (h : RndAt K0 w rb ab R) (i : Nat) (v : Bool) : RndAt K0 (w.setCell ⟨ab, i, none⟩ (.bool v)) rb ab {R with an := R.an.set i v} := by
  have g : GrX [rb, ab] w (w.setCell ⟨ab, i, none⟩ (.bool v)) := (GrX.refl _ w).set (.inl (by simp)) _
  have hT : ∀ y, y ∈ [rb, ab] → ¬ (y ≠ rb ∧ y ≠ ab ∧ K0 y) := by rintro y hy ⟨y1, y2, _⟩; simp at hy; omega
  refine ⟨?_, ?_, h.ne, by simpa using h.n7, h.x.grx g hT, h.l.grx g hT, h.lc, h.cap⟩
  · have := h.o.other (a := ⟨ab, i, none⟩) h.ne (.bool v)
    simpa [Rnd.row] using this
  · have := h.b.set i (.bool v)
    simpa using this

def Rnd.hears (R : Rnd) (st fr : Int) (b : Bal) : Bool := decide (R.st = st ∧ b.r = R.bal.r ∧ b.n = R.bal.n ∧ 0 ≤ fr ∧ R.an[fr.toNat]? = some false)

set_option maxRecDepth 100000 in
set_option maxHeartbeats 1600000 in
theorem hear_yes (R : Rnd) (st fr : Int) (b : Bal) (w : World) (rb ab : Nat) (h : RndAt K0 w rb ab R) (hn : R.hears st fr b = true) :
    Calls Tryd.prog 52 #[.pointer (some ⟨rb, 0, none⟩), .int .i64 st, .int .i64 fr, .agg #[.int .i64 b.r, .int .i64 b.n]] w fun e w' => e = .returned (.bool true) ∧ RndAt K0 w' rb ab {R with an := R.an.set fr.toNat true} ∧ GrX [rb, ab] w w' := by
  obtain ⟨h1, h2, h3, h4, h5⟩ := of_decide_eq_true hn
  have h6 := get_lt h5
  have ca := h.an h5
  have c0 : w.cell? ⟨rb, 0, none⟩ = some (.slice (some ⟨ab, 0, none⟩) R.an.length R.an.length) := h.o.cell rfl
  have c12 : w.cell? ⟨rb, 12, none⟩ = some (.int .i64 R.bal.r) := h.o.cell rfl
  have c13 : w.cell? ⟨rb, 13, none⟩ = some (.int .i64 R.bal.n) := h.o.cell rfl
  have c14 : w.cell? ⟨rb, 14, none⟩ = some (.int .i64 R.st) := h.o.cell rfl
  have z1 := h.o.lt
  have z2 := h.b.lt
  have n7 := h.n7
  have fa := fun i => h.b.free i
  obtain ⟨f, rfl⟩ := Int.eq_ofNat_of_zero_le h4
  simp only [Int.toNat_natCast] at h5 h6 ca ⊢
  have e2 : (b.r == R.bal.r) = true := by simpa using h2
  have e3 : (b.n == R.bal.n) = true := by simpa using h3
  have e1 : (R.st != st) = false := by simpa using h1
  have hend : ∀ n, RndAt K0 (((w.alloc (.cells #[.int .i64 b.r, .int .i64 b.n] 39)).drewN n).setCell ⟨ab, f, none⟩ (.bool true)) rb ab {R with an := R.an.set f true} := fun n => (h.gr (((Gr.refl w).alloc _).drewN n)).answer f true
  have hg : ∀ n, GrX [rb, ab] w (((w.alloc (.cells #[.int .i64 b.r, .int .i64 b.n] 39)).drewN n).setCell ⟨ab, f, none⟩ (.bool true)) := fun n => (((GrX.refl _ w).alloc _).drewN n).set (.inl (by simp)) _
  replace hend := Lib.hid hend
  replace hg := Lib.hid hg
  replace hn := Lib.hid hn
  clear h h1 h2 h3 h5
  go_enter Tryd.func52, Tryd.ntmps52
  go_wp2_with fail
  go_quiet (fail)
  go_wp2_with fail
  go_ret
  exact ⟨rfl, hend.out _, hg.out _⟩
set_option maxRecDepth 100000 in
set_option maxHeartbeats 1600000 in
theorem hear_no (R : Rnd) (st fr : Int) (b : Bal) (w : World) (rb ab : Nat) (h : RndAt K0 w rb ab R) (hn : R.hears st fr b = false) :
    Calls Tryd.prog 52 #[.pointer (some ⟨rb, 0, none⟩), .int .i64 st, .int .i64 fr, .agg #[.int .i64 b.r, .int .i64 b.n]] w fun e w' => e = .returned (.bool false) ∧ Gr w w' := by
  have hno := of_decide_eq_false hn
  have c0 : w.cell? ⟨rb, 0, none⟩ = some (.slice (some ⟨ab, 0, none⟩) R.an.length R.an.length) := h.o.cell rfl
  have c12 : w.cell? ⟨rb, 12, none⟩ = some (.int .i64 R.bal.r) := h.o.cell rfl
  have c13 : w.cell? ⟨rb, 13, none⟩ = some (.int .i64 R.bal.n) := h.o.cell rfl
  have c14 : w.cell? ⟨rb, 14, none⟩ = some (.int .i64 R.st) := h.o.cell rfl
  have z1 := h.o.lt
  have z2 := h.b.lt
  have n7 := h.n7
  have hend : ∀ n, Gr w ((w.alloc (.cells #[.int .i64 b.r, .int .i64 b.n] 39)).drewN n) := fun n => ((Gr.refl w).alloc _).drewN n
  replace hend := Lib.hid hend
  replace hn := Lib.hid hn
  by_cases h1 : R.st = st
  · have e1 : (R.st != st) = false := by simpa using h1
    by_cases h2 : b.r = R.bal.r
    · have e2 : (b.r == R.bal.r) = true := by simpa using h2
      by_cases h3 : b.n = R.bal.n
      · have e3 : (b.n == R.bal.n) = true := by simpa using h3
        by_cases h4 : fr < 0
        · clear h hno h1 h2 h3
          go_enter Tryd.func52, Tryd.ntmps52
          go_wp2_with fail
          go_quiet (fail)
          go_wp2_with fail
          go_ret
          exact ⟨rfl, hend.out _⟩
        · obtain ⟨f, rfl⟩ := Int.eq_ofNat_of_zero_le (by omega : 0 ≤ fr)
          by_cases h5 : f < R.an.length
          · have h6 : R.an[f]? = some true := by
              cases hv : R.an[f]? with
              | none => rw [List.getElem?_eq_none_iff] at hv; omega
              | some v =>
                cases v with
                | true => rfl
                | false => exact absurd ⟨h1, h2, h3, by omega, by simpa using hv⟩ hno
            have ca := h.an h6
            clear h hno h1 h2 h3 h6
            go_enter Tryd.func52, Tryd.ntmps52
            go_wp2_with fail
            go_quiet (fail)
            go_wp2_with fail
            go_ret
            exact ⟨rfl, hend.out _⟩
          · clear h hno h1 h2 h3
            go_enter Tryd.func52, Tryd.ntmps52
            go_wp2_with fail
            go_quiet (fail)
            go_wp2_with fail
            go_ret
            exact ⟨rfl, hend.out _⟩
      · have e3 : (b.n == R.bal.n) = false := by simpa using h3
        clear h hno h1 h2 h3
        go_enter Tryd.func52, Tryd.ntmps52
        go_wp2_with fail
        go_quiet (fail)
        go_wp2_with fail
        go_ret
        exact ⟨rfl, hend.out _⟩
    · have e2 : (b.r == R.bal.r) = false := by simpa using h2
      clear h hno h1 h2
      go_enter Tryd.func52, Tryd.ntmps52
      go_wp2_with fail
      go_quiet (fail)
      go_wp2_with fail
      go_ret
      exact ⟨rfl, hend.out _⟩
  · have e1 : (R.st != st) = true := by simpa using h1
    clear h hno h1
    go_enter Tryd.func52, Tryd.ntmps52
    go_wp2_with fail
    go_quiet (fail)
    go_wp2_with fail
    go_ret
    exact ⟨rfl, hend.out _⟩
end Go.Proofs.YtblfljpmkgmjaaaDoor
