/- The reference's round in memory; heard, fits. -/
import Derived.Test.YtblfljpmkgmjaaaDoorQ1
namespace Go.Proofs.YtblfljpmkgmjaaaDoor
open Go.RowKit
variable {K0 : Nat → Prop}

theorem owns_gx {S : List Nat} {w w' : World} {base : Nat} {e : TypeId} {size : Nat} {v : Value} {n : Nat} {xs : List Value} (h : w.ownsRow base e size v n xs) (g : GrX S w w') (hS : ∀ k, v.ownBlock = some k → k ∉ S) : w'.ownsRow base e size v n xs := by
  refine ⟨h.1, ?_⟩
  rcases h.2 with hn | ⟨b, cap, cur, h1, h2, h3, h4⟩
  · exact .inl hn
  · refine .inr ⟨b, cap, cur, h1, h2, ?_, h4⟩
    rw [g.block b (Array.getElem?_eq_some_iff.1 h3).1 (hS b (by rw [h1]; rfl))]
    exact h3
abbrev inC (d : Int) : List Value := [.int .i64 d]
theorem inC_len (d : Int) : (inC d).length = 1 := rfl
theorem inC_one (d : Int) : ∀ u ∈ inC d, u.oneCell' = true := by intro u hu; simp at hu; subst hu; rfl
theorem Tryd.infoI : (Tryd.prog.info? 3).map (fun i => (i.zero, i.size, i.bytes)) = some (some (.int .i64 0), 1, 8) := by kernel_rfl
/-- Numbers as they lie. -/
abbrev ints (hs : List Nat) : List Int := hs.map fun (n : Nat) => (n : Int)
/-- The reference's round. -/
structure RnM where
  nd : Nat
  x : EntM
  reads : Bool
  bal : Bal
  st : Int
  hs : List Nat
  ha : Option Addr
  hc : Nat
  nw : Bal
  la : Option Addr
  lc : Nat
  led : List EntM
  begun : Int
abbrev RnM.row (M : RnM) : Array Value :=
  #[.int .i64 M.nd, .int .i64 M.x.e.cl, .int .i64 M.x.e.nu, .int .i64 M.x.e.kd, .int .i64 M.x.e.id, .int .i64 M.x.e.srv.k, .int .i64 M.x.e.srv.q, .int .i64 M.x.e.srv.t, .int .i64 M.x.e.po, .slice M.x.a M.x.e.tasks.length M.x.c, .int .i64 M.x.e.at_,
    .bool M.reads, .int .i64 M.bal.r, .int .i64 M.bal.n, .int .i64 M.st, .slice M.ha M.hs.length M.hc, .int .i64 M.nw.r, .int .i64 M.nw.n, .slice M.la M.led.length M.lc, .int .i64 M.begun]
abbrev RnM.v (M : RnM) : RndV := ⟨ansOf M.nd M.hs, M.x.e, M.reads, M.bal, M.st, M.nw, M.led.map (·.e), M.begun⟩
/-- The blocks that a call may turn: the round's own, and the row of who has been heard. -/
abbrev RnM.own (M : RnM) (mb : Nat) : List Nat := mb :: (M.ha.map (·.block)).toList
/-- The reference's round lies at mb. -/
structure RnAt (K0 : Nat → Prop) (w : World) (mb : Nat) (M : RnM) : Prop where
  o : Blk w mb M.row 110
  n7 : 1 ≤ M.nd ∧ M.nd ≤ 7
  x : M.x.ok (fun b => b ∉ M.own mb ∧ K0 b) w
  l : LedM (fun b => b ∉ M.own mb ∧ K0 b) w M.la M.led
  lc : M.la = none → M.lc = 0
  cap : M.led.length * 96 ≤ 140737488351232
  h : w.ownsRow (mb + 1) 3 1 (.slice M.ha M.hs.length M.hc) (ints M.hs).length ((ints M.hs).flatMap inC)
  hn : ∀ i ∈ M.hs, i < M.nd
  ct : (ansOf M.nd M.hs).count true = M.hs.length
theorem RnAt.gr {w w' : World} {mb : Nat} {M : RnM} (h : RnAt K0 w mb M) (g : Gr w w') : RnAt K0 w' mb M :=
  ⟨h.o.gr g, h.n7, h.x.gr g, h.l.gr g, h.lc, h.cap, owns_gr h.h g, h.hn, h.ct⟩
theorem RnAt.hs7 {w : World} {mb : Nat} {M : RnM} (h : RnAt K0 w mb M) : M.hs.length ≤ 7 := by
  have h1 := h.ct
  have h2 : (ansOf M.nd M.hs).count true ≤ (ansOf M.nd M.hs).length := List.count_le_length
  rw [ansOf_len] at h2
  have := h.n7
  omega
theorem RnAt.heard {w : World} {mb : Nat} {M : RnM} (h : RnAt K0 w mb M) : RecsAt 1 inC w M.ha (ints M.hs) := by
  obtain ⟨a', c', hv, hr, _, _⟩ := recs_of_owns inC_len h.h
  injection hv with h1 _ _
  rw [h1]
  exact hr
theorem RnAt.hblk {w : World} {mb : Nat} {M : RnM} (h : RnAt K0 w mb M) {y : Nat} (hy : y ∈ (M.ha.map (·.block)).toList) : mb + 1 ≤ y ∧ y < w.heap.size := by
  have : (Value.slice M.ha M.hs.length M.hc).ownBlock = some y := by
    cases hM : M.ha with
    | none => rw [hM] at hy; simp at hy
    | some x => rw [hM] at hy; simp at hy; subst hy; rfl
  have := owns_lt h.h y this
  exact ⟨this.2, this.1⟩
theorem RnAt.mono {K0' : Nat → Prop} {w : World} {mb : Nat} {M : RnM} (h : RnAt K0 w mb M) (hk : ∀ b, b < w.heap.size → K0 b → K0' b) : RnAt K0' w mb M :=
  ⟨h.o, h.n7, h.x.mono (fun b hb h2 => ⟨h2.1, hk b hb h2.2⟩), h.l.mono (fun b hb h2 => ⟨h2.1, hk b hb h2.2⟩), h.lc, h.cap, h.h, h.hn, h.ct⟩
/-- Another cell of the round, which turns neither its entry nor its lists. -/
theorem RnAt.set {w : World} {mb : Nat} {M M' : RnM} (h : RnAt K0 w mb M) (i : Nat) (v : Value) (hr : M'.row = M.row.setIfInBounds i v) (h0 : M'.nd = M.nd) (h1 : M'.hs = M.hs) (h2 : M'.x = M.x) (h3 : M'.la = M.la) (h4 : M'.led = M.led) (h5 : M'.lc = M.lc) (h6 : M'.ha = M.ha) (h7 : M'.hc = M.hc) : RnAt K0 (w.setCell ⟨mb, i, none⟩ v) mb M' := by
  have g : GrX [mb] w (w.setCell ⟨mb, i, none⟩ v) := (GrX.refl _ w).set (.inl (by simp)) v
  have ho : M'.own mb = M.own mb := by show mb :: (M'.ha.map _).toList = _; rw [h6]
  have hT : ∀ y, y ∈ [mb] → ¬ (y ∉ M.own mb ∧ K0 y) := by rintro y hy ⟨y1, _⟩; simp at hy; subst hy; exact y1 (List.mem_cons_self ..)
  refine ⟨hr ▸ h.o.set i v, by rw [h0]; exact h.n7, by rw [h2, ho]; exact h.x.grx g hT, by rw [h3, h4, ho]; exact h.l.grx g hT, by rw [h3, h5]; exact h.lc, by rw [h4]; exact h.cap, ?_, by rw [h0, h1]; exact h.hn, by rw [h0, h1]; exact h.ct⟩
  rw [h1, h6, h7]
  refine owns_gx h.h g (fun x hx => ?_)
  have := owns_lt h.h x hx
  simp
  omega
set_option maxRecDepth 100000 in
set_option maxHeartbeats 1600000 in
theorem rheard_any (M : RnM) (n : Int) (w : World) (mb : Nat) (h : RnAt K0 w mb M) :
    Calls Tryd.prog 99 #[.pointer (some ⟨mb, 0, none⟩), .int .i64 n] w fun e w' => e = .returned (.bool (decide (n ∈ ints M.hs))) ∧ w = w' := by
  have c15 : w.cell? ⟨mb, 15, none⟩ = some (.slice M.ha M.hs.length M.hc) := h.o.cell rfl
  have hr := h.heard
  have h7 := h.hs7
  obtain ⟨B, hB⟩ : ∃ B, B = decide (n ∈ ints M.hs) := ⟨_, rfl⟩
  rw [← hB]
  have hz := h.o.lt
  clear h
  replace hr := Lib.hid hr
  replace hB := Lib.hid hB
  go_enter Tryd.func99, Tryd.ntmps99
  go_wp2_with fail
  go_loop [12] (fun iv => ∃ k : Nat, k ≤ M.hs.length ∧ iv = .int .i64 k ∧ Hid (∀ j, j < k → (ints M.hs)[j]? ≠ some n)) (fun iv => M.hs.length - (intOf iv).toNat)
  case atStart => exact ⟨0, Nat.zero_le _, rfl, Lib.hid (fun j hj => by omega)⟩
  case round =>
    obtain ⟨k, hk, rfl, hno⟩ := hrel
    by_cases hlt : k < M.hs.length
    · obtain ⟨x, hx⟩ := get_some M.hs k hlt
      have hxi : (ints M.hs)[k]? = some (x : Int) := by rw [List.getElem?_map, hx]; rfl
      obtain ⟨b, off, ha, hb, hc⟩ := hr.out k x hxi
      have d0 := hc 0 _ rfl
      rw [Nat.mul_one, Nat.add_zero] at d0
      by_cases he : (x : Int) = n
      · have t1 : ((x : Int) == n) = true := by simpa using he
        have hBt : B = true := by rw [hB.out]; exact decide_eq_true (List.mem_of_getElem? (by rw [hxi, he]))
        replace hx := Lib.hid hx
        replace hxi := Lib.hid hxi
        replace he := Lib.hid he
        replace hBt := Lib.hid hBt
        go_wp2_with fail
        go_ret
        exact ⟨by rw [hBt.out]; rfl, rfl⟩
      · have t1 : ((x : Int) == n) = false := beq_eq_false_iff_ne.2 he
        replace hx := Lib.hid hx
        replace hxi := Lib.hid hxi
        replace he := Lib.hid he
        go_wp2_with fail
        go_round
        case rel => exact ⟨k + 1, by omega, by go_num, Lib.hid (fun j hj => by
          by_cases hjk : j = k
          · rw [hjk, hxi.out]; exact fun e => he.out (Option.some.inj e)
          · exact hno.out j (by omega))⟩
        case measure => simp [intOf]; omega
    · have hBf : B = false := by
        rw [hB.out]
        refine decide_eq_false (fun hm => ?_)
        obtain ⟨j, hj⟩ := List.mem_iff_getElem?.1 hm
        have : j < (ints M.hs).length := get_lt hj
        rw [List.length_map] at this
        exact hno.out j (by omega) hj
      replace hBf := Lib.hid hBf
      go_wp2_with fail
      go_ret
      exact ⟨by rw [hBf.out]; rfl, rfl⟩
end Go.Proofs.YtblfljpmkgmjaaaDoor
