/- DeskStays: the walk. Printed by gen_y7.py. -/
import Derived.Test.YtglfdnfojpdkjaaGreatDoorY6
import Derived.Test.YtglfdnfojpdkjaaGreatDoorJ43
import Derived.Test.YtglfdnfojpdkjaaGreatDoorJ41
import Derived.Laws.AppendOwnNone
namespace Go.Proofs.YtglfdnfojpdkjaaGreatDoor
open Go.RowKit

theorem step_append_opt {α : Type} {k : Nat} {enc : α → List Value} {P : Program} {ops : Array Oper} {o : Oper} {a : Act} {w : World} {K : Act → World → Prop} {Q : Exit → Act → World → Prop} {E : Prop} (hgd : o.guard = none) (s x : Operand) (t : TypeId)
    (ho : o.op = .call { callee := .builtin .append, args := #[s, x], argTypes := #[t, t] })
    (base : Nat) (e : TypeId) (i : TypeInfo) (z : Value) (bytes : Nat) (ht : P.underlying t = some (.slice e)) (hi : P.info? e = some i) (hz : i.zero = some z)
    (hsize : i.size = k) (hby : i.bytes = bytes) (hzs : z.cells.size = k) (hsz : 0 < k)
    (hk : ∀ s, (enc s).length = k) (h1 : ∀ s, ∀ u ∈ enc s, u.oneCell' = true)
    (v : Value) (l0 : List α) (hs : a.eval s = v) (hown : w.ownsRow base e k v l0.length (l0.flatMap enc))
    (sa : Option Addr) (m c : Nat) (l : List α) (hm : l.length = m) (hx : a.eval x = .slice sa m c) (hl : RecsAt k enc w sa l) (hc : sa = none → c = 0)
    (h63 : l0.length + m ≤ maxLen) (hbytes : (l0.length + m) * bytes ≤ 140737488355328) (hbase : base ≤ w.heap.size)
    (h : ∀ v' w', w'.ownsRow base e k v' (l0 ++ l).length ((l0 ++ l).flatMap enc) → w.grownBy w' v.ownBlock → K (a.put o.dst v') w') :
    if Region.wanted o (yielded ops a.tmps) = true then Oper.wp P o a w K Q else E := by
  cases sa with
  | some ad => exact step_append_recs hgd s x t ho base e i z bytes ht hi hz hsize hby hzs hsz hk h1 v l0 hs hown ad m c l hm hx hl h63 hbytes hbase h
  | none =>
    obtain rfl := hc rfl
    obtain rfl : l = [] := by
      cases l with
      | nil => rfl
      | cons y r => obtain ⟨b, off, hh, _⟩ := hl 0 y rfl; cases hh
    obtain rfl : m = 0 := hm.symm
    have hw : Region.wanted o (yielded ops a.tmps) = true := by simp [Region.wanted, hgd]
    rw [if_pos hw]
    have hrun := run_append_owned_none (P := P) (w := w) base t o.type e i k ht hi v l0.length (l0.flatMap enc) hown
    unfold Oper.wp
    simp [execOp, ho, resolve, invoke, builtin, hs, hx, hrun, Result.andThen]
    exact h v w (by simpa using hown) ⟨rfl, rfl, rfl, Nat.le_refl _, fun _ _ _ => rfl⟩
set_option maxRecDepth 100000 in
set_option maxHeartbeats 1600000 in
theorem rplace_any (a : Option Addr) (c : Nat) (L : List EntM) (cl nu : Int) (w : World) (h : LedM Any w a L) (hm : L.length ≤ maxLen) :
    Calls Tryz.prog 15 #[.slice a L.length c, .int .i64 cl, .int .i64 nu] w fun e w' => e = .returned (.int .i64 (plIx L cl nu + 1)) ∧ Gr w w' := by
  obtain ⟨P, hP⟩ : ∃ P, P = plIx L cl nu + 1 := ⟨_, rfl⟩
  rw [← hP]
  unfold maxLen at hm
  replace hP := Lib.hid hP
  go_enter Tryz.func15, Tryz.ntmps15
  go_wp2_with fail
  go_loopw [11] (fun iv wr => ∃ k : Nat, k ≤ L.length ∧ iv = .int .i64 k ∧ Hid (∀ y ∈ L.take k, isKey cl nu y.e = false) ∧ Gr w wr) (fun iv _ => L.length - (intOf iv).toNat)
  case atStart => exact ⟨0, Nat.zero_le _, rfl, Lib.hid (fun y hy => by simp at hy), Gr.refl _⟩
  case round =>
    obtain ⟨k, hk, rfl, hno, hg⟩ := hrel
    by_cases hlt : k < L.length
    · obtain ⟨x, hx⟩ := get_some L k hlt
      obtain ⟨b, off, rfl, hb, _, c0, c1, c2, c3, c4, c5, c6, c7, c8, c9⟩ := (h.gr hg).get hx
      have hg2 : Gr w (wr.alloc x.obj) := hg.alloc _
      cases hkey : isKey cl nu x.e with
      | true =>
        have hPk : P = (k : Int) + 1 := by rw [hP.out, plIx_at hno.out hx hkey]
        have e2 : x.e.cl = cl ∧ x.e.nu = nu := by unfold isKey at hkey; simpa using hkey
        have e3 : (x.e.cl == cl) = true := by simpa using e2.1
        have e4 : (x.e.nu == nu) = true := by simpa using e2.2
        replace hx := Lib.hid hx
        replace hPk := Lib.hid hPk
        replace hg2 := Lib.hid hg2
        replace hkey := Lib.hid hkey
        clear e2
        go_wp2_with fail
        go_ret
        exact ⟨by rw [hPk.out]; rfl, hg2.out⟩
      | false =>
        have hno2 : ∀ y ∈ L.take (k + 1), isKey cl nu y.e = false := fun y hy => by
          rw [take_snoc hx] at hy
          rcases List.mem_append.1 hy with hy | hy
          · exact hno.out y hy
          · rw [List.mem_singleton.1 hy]; exact hkey
        by_cases q1 : x.e.cl = cl
        · have e3 : (x.e.cl == cl) = true := by simpa using q1
          have e4 : (x.e.nu == nu) = false := by
            cases h5 : (x.e.nu == nu) with
            | false => rfl
            | true => unfold isKey at hkey; rw [e3, h5] at hkey; cases hkey
          replace hx := Lib.hid hx
          replace hg2 := Lib.hid hg2
          replace hkey := Lib.hid hkey
          replace hno2 := Lib.hid hno2
          clear q1
          go_wp2_with fail
          go_roundw
          case rel => exact ⟨k + 1, by omega, by go_num, hno2, hg2.out⟩
          case measure => simp [intOf]; omega
        · have e3 : (x.e.cl == cl) = false := by simpa using q1
          replace hx := Lib.hid hx
          replace hg2 := Lib.hid hg2
          replace hkey := Lib.hid hkey
          replace hno2 := Lib.hid hno2
          clear q1
          go_wp2_with fail
          go_roundw
          case rel => exact ⟨k + 1, by omega, by go_num, hno2, hg2.out⟩
          case measure => simp [intOf]; omega
    · have hkl : k = L.length := by omega
      have hP0 : P = 0 := by
        have := hno.out
        rw [hkl, List.take_length] at this
        rw [hP.out, plIx_none this]
        rfl
      replace hP0 := Lib.hid hP0
      replace hkl := Lib.hid hkl
      go_wp2_with fail
      go_ret
      exact ⟨by rw [hP0.out]; rfl, hg⟩
/-- The reference's Add, an entry more. -/
def RAddP (L : List Ent) (K : Nat → Prop) (n : Nat) (w : World) (e : Ending) (w' : World) : Prop :=
  ∃ a c L', e = .returned (.tuple #[.slice a L'.length c, .int .i64 n, .int .i64 0]) ∧ L'.map (·.e) = L ∧ LedM (fun b => w.heap.size ≤ b ∨ K b) w' a L' ∧ (a = none → c = 0) ∧ Gr w w'
set_option maxRecDepth 100000 in
set_option maxHeartbeats 1600000 in
theorem same1_yes (w : World) (x0 x1 x2 x3 : Int) :
    Calls Tryz.prog 13 #[.agg #[.int .i64 x0, .int .i64 x1, .int .i64 x2, .int .i64 x3, .slice none 0 0], .agg #[.int .i64 x0, .int .i64 x1, .int .i64 x2, .int .i64 x3, .slice none 0 0]] w fun e w' => e = .returned (.bool true) ∧ Gr w w' := by
  have q1 := fun w' => conv_any (w := w') (a := none) (l := []) 0 (fun i s h => by simp at h)
  dsimp only [List.length_nil] at q1
  go_enter Tryz.func13, Tryz.ntmps13
  go_wp2_with fail
  go_ret
  exact ⟨rfl, (by repeat (first | exact Gr.refl _ | apply Gr.alloc | apply Gr.drew | apply Gr.drewN | (refine Gr.setCell ?_ (by first | (simp; done) | (simp; omega)) _) | (refine Gr.trans ?_ (by assumption))))⟩
set_option maxHeartbeats 1600000 in
theorem same1_no (w : World) (x0 x1 x2 x3 y2 y3 : Int) (h : x2 ≠ y2) :
    Calls Tryz.prog 13 #[.agg #[.int .i64 x0, .int .i64 x1, .int .i64 x2, .int .i64 x3, .slice none 0 0], .agg #[.int .i64 x0, .int .i64 x1, .int .i64 y2, .int .i64 y3, .slice none 0 0]] w fun e w' => e = .returned (.bool false) ∧ Gr w w' := by
  have h1 : (x2 == y2) = false := by simpa using h
  replace h := Lib.hid h
  go_enter Tryz.func13, Tryz.ntmps13
  go_wp2_with fail
  go_ret
  exact ⟨rfl, (by repeat (first | exact Gr.refl _ | apply Gr.alloc | apply Gr.drew | apply Gr.drewN | (refine Gr.setCell ?_ (by first | (simp; done) | (simp; omega)) _) | (refine Gr.trans ?_ (by assumption))))⟩
set_option maxRecDepth 100000 in
set_option maxHeartbeats 12800000 in
theorem deskStays_any {G : List Nat} {E : Nat → Addr} (W : World) (hE : EAt G E W) (i0 : 4 ∈ G) (i1 : 5 ∈ G) (i3 : 7 ∈ G) (i4 : 6 ∈ G) (i6 : 0 ∈ G) (i7 : 1 ∈ G) (a : Option Addr) (c : Nat) (L : List EntM) (hL : LedM Any W a L) (hLi : ∀ x ∈ L, EntB x.e) (hLm : L.length * 96 ≤ 140737488351232) (hcap : L.length ≤ c) (a1 : Option Addr) (c1 : Nat) (M : List EntM) (hM : LedM Any W a1 M) (hMi : ∀ x ∈ M, EntB x.e) (hMm : M.length * 96 ≤ 140737488351232) (ha1 : a1 = none → c1 = 0) (k : Int) (q : EntM) (hq : EntB q.e) :
    Calls Tryz.prog 4 #[.slice a L.length c, .slice a1 M.length c1, .agg #[.int .i64 k, .int .i64 q.e.cl, .int .i64 q.e.nu, .int .i64 q.e.kd, .int .i64 q.e.id, .int .i64 q.e.srv.k, .int .i64 q.e.srv.q, .int .i64 q.e.srv.t, .int .i64 q.e.po, .slice q.a q.e.tasks.length q.c, .int .i64 q.e.at_]] W fun e w' => e = .returned (.bool true) ∧ Gr W w' := by
  obtain ⟨i36, hi6, hz0, hz1, hz2⟩ := info_parts Tryz.infoEnt
  obtain ⟨Le, hLe⟩ : ∃ Le, Le = L.map (·.e) := ⟨_, rfl⟩
  obtain ⟨Me, hMe⟩ : ∃ Me, Me = M.map (·.e) := ⟨_, rfl⟩
  obtain ⟨V1, hV1⟩ : ∃ V1, V1 = ansE Le q.e.cl q.e.nu := ⟨_, rfl⟩
  obtain ⟨V2, hV2⟩ : ∃ V2, V2 = ansE (Le ++ Me) q.e.cl q.e.nu := ⟨_, rfl⟩
  obtain ⟨W1, hW1⟩ : ∃ W1, W1 = W.alloc (.cells #[.int .i64 k, .int .i64 q.e.cl, .int .i64 q.e.nu, .int .i64 q.e.kd, .int .i64 q.e.id, .int .i64 q.e.srv.k, .int .i64 q.e.srv.q, .int .i64 q.e.srv.t, .int .i64 q.e.po, .slice q.a q.e.tasks.length q.c, .int .i64 q.e.at_] 29) := ⟨_, rfl⟩
  have gW1 : Gr W W1 := by rw [hW1]; exact (Gr.refl W).alloc _
  have hQ1 : Blk W1 W.heap.size #[.int .i64 k, .int .i64 q.e.cl, .int .i64 q.e.nu, .int .i64 q.e.kd, .int .i64 q.e.id, .int .i64 q.e.srv.k, .int .i64 q.e.srv.q, .int .i64 q.e.srv.t, .int .i64 q.e.po, .slice q.a q.e.tasks.length q.c, .int .i64 q.e.at_] 29 := by rw [hW1]; exact Blk.new _ _ _
  have hal := alive20_any W1 (hE.gr gW1) i7
  replace hLe := Lib.hid hLe
  replace hMe := Lib.hid hMe
  replace hV1 := Lib.hid hV1
  replace hV2 := Lib.hid hV2
  replace hW1 := Lib.hid hW1
  replace hQ1 := Lib.hid hQ1
  replace hal := Lib.hid hal
  replace hL := Lib.hid hL
  replace hM := Lib.hid hM
  replace hLi := Lib.hid hLi
  replace hMi := Lib.hid hMi
  go_enter Tryz.func4, Tryz.ntmps4
  go_upto_region 1 with fail
  rw [← hW1.out]
  go_wp2_with fail
  refine hal.out.mono ?_
  rintro e w2 ⟨rfl, g2⟩
  clear hal
  have hQ2 := hQ1.out.gr g2
  have gA2 := gW1.trans g2
  have zq2 := hQ2.lt
  have qf := fun i => hQ2.free i
  have o0 := hQ2.cell (i := 0) (v := .int .i64 k) rfl
  have o1 := hQ2.cell (i := 1) (v := .int .i64 q.e.cl) rfl
  have o2 := hQ2.cell (i := 2) (v := .int .i64 q.e.nu) rfl
  have o3 := hQ2.cell (i := 3) (v := .int .i64 q.e.kd) rfl
  have o4 := hQ2.cell (i := 4) (v := .int .i64 q.e.id) rfl
  have o5 := hQ2.cell (i := 5) (v := .int .i64 q.e.srv.k) rfl
  have o6 := hQ2.cell (i := 6) (v := .int .i64 q.e.srv.q) rfl
  have o7 := hQ2.cell (i := 7) (v := .int .i64 q.e.srv.t) rfl
  have o8 := hQ2.cell (i := 8) (v := .int .i64 q.e.po) rfl
  have o9 := hQ2.cell (i := 9) (v := .slice q.a q.e.tasks.length q.c) rfl
  have o10 := hQ2.cell (i := 10) (v := .int .i64 q.e.at_) rfl
  replace hQ2 := Lib.hid hQ2
  have hws : IntKind.i64.wrap ((L.length : Int) + M.length) = (L.length : Int) + M.length := by rw [IntKind.wrap_i64] <;> omega
  by_cases hsum : 40 < L.length + M.length
  · have ts : (40 : Int) < (L.length : Int) + M.length := by omega
    have tsb : decide ((40 : Int) < (L.length : Int) + M.length) = true := decide_eq_true ts
    go_wp2_with fail
    go_ret
    exact ⟨rfl, gA2⟩
  · have ts : ¬ (40 : Int) < (L.length : Int) + M.length := by omega
    have tsb : decide ((40 : Int) < (L.length : Int) + M.length) = false := decide_eq_false ts
    go_upto_region 6 with fail
    obtain ⟨w3, hw3⟩ : ∃ w3, w3 = w2.setCell ⟨W.heap.size, 0, none⟩ (.int .i64 1) := ⟨_, rfl⟩
    rw [← hw3]
    clear qf o0 o1 o2 o3 o4 o5 o6 o7 o8 o9 o10
    have hQ3 : Blk w3 W.heap.size #[.int .i64 1, .int .i64 q.e.cl, .int .i64 q.e.nu, .int .i64 q.e.kd, .int .i64 q.e.id, .int .i64 q.e.srv.k, .int .i64 q.e.srv.q, .int .i64 q.e.srv.t, .int .i64 q.e.po, .slice q.a q.e.tasks.length q.c, .int .i64 q.e.at_] 29 := by rw [hw3]; exact hQ2.out.set 0 (.int .i64 1)
    have gx3 : GrX [W.heap.size] w2 w3 := by rw [hw3]; exact (GrX.refl _ _).set (.inl (by simp)) _
    have gA3 : Gr W w3 := gx3.all gA2 (fun y hy => by rw [List.mem_singleton.1 hy]; exact Nat.le_refl _)
    have hans := fun (w' : World) (g : Gr W w') => answer_any a c L q w' (hE.gr g) i0 i1 i3 i4 i6 (hL.out.gr g) hLi.out (by omega) hcap hq
    rw [← hLe.out, ← hV1.out] at hans
    have k0 := hQ3.cell (i := 0) (v := .int .i64 1) rfl
    have k1 := hQ3.cell (i := 1) (v := .int .i64 q.e.cl) rfl
    have k2 := hQ3.cell (i := 2) (v := .int .i64 q.e.nu) rfl
    have k3 := hQ3.cell (i := 3) (v := .int .i64 q.e.kd) rfl
    have k4 := hQ3.cell (i := 4) (v := .int .i64 q.e.id) rfl
    have k5 := hQ3.cell (i := 5) (v := .int .i64 q.e.srv.k) rfl
    have k6 := hQ3.cell (i := 6) (v := .int .i64 q.e.srv.q) rfl
    have k7 := hQ3.cell (i := 7) (v := .int .i64 q.e.srv.t) rfl
    have k8 := hQ3.cell (i := 8) (v := .int .i64 q.e.po) rfl
    have k9 := hQ3.cell (i := 9) (v := .slice q.a q.e.tasks.length q.c) rfl
    have k10 := hQ3.cell (i := 10) (v := .int .i64 q.e.at_) rfl
    replace hw3 := Lib.hid hw3
    replace hQ3 := Lib.hid hQ3
    replace gx3 := Lib.hid gx3
    replace hans := Lib.hid hans
    cases hv1 : V1 with
    | none =>
      have han1 : ∀ w', Gr W w' → Calls Tryz.prog 11 #[.slice a L.length c, .agg #[.int .i64 1, .int .i64 q.e.cl, .int .i64 q.e.nu, .int .i64 q.e.kd, .int .i64 q.e.id, .int .i64 q.e.srv.k, .int .i64 q.e.srv.q, .int .i64 q.e.srv.t, .int .i64 q.e.po, .slice q.a q.e.tasks.length q.c, .int .i64 q.e.at_]] w' fun e w4 => e = .returned (.tuple #[.agg #[.int .i64 0, .int .i64 0, .int .i64 0, .int .i64 0, .slice none 0 0], .bool false]) ∧ Gr w' w4 := fun w' g => (hans.out w' g).mono (fun e w4 hh => by rw [hv1] at hh; exact ⟨hh.2, hh.1⟩)
      replace han1 := Lib.hid han1
      clear hans
      go_wp2_with fail
      refine (han1.out w3 gA3).mono ?_
      rintro e w4 ⟨rfl, g4⟩
      clear k0 k1 k2 k3 k4 k5 k6 k7 k8 k9 k10
      obtain ⟨rb, hrb⟩ : ∃ rb, rb = w4.heap.size := ⟨_, rfl⟩
      obtain ⟨w5, hw5⟩ : ∃ w5, w5 = w4.alloc (.cells #[.int .i64 0, .int .i64 0, .int .i64 0, .int .i64 0, .slice none 0 0] 46) := ⟨_, rfl⟩
      have g5 : Gr w4 w5 := by rw [hw5]; exact (Gr.refl _).alloc _
      have hR5 : Blk w5 rb #[.int .i64 0, .int .i64 0, .int .i64 0, .int .i64 0, .slice none 0 0] 46 := by rw [hw5, hrb]; exact Blk.new _ _ _
      have g45 := g4.trans g5
      have hQ5 := hQ3.out.gr g45
      have gA5 := gA3.trans g45
      have gd5 : Gr w5 w5.drew := (Gr.refl w5).drew
      have zq5 := hQ5.lt
      have ze5 := Nat.ne_of_lt zq5
      have zf5 := ze5.symm
      have k0 := hQ5.cell (i := 0) (v := .int .i64 1) rfl
      have k1 := hQ5.cell (i := 1) (v := .int .i64 q.e.cl) rfl
      have k2 := hQ5.cell (i := 2) (v := .int .i64 q.e.nu) rfl
      have k3 := hQ5.cell (i := 3) (v := .int .i64 q.e.kd) rfl
      have k4 := hQ5.cell (i := 4) (v := .int .i64 q.e.id) rfl
      have k5 := hQ5.cell (i := 5) (v := .int .i64 q.e.srv.k) rfl
      have k6 := hQ5.cell (i := 6) (v := .int .i64 q.e.srv.q) rfl
      have k7 := hQ5.cell (i := 7) (v := .int .i64 q.e.srv.t) rfl
      have k8 := hQ5.cell (i := 8) (v := .int .i64 q.e.po) rfl
      have k9 := hQ5.cell (i := 9) (v := .slice q.a q.e.tasks.length q.c) rfl
      have k10 := hQ5.cell (i := 10) (v := .int .i64 q.e.at_) rfl
      replace hrb := Lib.hid hrb
      replace hw5 := Lib.hid hw5
      replace hR5 := Lib.hid hR5
      replace hQ5 := Lib.hid hQ5
      go_upto_region 7 with fail
      rw [← hrb.out, ← hw5.out]
      cases hv2 : V2 with
      | none =>
        have han2 : Hid (∀ (w' : World), Gr W w' → ∀ (a' : Option Addr) (c' : Nat) (X : List EntM) (nn : Nat), X.length = nn → X.map (·.e) = Le ++ Me → LedM Any w' a' X → (∀ x ∈ X, EntB x.e) → X.length ≤ 100000 → X.length ≤ c' → Calls Tryz.prog 11 #[.slice a' nn c', .agg #[.int .i64 1, .int .i64 q.e.cl, .int .i64 q.e.nu, .int .i64 q.e.kd, .int .i64 q.e.id, .int .i64 q.e.srv.k, .int .i64 q.e.srv.q, .int .i64 q.e.srv.t, .int .i64 q.e.po, .slice q.a q.e.tasks.length q.c, .int .i64 q.e.at_]] w' fun e w4 => e = .returned (.tuple #[.agg #[.int .i64 0, .int .i64 0, .int .i64 0, .int .i64 0, .slice none 0 0], .bool false]) ∧ Gr w' w4) := Lib.hid (fun w' g a' c' X nn hnn hx hX hXi hXm hXc => by subst hnn; exact (answer_any a' c' X q w' (hE.gr g) i0 i1 i3 i4 i6 hX hXi hXm hXc hq).mono (fun e w4 hh => by rw [hx, ← hV2.out] at hh; first | exact ⟨hh.2, hh.1⟩ | (rw [hv2] at hh; exact ⟨hh.2, hh.1⟩)))
        have hib6 : ∀ X : List EntM, X.map (·.e) = L.map (·.e) → ∀ y ∈ X, EntB y.e := fun X hX y hy => by
          have h1 : y.e ∈ X.map (·.e) := List.mem_map.2 ⟨y, hy, rfl⟩
          rw [hX] at h1
          obtain ⟨z, hz, e⟩ := List.mem_map.1 h1
          rw [← e]
          exact hLi.out z hz
        go_cut [9, 10] (fun s9 s10 wx => ∃ pb : Nat, s9 = .pointer (some ⟨pb, 0, none⟩) ∧ s10 = .bool false ∧ Hid (Blk wx pb #[.int .i64 0, .int .i64 0, .int .i64 0, .int .i64 0, .slice none 0 0] 46 ∧ Gr w5 wx))
        case first =>
          go_region_held3 (fun w' => w'.cell? ⟨W.heap.size, 0, none⟩ = some (.int .i64 1) ∧ w'.cell? ⟨W.heap.size, 1, none⟩ = some (.int .i64 q.e.cl) ∧ w'.cell? ⟨W.heap.size, 2, none⟩ = some (.int .i64 q.e.nu) ∧ w'.cell? ⟨W.heap.size, 3, none⟩ = some (.int .i64 q.e.kd) ∧ w'.cell? ⟨W.heap.size, 4, none⟩ = some (.int .i64 q.e.id) ∧ w'.cell? ⟨W.heap.size, 5, none⟩ = some (.int .i64 q.e.srv.k) ∧ w'.cell? ⟨W.heap.size, 6, none⟩ = some (.int .i64 q.e.srv.q) ∧ w'.cell? ⟨W.heap.size, 7, none⟩ = some (.int .i64 q.e.srv.t) ∧ w'.cell? ⟨W.heap.size, 8, none⟩ = some (.int .i64 q.e.po) ∧ w'.cell? ⟨W.heap.size, 9, none⟩ = some (.slice q.a q.e.tasks.length q.c) ∧ w'.cell? ⟨W.heap.size, 10, none⟩ = some (.int .i64 q.e.at_)) (simp (maxDischargeDepth := 8) [go_sem, *])
            (first
              | (go_at_call 6; (with_reducible refine (rcopy_any a c L w5.drew (hL.out.gr (gA5.trans gd5)) hLm).mono ?_); rintro e w6 ⟨a6, c6, L6, rfl, hm6, hl6, hn6, hc6, hx6, g6, ho6, hd6⟩; have gq6 : Gr w5 w6 := gd5.trans g6; have hll : L6.length = L.length := (by have := congrArg List.length hm6; simpa using this); have ho6b := owns_base (B' := w5.heap.size) ho6 (by simp); rw [hll] at hd6 ho6b; have hQ6 := hQ5.out.gr gq6; have m0 := hQ6.cell (i := 0) (v := .int .i64 1) rfl; have m1 := hQ6.cell (i := 1) (v := .int .i64 q.e.cl) rfl; have m2 := hQ6.cell (i := 2) (v := .int .i64 q.e.nu) rfl; have m3 := hQ6.cell (i := 3) (v := .int .i64 q.e.kd) rfl; have m4 := hQ6.cell (i := 4) (v := .int .i64 q.e.id) rfl; have m5 := hQ6.cell (i := 5) (v := .int .i64 q.e.srv.k) rfl; have m6 := hQ6.cell (i := 6) (v := .int .i64 q.e.srv.q) rfl; have m7 := hQ6.cell (i := 7) (v := .int .i64 q.e.srv.t) rfl; have m8 := hQ6.cell (i := 8) (v := .int .i64 q.e.po) rfl; have m9 := hQ6.cell (i := 9) (v := .slice q.a q.e.tasks.length q.c) rfl; have m10 := hQ6.cell (i := 10) (v := .int .i64 q.e.at_) rfl; have zq6 := hQ6.lt; have ze6 := Nat.ne_of_lt zq6; have zf6 := ze6.symm; replace hQ6 := Lib.hid hQ6; replace hm6 := Lib.hid hm6; replace hl6 := Lib.hid hl6; replace ho6b := Lib.hid ho6b; replace hd6 := Lib.hid hd6; clear ho6)
              | (go_at_call 6; (with_reducible refine (rcopy_any a c L (w5.alloc (.cells #[.int .i64 0, .int .i64 0, .int .i64 0, .int .i64 0, .slice none 0 0] 46)).drew (hL.out.gr (gA5.trans (((Gr.refl w5).alloc _).drew))) hLm).mono ?_); rintro e w6 ⟨a6, c6, L6, rfl, hm6, hl6, hn6, hc6, hx6, g6, ho6, hd6⟩; have hP := (Blk.new w5 #[.int .i64 0, .int .i64 0, .int .i64 0, .int .i64 0, .slice none 0 0] 46).drew.gr g6; have hpb : w5.heap.size ≤ w5.heap.size := Nat.le_refl _; replace hP := Lib.hid hP; have gq6 : Gr w5 w6 := (((Gr.refl w5).alloc _).drew).trans g6; have hll : L6.length = L.length := (by have := congrArg List.length hm6; simpa using this); have ho6b := owns_base (B' := w5.heap.size) ho6 (by simp); rw [hll] at hd6 ho6b; have hQ6 := hQ5.out.gr gq6; have m0 := hQ6.cell (i := 0) (v := .int .i64 1) rfl; have m1 := hQ6.cell (i := 1) (v := .int .i64 q.e.cl) rfl; have m2 := hQ6.cell (i := 2) (v := .int .i64 q.e.nu) rfl; have m3 := hQ6.cell (i := 3) (v := .int .i64 q.e.kd) rfl; have m4 := hQ6.cell (i := 4) (v := .int .i64 q.e.id) rfl; have m5 := hQ6.cell (i := 5) (v := .int .i64 q.e.srv.k) rfl; have m6 := hQ6.cell (i := 6) (v := .int .i64 q.e.srv.q) rfl; have m7 := hQ6.cell (i := 7) (v := .int .i64 q.e.srv.t) rfl; have m8 := hQ6.cell (i := 8) (v := .int .i64 q.e.po) rfl; have m9 := hQ6.cell (i := 9) (v := .slice q.a q.e.tasks.length q.c) rfl; have m10 := hQ6.cell (i := 10) (v := .int .i64 q.e.at_) rfl; have zq6 := hQ6.lt; have ze6 := Nat.ne_of_lt zq6; have zf6 := ze6.symm; replace hQ6 := Lib.hid hQ6; replace hm6 := Lib.hid hm6; replace hl6 := Lib.hid hl6; replace ho6b := Lib.hid ho6b; replace hd6 := Lib.hid hd6; clear ho6)
              | (refine step_append_opt (k := 10) (enc := EntM.cells) (by rfl) _ _ 22 (by rfl) w5.heap.size 60 i36 _ 96 Tryz.underlying22 hi6 hz0 hz1 hz2 rfl (by decide) EntM.cells_len EntM.cells_one (.slice a6 L.length c6) L6 (by rfl) (by have h0 := owns_gr ho6b.out ((Gr.refl w6)); rw [hll]; exact h0) a1 M.length c1 M rfl (by rfl) (hM.out.gr (gA5.trans (gq6))).1.1 ha1 (by unfold maxLen; omega) (by omega) (gq6).size ?_; intro v7 w7 hown7 hgr7; obtain ⟨a7, c7, e7, r7, n7, -⟩ := recs_of_owns EntM.cells_len hown7; subst e7; have hcp7 := owns_cap hown7 rfl; have gq7 : Gr w5 w7 := (gq6).grown hgr7 (fun g hg => (owns_lt ho6b.out g hg).2); have gx7 : GrX (Value.slice a6 L.length c6).ownBlock.toList w6 w7 := ⟨hgr7.os, hgr7.tape, hgr7.output, hgr7.size, fun k hk hn => hgr7.block k hk (fun e => hn (by simp [← e]))⟩; have hl7 : LedM Any w7 a7 (L6 ++ M) := ⟨⟨r7, fun _ _ _ => trivial⟩, fun y hy => (by rcases List.mem_append.1 hy with hy | hy; exact (((hl6.out.2 y hy).mono (fun _ _ _ => trivial)).gr (Gr.refl w6)).grown hgr7 (fun ad ha ht => hd6.out y hy ad ha ht); exact ((hM.out.2 y hy).gr (gA5.trans (gq6))).grown hgr7 (fun ad ha ht e => by have h1 := (owns_lt ho6b.out _ e).2; have h2 := (hM.out.2 y hy).1.1.lt ha ht; have h3 := gA5.size; omega))⟩; have hXi : ∀ y ∈ L6 ++ M, EntB y.e := fun y hy => (by rcases List.mem_append.1 hy with hy | hy; exact hib6 L6 hm6.out y hy; exact hMi.out y hy); have hXe : (L6 ++ M).map (·.e) = Le ++ Me := (by rw [List.map_append, hm6.out, ← hLe.out, ← hMe.out]); have hXl : (L6 ++ M).length = L.length + M.length := (by rw [List.length_append, hll]); have hc8 := han2.out w7 (gA5.trans gq7) a7 c7 (L6 ++ M) (L.length + M.length) hXl hXe hl7 hXi (by omega) hcp7.1; have hc8b := han2.out (w7.alloc (.cells #[.int .i64 0, .int .i64 0, .int .i64 0, .int .i64 0, .slice none 0 0] 46)) ((gA5.trans gq7).trans ((Gr.refl w7).alloc _)) a7 c7 (L6 ++ M) (L.length + M.length) hXl hXe (hl7.gr ((Gr.refl w7).alloc _)) hXi (by omega) hcp7.1; replace hc8 := Lib.hid hc8; replace hc8b := Lib.hid hc8b; clear hXi hXe hXl; have hQ7 := hQ5.out.gr gq7; have zq7 := hQ7.lt; have ze7 := Nat.ne_of_lt zq7; have zf7 := ze7.symm; have n0 := hQ7.cell (i := 0) (v := .int .i64 1) rfl; have n1 := hQ7.cell (i := 1) (v := .int .i64 q.e.cl) rfl; have n2 := hQ7.cell (i := 2) (v := .int .i64 q.e.nu) rfl; have n3 := hQ7.cell (i := 3) (v := .int .i64 q.e.kd) rfl; have n4 := hQ7.cell (i := 4) (v := .int .i64 q.e.id) rfl; have n5 := hQ7.cell (i := 5) (v := .int .i64 q.e.srv.k) rfl; have n6 := hQ7.cell (i := 6) (v := .int .i64 q.e.srv.q) rfl; have n7 := hQ7.cell (i := 7) (v := .int .i64 q.e.srv.t) rfl; have n8 := hQ7.cell (i := 8) (v := .int .i64 q.e.po) rfl; have n9 := hQ7.cell (i := 9) (v := .slice q.a q.e.tasks.length q.c) rfl; have n10 := hQ7.cell (i := 10) (v := .int .i64 q.e.at_) rfl; (try replace hP := Lib.hid (hP.out.grx gx7 (fun hm => owns_blk (owns_gr ho6b.out ((Gr.refl w6))) hP.out (by decide) (by simpa using hm)))); replace hQ7 := Lib.hid hQ7; replace hl7 := Lib.hid hl7; replace hown7 := Lib.hid hown7; replace gx7 := Lib.hid gx7)
              | (refine step_append_opt (k := 10) (enc := EntM.cells) (by rfl) _ _ 22 (by rfl) w5.heap.size 60 i36 _ 96 Tryz.underlying22 hi6 hz0 hz1 hz2 rfl (by decide) EntM.cells_len EntM.cells_one (.slice a6 L.length c6) L6 (by rfl) (by have h0 := owns_gr ho6b.out (((Gr.refl w6).alloc (.cells #[.int .i64 0, .int .i64 0, .int .i64 0, .int .i64 0, .slice none 0 0] 46))); rw [hll]; exact h0) a1 M.length c1 M rfl (by rfl) (hM.out.gr (gA5.trans (gq6.trans ((Gr.refl w6).alloc (.cells #[.int .i64 0, .int .i64 0, .int .i64 0, .int .i64 0, .slice none 0 0] 46))))).1.1 ha1 (by unfold maxLen; omega) (by omega) (gq6.trans ((Gr.refl w6).alloc (.cells #[.int .i64 0, .int .i64 0, .int .i64 0, .int .i64 0, .slice none 0 0] 46))).size ?_; intro v7 w7 hown7 hgr7; have hP := Lib.hid (Blk.new w6 #[.int .i64 0, .int .i64 0, .int .i64 0, .int .i64 0, .slice none 0 0] 46); have hpb : w5.heap.size ≤ w6.heap.size := gq6.size; obtain ⟨a7, c7, e7, r7, n7, -⟩ := recs_of_owns EntM.cells_len hown7; subst e7; have hcp7 := owns_cap hown7 rfl; have gq7 : Gr w5 w7 := (gq6.trans ((Gr.refl w6).alloc (.cells #[.int .i64 0, .int .i64 0, .int .i64 0, .int .i64 0, .slice none 0 0] 46))).grown hgr7 (fun g hg => (owns_lt ho6b.out g hg).2); have gx7 : GrX (Value.slice a6 L.length c6).ownBlock.toList (w6.alloc (.cells #[.int .i64 0, .int .i64 0, .int .i64 0, .int .i64 0, .slice none 0 0] 46)) w7 := ⟨hgr7.os, hgr7.tape, hgr7.output, hgr7.size, fun k hk hn => hgr7.block k hk (fun e => hn (by simp [← e]))⟩; have hl7 : LedM Any w7 a7 (L6 ++ M) := ⟨⟨r7, fun _ _ _ => trivial⟩, fun y hy => (by rcases List.mem_append.1 hy with hy | hy; exact (((hl6.out.2 y hy).mono (fun _ _ _ => trivial)).gr ((Gr.refl w6).alloc (.cells #[.int .i64 0, .int .i64 0, .int .i64 0, .int .i64 0, .slice none 0 0] 46))).grown hgr7 (fun ad ha ht => hd6.out y hy ad ha ht); exact ((hM.out.2 y hy).gr (gA5.trans (gq6.trans ((Gr.refl w6).alloc (.cells #[.int .i64 0, .int .i64 0, .int .i64 0, .int .i64 0, .slice none 0 0] 46))))).grown hgr7 (fun ad ha ht e => by have h1 := (owns_lt ho6b.out _ e).2; have h2 := (hM.out.2 y hy).1.1.lt ha ht; have h3 := gA5.size; omega))⟩; have hXi : ∀ y ∈ L6 ++ M, EntB y.e := fun y hy => (by rcases List.mem_append.1 hy with hy | hy; exact hib6 L6 hm6.out y hy; exact hMi.out y hy); have hXe : (L6 ++ M).map (·.e) = Le ++ Me := (by rw [List.map_append, hm6.out, ← hLe.out, ← hMe.out]); have hXl : (L6 ++ M).length = L.length + M.length := (by rw [List.length_append, hll]); have hc8 := han2.out w7 (gA5.trans gq7) a7 c7 (L6 ++ M) (L.length + M.length) hXl hXe hl7 hXi (by omega) hcp7.1; have hc8b := han2.out (w7.alloc (.cells #[.int .i64 0, .int .i64 0, .int .i64 0, .int .i64 0, .slice none 0 0] 46)) ((gA5.trans gq7).trans ((Gr.refl w7).alloc _)) a7 c7 (L6 ++ M) (L.length + M.length) hXl hXe (hl7.gr ((Gr.refl w7).alloc _)) hXi (by omega) hcp7.1; replace hc8 := Lib.hid hc8; replace hc8b := Lib.hid hc8b; clear hXi hXe hXl; have hQ7 := hQ5.out.gr gq7; have zq7 := hQ7.lt; have ze7 := Nat.ne_of_lt zq7; have zf7 := ze7.symm; have n0 := hQ7.cell (i := 0) (v := .int .i64 1) rfl; have n1 := hQ7.cell (i := 1) (v := .int .i64 q.e.cl) rfl; have n2 := hQ7.cell (i := 2) (v := .int .i64 q.e.nu) rfl; have n3 := hQ7.cell (i := 3) (v := .int .i64 q.e.kd) rfl; have n4 := hQ7.cell (i := 4) (v := .int .i64 q.e.id) rfl; have n5 := hQ7.cell (i := 5) (v := .int .i64 q.e.srv.k) rfl; have n6 := hQ7.cell (i := 6) (v := .int .i64 q.e.srv.q) rfl; have n7 := hQ7.cell (i := 7) (v := .int .i64 q.e.srv.t) rfl; have n8 := hQ7.cell (i := 8) (v := .int .i64 q.e.po) rfl; have n9 := hQ7.cell (i := 9) (v := .slice q.a q.e.tasks.length q.c) rfl; have n10 := hQ7.cell (i := 10) (v := .int .i64 q.e.at_) rfl; (try replace hP := Lib.hid (hP.out.grx gx7 (fun hm => owns_blk (owns_gr ho6b.out (((Gr.refl w6).alloc (.cells #[.int .i64 0, .int .i64 0, .int .i64 0, .int .i64 0, .slice none 0 0] 46)))) hP.out (by decide) (by simpa using hm)))); replace hQ7 := Lib.hid hQ7; replace hl7 := Lib.hid hl7; replace hown7 := Lib.hid hown7; replace gx7 := Lib.hid gx7)
              | (go_at_call 11; (with_reducible refine (hc8.out).mono ?_); rintro e w8 ⟨rfl, g8⟩; have gq8 : Gr w5 w8 := (gq7).trans g8; (try replace hP := Lib.hid (hP.out.gr g8)); (try (have pf := fun i => hP.out.free i; have p0 := hP.out.cell (i := 0) (v := .int .i64 0) rfl; have p1 := hP.out.cell (i := 1) (v := .int .i64 0) rfl; have p2 := hP.out.cell (i := 2) (v := .int .i64 0) rfl; have p3 := hP.out.cell (i := 3) (v := .int .i64 0) rfl; have p4 := hP.out.cell (i := 4) (v := .slice none 0 0) rfl)); have hQ8 := hQ5.out.gr gq8; have o0 := hQ8.cell (i := 0) (v := .int .i64 1) rfl; have o1 := hQ8.cell (i := 1) (v := .int .i64 q.e.cl) rfl; have o2 := hQ8.cell (i := 2) (v := .int .i64 q.e.nu) rfl; have o3 := hQ8.cell (i := 3) (v := .int .i64 q.e.kd) rfl; have o4 := hQ8.cell (i := 4) (v := .int .i64 q.e.id) rfl; have o5 := hQ8.cell (i := 5) (v := .int .i64 q.e.srv.k) rfl; have o6 := hQ8.cell (i := 6) (v := .int .i64 q.e.srv.q) rfl; have o7 := hQ8.cell (i := 7) (v := .int .i64 q.e.srv.t) rfl; have o8 := hQ8.cell (i := 8) (v := .int .i64 q.e.po) rfl; have o9 := hQ8.cell (i := 9) (v := .slice q.a q.e.tasks.length q.c) rfl; have o10 := hQ8.cell (i := 10) (v := .int .i64 q.e.at_) rfl; have zq8 := hQ8.lt; have ze8 := Nat.ne_of_lt zq8; have zf8 := ze8.symm; replace hQ8 := Lib.hid hQ8)
              | (go_at_call 11; (with_reducible refine (hc8b.out).mono ?_); rintro e w8 ⟨rfl, g8⟩; have hP := Lib.hid ((Blk.new w7 #[.int .i64 0, .int .i64 0, .int .i64 0, .int .i64 0, .slice none 0 0] 46)); have hpb : w5.heap.size ≤ w7.heap.size := gq7.size; have gq8 : Gr w5 w8 := (gq7.trans ((Gr.refl w7).alloc _)).trans g8; (try replace hP := Lib.hid (hP.out.gr g8)); (try (have pf := fun i => hP.out.free i; have p0 := hP.out.cell (i := 0) (v := .int .i64 0) rfl; have p1 := hP.out.cell (i := 1) (v := .int .i64 0) rfl; have p2 := hP.out.cell (i := 2) (v := .int .i64 0) rfl; have p3 := hP.out.cell (i := 3) (v := .int .i64 0) rfl; have p4 := hP.out.cell (i := 4) (v := .slice none 0 0) rfl)); have hQ8 := hQ5.out.gr gq8; have o0 := hQ8.cell (i := 0) (v := .int .i64 1) rfl; have o1 := hQ8.cell (i := 1) (v := .int .i64 q.e.cl) rfl; have o2 := hQ8.cell (i := 2) (v := .int .i64 q.e.nu) rfl; have o3 := hQ8.cell (i := 3) (v := .int .i64 q.e.kd) rfl; have o4 := hQ8.cell (i := 4) (v := .int .i64 q.e.id) rfl; have o5 := hQ8.cell (i := 5) (v := .int .i64 q.e.srv.k) rfl; have o6 := hQ8.cell (i := 6) (v := .int .i64 q.e.srv.q) rfl; have o7 := hQ8.cell (i := 7) (v := .int .i64 q.e.srv.t) rfl; have o8 := hQ8.cell (i := 8) (v := .int .i64 q.e.po) rfl; have o9 := hQ8.cell (i := 9) (v := .slice q.a q.e.tasks.length q.c) rfl; have o10 := hQ8.cell (i := 10) (v := .int .i64 q.e.at_) rfl; have zq8 := hQ8.lt; have ze8 := Nat.ne_of_lt zq8; have zf8 := ze8.symm; replace hQ8 := Lib.hid hQ8)
              | fail)
          all_goals go_wp2_with fail
          all_goals go_meet
          all_goals first
            | exact ⟨_, rfl, rfl, Lib.hid ⟨((((hP.out.set 0 _).set 1 _).set 2 _).set 3 _).set 4 _, ((((gq8.setCell hpb _).setCell hpb _).setCell hpb _).setCell hpb _).setCell hpb _⟩⟩
            | exact ⟨_, rfl, rfl, Lib.hid ⟨Blk.new w8 _ _, gq8.alloc _⟩⟩
            | (trace_state; sorry)
        case rest =>
          obtain ⟨pb, rfl, rfl, hc⟩ := hcut
          obtain ⟨hPx, gc9⟩ := hc.out
          obtain ⟨w9, rfl⟩ : ∃ w9 : World, w9 = wc := ⟨_, rfl⟩
          clear hc k0 k1 k2 k3 k4 k5 k6 k7 k8 k9 k10
          have hQ9 := hQ5.out.gr gc9
          have hR9 := hR5.out.gr gc9
          have gA9 := gA5.trans gc9
          have k0 := hQ9.cell (i := 0) (v := .int .i64 1) rfl
          have k1 := hQ9.cell (i := 1) (v := .int .i64 q.e.cl) rfl
          have k2 := hQ9.cell (i := 2) (v := .int .i64 q.e.nu) rfl
          have k3 := hQ9.cell (i := 3) (v := .int .i64 q.e.kd) rfl
          have k4 := hQ9.cell (i := 4) (v := .int .i64 q.e.id) rfl
          have k5 := hQ9.cell (i := 5) (v := .int .i64 q.e.srv.k) rfl
          have k6 := hQ9.cell (i := 6) (v := .int .i64 q.e.srv.q) rfl
          have k7 := hQ9.cell (i := 7) (v := .int .i64 q.e.srv.t) rfl
          have k8 := hQ9.cell (i := 8) (v := .int .i64 q.e.po) rfl
          have k9 := hQ9.cell (i := 9) (v := .slice q.a q.e.tasks.length q.c) rfl
          have k10 := hQ9.cell (i := 10) (v := .int .i64 q.e.at_) rfl
          replace hQ9 := Lib.hid hQ9
          replace hR9 := Lib.hid hR9
          replace hPx := Lib.hid hPx
          go_wp2_with fail
          refine (han1.out w9 gA9).mono ?_
          rintro e w10 ⟨rfl, g10⟩
          clear k0 k1 k2 k3 k4 k5 k6 k7 k8 k9 k10
          obtain ⟨tb, htb⟩ : ∃ tb, tb = w10.heap.size := ⟨_, rfl⟩
          obtain ⟨w11, hw11⟩ : ∃ w11, w11 = w10.alloc (.cells #[.int .i64 0, .int .i64 0, .int .i64 0, .int .i64 0, .slice none 0 0] 46) := ⟨_, rfl⟩
          have g11 : Gr w10 w11 := by rw [hw11]; exact (Gr.refl _).alloc _
          have hT11 : Blk w11 tb #[.int .i64 0, .int .i64 0, .int .i64 0, .int .i64 0, .slice none 0 0] 46 := by rw [hw11, htb]; exact Blk.new _ _ _
          have gq11 := g10.trans g11
          have hR11 := hR9.out.gr gq11
          have hP11 := hPx.out.gr gq11
          have hQ11 := hQ9.out.gr gq11
          have gA11 := gA9.trans gq11
          have t0 := hT11.cell (i := 0) (v := .int .i64 0) rfl
          have t1 := hT11.cell (i := 1) (v := .int .i64 0) rfl
          have t2 := hT11.cell (i := 2) (v := .int .i64 0) rfl
          have t3 := hT11.cell (i := 3) (v := .int .i64 0) rfl
          have t4 := hT11.cell (i := 4) (v := .slice none 0 0) rfl
          have r0 := hR11.cell (i := 0) (v := .int .i64 0) rfl
          have r1 := hR11.cell (i := 1) (v := .int .i64 0) rfl
          have r2 := hR11.cell (i := 2) (v := .int .i64 0) rfl
          have r3 := hR11.cell (i := 3) (v := .int .i64 0) rfl
          have r4 := hR11.cell (i := 4) (v := .slice none 0 0) rfl
          have p0 := hP11.cell (i := 0) (v := .int .i64 0) rfl
          have p1 := hP11.cell (i := 1) (v := .int .i64 0) rfl
          have p2 := hP11.cell (i := 2) (v := .int .i64 0) rfl
          have p3 := hP11.cell (i := 3) (v := .int .i64 0) rfl
          have p4 := hP11.cell (i := 4) (v := .slice none 0 0) rfl
          have k0 := hQ11.cell (i := 0) (v := .int .i64 1) rfl
          have k1 := hQ11.cell (i := 1) (v := .int .i64 q.e.cl) rfl
          have k2 := hQ11.cell (i := 2) (v := .int .i64 q.e.nu) rfl
          have k3 := hQ11.cell (i := 3) (v := .int .i64 q.e.kd) rfl
          have k4 := hQ11.cell (i := 4) (v := .int .i64 q.e.id) rfl
          have k5 := hQ11.cell (i := 5) (v := .int .i64 q.e.srv.k) rfl
          have k6 := hQ11.cell (i := 6) (v := .int .i64 q.e.srv.q) rfl
          have k7 := hQ11.cell (i := 7) (v := .int .i64 q.e.srv.t) rfl
          have k8 := hQ11.cell (i := 8) (v := .int .i64 q.e.po) rfl
          have k9 := hQ11.cell (i := 9) (v := .slice q.a q.e.tasks.length q.c) rfl
          have k10 := hQ11.cell (i := 10) (v := .int .i64 q.e.at_) rfl
          replace htb := Lib.hid htb
          replace hw11 := Lib.hid hw11
          replace hT11 := Lib.hid hT11
          replace hR11 := Lib.hid hR11
          replace hP11 := Lib.hid hP11
          replace hQ11 := Lib.hid hQ11
          go_upto_region 9 with fail
          rw [← htb.out, ← hw11.out]
          go_wp2_with fail
          refine (same1_yes w11 (0) (0) (0) (0)).mono ?_
          rintro e w12 ⟨rfl, g12⟩
          clear t0 t1 t2 t3 t4 r0 r1 r2 r3 r4 p0 p1 p2 p3 p4 k0 k1 k2 k3 k4 k5 k6 k7 k8 k9 k10
          go_wp2_with fail
          go_ret
          exact ⟨rfl, gA11.trans g12⟩
      | some s2 =>
        have han2 : Hid (∀ (w' : World), Gr W w' → ∀ (a' : Option Addr) (c' : Nat) (X : List EntM) (nn : Nat), X.length = nn → X.map (·.e) = Le ++ Me → LedM Any w' a' X → (∀ x ∈ X, EntB x.e) → X.length ≤ 100000 → X.length ≤ c' → Calls Tryz.prog 11 #[.slice a' nn c', .agg #[.int .i64 1, .int .i64 q.e.cl, .int .i64 q.e.nu, .int .i64 q.e.kd, .int .i64 q.e.id, .int .i64 q.e.srv.k, .int .i64 q.e.srv.q, .int .i64 q.e.srv.t, .int .i64 q.e.po, .slice q.a q.e.tasks.length q.c, .int .i64 q.e.at_]] w' fun e w4 => e = .returned (.tuple #[.agg #[.int .i64 q.e.cl, .int .i64 q.e.nu, .int .i64 (s2.1), .int .i64 (s2.2), .slice none 0 0], .bool true]) ∧ Gr w' w4) := Lib.hid (fun w' g a' c' X nn hnn hx hX hXi hXm hXc => by subst hnn; exact (answer_any a' c' X q w' (hE.gr g) i0 i1 i3 i4 i6 hX hXi hXm hXc hq).mono (fun e w4 hh => by rw [hx, ← hV2.out] at hh; first | exact ⟨hh.2, hh.1⟩ | (rw [hv2] at hh; exact ⟨hh.2, hh.1⟩)))
        have hib6 : ∀ X : List EntM, X.map (·.e) = L.map (·.e) → ∀ y ∈ X, EntB y.e := fun X hX y hy => by
          have h1 : y.e ∈ X.map (·.e) := List.mem_map.2 ⟨y, hy, rfl⟩
          rw [hX] at h1
          obtain ⟨z, hz, e⟩ := List.mem_map.1 h1
          rw [← e]
          exact hLi.out z hz
        go_cut [9, 10] (fun s9 s10 wx => ∃ pb : Nat, s9 = .pointer (some ⟨pb, 0, none⟩) ∧ s10 = .bool true ∧ Hid (Blk wx pb #[.int .i64 q.e.cl, .int .i64 q.e.nu, .int .i64 (s2.1), .int .i64 (s2.2), .slice none 0 0] 46 ∧ Gr w5 wx))
        case first =>
          go_region_held3 (fun w' => w'.cell? ⟨W.heap.size, 0, none⟩ = some (.int .i64 1) ∧ w'.cell? ⟨W.heap.size, 1, none⟩ = some (.int .i64 q.e.cl) ∧ w'.cell? ⟨W.heap.size, 2, none⟩ = some (.int .i64 q.e.nu) ∧ w'.cell? ⟨W.heap.size, 3, none⟩ = some (.int .i64 q.e.kd) ∧ w'.cell? ⟨W.heap.size, 4, none⟩ = some (.int .i64 q.e.id) ∧ w'.cell? ⟨W.heap.size, 5, none⟩ = some (.int .i64 q.e.srv.k) ∧ w'.cell? ⟨W.heap.size, 6, none⟩ = some (.int .i64 q.e.srv.q) ∧ w'.cell? ⟨W.heap.size, 7, none⟩ = some (.int .i64 q.e.srv.t) ∧ w'.cell? ⟨W.heap.size, 8, none⟩ = some (.int .i64 q.e.po) ∧ w'.cell? ⟨W.heap.size, 9, none⟩ = some (.slice q.a q.e.tasks.length q.c) ∧ w'.cell? ⟨W.heap.size, 10, none⟩ = some (.int .i64 q.e.at_)) (simp (maxDischargeDepth := 8) [go_sem, *])
            (first
              | (go_at_call 6; (with_reducible refine (rcopy_any a c L w5.drew (hL.out.gr (gA5.trans gd5)) hLm).mono ?_); rintro e w6 ⟨a6, c6, L6, rfl, hm6, hl6, hn6, hc6, hx6, g6, ho6, hd6⟩; have gq6 : Gr w5 w6 := gd5.trans g6; have hll : L6.length = L.length := (by have := congrArg List.length hm6; simpa using this); have ho6b := owns_base (B' := w5.heap.size) ho6 (by simp); rw [hll] at hd6 ho6b; have hQ6 := hQ5.out.gr gq6; have m0 := hQ6.cell (i := 0) (v := .int .i64 1) rfl; have m1 := hQ6.cell (i := 1) (v := .int .i64 q.e.cl) rfl; have m2 := hQ6.cell (i := 2) (v := .int .i64 q.e.nu) rfl; have m3 := hQ6.cell (i := 3) (v := .int .i64 q.e.kd) rfl; have m4 := hQ6.cell (i := 4) (v := .int .i64 q.e.id) rfl; have m5 := hQ6.cell (i := 5) (v := .int .i64 q.e.srv.k) rfl; have m6 := hQ6.cell (i := 6) (v := .int .i64 q.e.srv.q) rfl; have m7 := hQ6.cell (i := 7) (v := .int .i64 q.e.srv.t) rfl; have m8 := hQ6.cell (i := 8) (v := .int .i64 q.e.po) rfl; have m9 := hQ6.cell (i := 9) (v := .slice q.a q.e.tasks.length q.c) rfl; have m10 := hQ6.cell (i := 10) (v := .int .i64 q.e.at_) rfl; have zq6 := hQ6.lt; have ze6 := Nat.ne_of_lt zq6; have zf6 := ze6.symm; replace hQ6 := Lib.hid hQ6; replace hm6 := Lib.hid hm6; replace hl6 := Lib.hid hl6; replace ho6b := Lib.hid ho6b; replace hd6 := Lib.hid hd6; clear ho6)
              | (go_at_call 6; (with_reducible refine (rcopy_any a c L (w5.alloc (.cells #[.int .i64 0, .int .i64 0, .int .i64 0, .int .i64 0, .slice none 0 0] 46)).drew (hL.out.gr (gA5.trans (((Gr.refl w5).alloc _).drew))) hLm).mono ?_); rintro e w6 ⟨a6, c6, L6, rfl, hm6, hl6, hn6, hc6, hx6, g6, ho6, hd6⟩; have hP := (Blk.new w5 #[.int .i64 0, .int .i64 0, .int .i64 0, .int .i64 0, .slice none 0 0] 46).drew.gr g6; have hpb : w5.heap.size ≤ w5.heap.size := Nat.le_refl _; replace hP := Lib.hid hP; have gq6 : Gr w5 w6 := (((Gr.refl w5).alloc _).drew).trans g6; have hll : L6.length = L.length := (by have := congrArg List.length hm6; simpa using this); have ho6b := owns_base (B' := w5.heap.size) ho6 (by simp); rw [hll] at hd6 ho6b; have hQ6 := hQ5.out.gr gq6; have m0 := hQ6.cell (i := 0) (v := .int .i64 1) rfl; have m1 := hQ6.cell (i := 1) (v := .int .i64 q.e.cl) rfl; have m2 := hQ6.cell (i := 2) (v := .int .i64 q.e.nu) rfl; have m3 := hQ6.cell (i := 3) (v := .int .i64 q.e.kd) rfl; have m4 := hQ6.cell (i := 4) (v := .int .i64 q.e.id) rfl; have m5 := hQ6.cell (i := 5) (v := .int .i64 q.e.srv.k) rfl; have m6 := hQ6.cell (i := 6) (v := .int .i64 q.e.srv.q) rfl; have m7 := hQ6.cell (i := 7) (v := .int .i64 q.e.srv.t) rfl; have m8 := hQ6.cell (i := 8) (v := .int .i64 q.e.po) rfl; have m9 := hQ6.cell (i := 9) (v := .slice q.a q.e.tasks.length q.c) rfl; have m10 := hQ6.cell (i := 10) (v := .int .i64 q.e.at_) rfl; have zq6 := hQ6.lt; have ze6 := Nat.ne_of_lt zq6; have zf6 := ze6.symm; replace hQ6 := Lib.hid hQ6; replace hm6 := Lib.hid hm6; replace hl6 := Lib.hid hl6; replace ho6b := Lib.hid ho6b; replace hd6 := Lib.hid hd6; clear ho6)
              | (refine step_append_opt (k := 10) (enc := EntM.cells) (by rfl) _ _ 22 (by rfl) w5.heap.size 60 i36 _ 96 Tryz.underlying22 hi6 hz0 hz1 hz2 rfl (by decide) EntM.cells_len EntM.cells_one (.slice a6 L.length c6) L6 (by rfl) (by have h0 := owns_gr ho6b.out ((Gr.refl w6)); rw [hll]; exact h0) a1 M.length c1 M rfl (by rfl) (hM.out.gr (gA5.trans (gq6))).1.1 ha1 (by unfold maxLen; omega) (by omega) (gq6).size ?_; intro v7 w7 hown7 hgr7; obtain ⟨a7, c7, e7, r7, n7, -⟩ := recs_of_owns EntM.cells_len hown7; subst e7; have hcp7 := owns_cap hown7 rfl; have gq7 : Gr w5 w7 := (gq6).grown hgr7 (fun g hg => (owns_lt ho6b.out g hg).2); have gx7 : GrX (Value.slice a6 L.length c6).ownBlock.toList w6 w7 := ⟨hgr7.os, hgr7.tape, hgr7.output, hgr7.size, fun k hk hn => hgr7.block k hk (fun e => hn (by simp [← e]))⟩; have hl7 : LedM Any w7 a7 (L6 ++ M) := ⟨⟨r7, fun _ _ _ => trivial⟩, fun y hy => (by rcases List.mem_append.1 hy with hy | hy; exact (((hl6.out.2 y hy).mono (fun _ _ _ => trivial)).gr (Gr.refl w6)).grown hgr7 (fun ad ha ht => hd6.out y hy ad ha ht); exact ((hM.out.2 y hy).gr (gA5.trans (gq6))).grown hgr7 (fun ad ha ht e => by have h1 := (owns_lt ho6b.out _ e).2; have h2 := (hM.out.2 y hy).1.1.lt ha ht; have h3 := gA5.size; omega))⟩; have hXi : ∀ y ∈ L6 ++ M, EntB y.e := fun y hy => (by rcases List.mem_append.1 hy with hy | hy; exact hib6 L6 hm6.out y hy; exact hMi.out y hy); have hXe : (L6 ++ M).map (·.e) = Le ++ Me := (by rw [List.map_append, hm6.out, ← hLe.out, ← hMe.out]); have hXl : (L6 ++ M).length = L.length + M.length := (by rw [List.length_append, hll]); have hc8 := han2.out w7 (gA5.trans gq7) a7 c7 (L6 ++ M) (L.length + M.length) hXl hXe hl7 hXi (by omega) hcp7.1; have hc8b := han2.out (w7.alloc (.cells #[.int .i64 0, .int .i64 0, .int .i64 0, .int .i64 0, .slice none 0 0] 46)) ((gA5.trans gq7).trans ((Gr.refl w7).alloc _)) a7 c7 (L6 ++ M) (L.length + M.length) hXl hXe (hl7.gr ((Gr.refl w7).alloc _)) hXi (by omega) hcp7.1; replace hc8 := Lib.hid hc8; replace hc8b := Lib.hid hc8b; clear hXi hXe hXl; have hQ7 := hQ5.out.gr gq7; have zq7 := hQ7.lt; have ze7 := Nat.ne_of_lt zq7; have zf7 := ze7.symm; have n0 := hQ7.cell (i := 0) (v := .int .i64 1) rfl; have n1 := hQ7.cell (i := 1) (v := .int .i64 q.e.cl) rfl; have n2 := hQ7.cell (i := 2) (v := .int .i64 q.e.nu) rfl; have n3 := hQ7.cell (i := 3) (v := .int .i64 q.e.kd) rfl; have n4 := hQ7.cell (i := 4) (v := .int .i64 q.e.id) rfl; have n5 := hQ7.cell (i := 5) (v := .int .i64 q.e.srv.k) rfl; have n6 := hQ7.cell (i := 6) (v := .int .i64 q.e.srv.q) rfl; have n7 := hQ7.cell (i := 7) (v := .int .i64 q.e.srv.t) rfl; have n8 := hQ7.cell (i := 8) (v := .int .i64 q.e.po) rfl; have n9 := hQ7.cell (i := 9) (v := .slice q.a q.e.tasks.length q.c) rfl; have n10 := hQ7.cell (i := 10) (v := .int .i64 q.e.at_) rfl; (try replace hP := Lib.hid (hP.out.grx gx7 (fun hm => owns_blk (owns_gr ho6b.out ((Gr.refl w6))) hP.out (by decide) (by simpa using hm)))); replace hQ7 := Lib.hid hQ7; replace hl7 := Lib.hid hl7; replace hown7 := Lib.hid hown7; replace gx7 := Lib.hid gx7)
              | (refine step_append_opt (k := 10) (enc := EntM.cells) (by rfl) _ _ 22 (by rfl) w5.heap.size 60 i36 _ 96 Tryz.underlying22 hi6 hz0 hz1 hz2 rfl (by decide) EntM.cells_len EntM.cells_one (.slice a6 L.length c6) L6 (by rfl) (by have h0 := owns_gr ho6b.out (((Gr.refl w6).alloc (.cells #[.int .i64 0, .int .i64 0, .int .i64 0, .int .i64 0, .slice none 0 0] 46))); rw [hll]; exact h0) a1 M.length c1 M rfl (by rfl) (hM.out.gr (gA5.trans (gq6.trans ((Gr.refl w6).alloc (.cells #[.int .i64 0, .int .i64 0, .int .i64 0, .int .i64 0, .slice none 0 0] 46))))).1.1 ha1 (by unfold maxLen; omega) (by omega) (gq6.trans ((Gr.refl w6).alloc (.cells #[.int .i64 0, .int .i64 0, .int .i64 0, .int .i64 0, .slice none 0 0] 46))).size ?_; intro v7 w7 hown7 hgr7; have hP := Lib.hid (Blk.new w6 #[.int .i64 0, .int .i64 0, .int .i64 0, .int .i64 0, .slice none 0 0] 46); have hpb : w5.heap.size ≤ w6.heap.size := gq6.size; obtain ⟨a7, c7, e7, r7, n7, -⟩ := recs_of_owns EntM.cells_len hown7; subst e7; have hcp7 := owns_cap hown7 rfl; have gq7 : Gr w5 w7 := (gq6.trans ((Gr.refl w6).alloc (.cells #[.int .i64 0, .int .i64 0, .int .i64 0, .int .i64 0, .slice none 0 0] 46))).grown hgr7 (fun g hg => (owns_lt ho6b.out g hg).2); have gx7 : GrX (Value.slice a6 L.length c6).ownBlock.toList (w6.alloc (.cells #[.int .i64 0, .int .i64 0, .int .i64 0, .int .i64 0, .slice none 0 0] 46)) w7 := ⟨hgr7.os, hgr7.tape, hgr7.output, hgr7.size, fun k hk hn => hgr7.block k hk (fun e => hn (by simp [← e]))⟩; have hl7 : LedM Any w7 a7 (L6 ++ M) := ⟨⟨r7, fun _ _ _ => trivial⟩, fun y hy => (by rcases List.mem_append.1 hy with hy | hy; exact (((hl6.out.2 y hy).mono (fun _ _ _ => trivial)).gr ((Gr.refl w6).alloc (.cells #[.int .i64 0, .int .i64 0, .int .i64 0, .int .i64 0, .slice none 0 0] 46))).grown hgr7 (fun ad ha ht => hd6.out y hy ad ha ht); exact ((hM.out.2 y hy).gr (gA5.trans (gq6.trans ((Gr.refl w6).alloc (.cells #[.int .i64 0, .int .i64 0, .int .i64 0, .int .i64 0, .slice none 0 0] 46))))).grown hgr7 (fun ad ha ht e => by have h1 := (owns_lt ho6b.out _ e).2; have h2 := (hM.out.2 y hy).1.1.lt ha ht; have h3 := gA5.size; omega))⟩; have hXi : ∀ y ∈ L6 ++ M, EntB y.e := fun y hy => (by rcases List.mem_append.1 hy with hy | hy; exact hib6 L6 hm6.out y hy; exact hMi.out y hy); have hXe : (L6 ++ M).map (·.e) = Le ++ Me := (by rw [List.map_append, hm6.out, ← hLe.out, ← hMe.out]); have hXl : (L6 ++ M).length = L.length + M.length := (by rw [List.length_append, hll]); have hc8 := han2.out w7 (gA5.trans gq7) a7 c7 (L6 ++ M) (L.length + M.length) hXl hXe hl7 hXi (by omega) hcp7.1; have hc8b := han2.out (w7.alloc (.cells #[.int .i64 0, .int .i64 0, .int .i64 0, .int .i64 0, .slice none 0 0] 46)) ((gA5.trans gq7).trans ((Gr.refl w7).alloc _)) a7 c7 (L6 ++ M) (L.length + M.length) hXl hXe (hl7.gr ((Gr.refl w7).alloc _)) hXi (by omega) hcp7.1; replace hc8 := Lib.hid hc8; replace hc8b := Lib.hid hc8b; clear hXi hXe hXl; have hQ7 := hQ5.out.gr gq7; have zq7 := hQ7.lt; have ze7 := Nat.ne_of_lt zq7; have zf7 := ze7.symm; have n0 := hQ7.cell (i := 0) (v := .int .i64 1) rfl; have n1 := hQ7.cell (i := 1) (v := .int .i64 q.e.cl) rfl; have n2 := hQ7.cell (i := 2) (v := .int .i64 q.e.nu) rfl; have n3 := hQ7.cell (i := 3) (v := .int .i64 q.e.kd) rfl; have n4 := hQ7.cell (i := 4) (v := .int .i64 q.e.id) rfl; have n5 := hQ7.cell (i := 5) (v := .int .i64 q.e.srv.k) rfl; have n6 := hQ7.cell (i := 6) (v := .int .i64 q.e.srv.q) rfl; have n7 := hQ7.cell (i := 7) (v := .int .i64 q.e.srv.t) rfl; have n8 := hQ7.cell (i := 8) (v := .int .i64 q.e.po) rfl; have n9 := hQ7.cell (i := 9) (v := .slice q.a q.e.tasks.length q.c) rfl; have n10 := hQ7.cell (i := 10) (v := .int .i64 q.e.at_) rfl; (try replace hP := Lib.hid (hP.out.grx gx7 (fun hm => owns_blk (owns_gr ho6b.out (((Gr.refl w6).alloc (.cells #[.int .i64 0, .int .i64 0, .int .i64 0, .int .i64 0, .slice none 0 0] 46)))) hP.out (by decide) (by simpa using hm)))); replace hQ7 := Lib.hid hQ7; replace hl7 := Lib.hid hl7; replace hown7 := Lib.hid hown7; replace gx7 := Lib.hid gx7)
              | (go_at_call 11; (with_reducible refine (hc8.out).mono ?_); rintro e w8 ⟨rfl, g8⟩; have gq8 : Gr w5 w8 := (gq7).trans g8; (try replace hP := Lib.hid (hP.out.gr g8)); (try (have pf := fun i => hP.out.free i; have p0 := hP.out.cell (i := 0) (v := .int .i64 0) rfl; have p1 := hP.out.cell (i := 1) (v := .int .i64 0) rfl; have p2 := hP.out.cell (i := 2) (v := .int .i64 0) rfl; have p3 := hP.out.cell (i := 3) (v := .int .i64 0) rfl; have p4 := hP.out.cell (i := 4) (v := .slice none 0 0) rfl)); have hQ8 := hQ5.out.gr gq8; have o0 := hQ8.cell (i := 0) (v := .int .i64 1) rfl; have o1 := hQ8.cell (i := 1) (v := .int .i64 q.e.cl) rfl; have o2 := hQ8.cell (i := 2) (v := .int .i64 q.e.nu) rfl; have o3 := hQ8.cell (i := 3) (v := .int .i64 q.e.kd) rfl; have o4 := hQ8.cell (i := 4) (v := .int .i64 q.e.id) rfl; have o5 := hQ8.cell (i := 5) (v := .int .i64 q.e.srv.k) rfl; have o6 := hQ8.cell (i := 6) (v := .int .i64 q.e.srv.q) rfl; have o7 := hQ8.cell (i := 7) (v := .int .i64 q.e.srv.t) rfl; have o8 := hQ8.cell (i := 8) (v := .int .i64 q.e.po) rfl; have o9 := hQ8.cell (i := 9) (v := .slice q.a q.e.tasks.length q.c) rfl; have o10 := hQ8.cell (i := 10) (v := .int .i64 q.e.at_) rfl; have zq8 := hQ8.lt; have ze8 := Nat.ne_of_lt zq8; have zf8 := ze8.symm; replace hQ8 := Lib.hid hQ8)
              | (go_at_call 11; (with_reducible refine (hc8b.out).mono ?_); rintro e w8 ⟨rfl, g8⟩; have hP := Lib.hid ((Blk.new w7 #[.int .i64 0, .int .i64 0, .int .i64 0, .int .i64 0, .slice none 0 0] 46)); have hpb : w5.heap.size ≤ w7.heap.size := gq7.size; have gq8 : Gr w5 w8 := (gq7.trans ((Gr.refl w7).alloc _)).trans g8; (try replace hP := Lib.hid (hP.out.gr g8)); (try (have pf := fun i => hP.out.free i; have p0 := hP.out.cell (i := 0) (v := .int .i64 0) rfl; have p1 := hP.out.cell (i := 1) (v := .int .i64 0) rfl; have p2 := hP.out.cell (i := 2) (v := .int .i64 0) rfl; have p3 := hP.out.cell (i := 3) (v := .int .i64 0) rfl; have p4 := hP.out.cell (i := 4) (v := .slice none 0 0) rfl)); have hQ8 := hQ5.out.gr gq8; have o0 := hQ8.cell (i := 0) (v := .int .i64 1) rfl; have o1 := hQ8.cell (i := 1) (v := .int .i64 q.e.cl) rfl; have o2 := hQ8.cell (i := 2) (v := .int .i64 q.e.nu) rfl; have o3 := hQ8.cell (i := 3) (v := .int .i64 q.e.kd) rfl; have o4 := hQ8.cell (i := 4) (v := .int .i64 q.e.id) rfl; have o5 := hQ8.cell (i := 5) (v := .int .i64 q.e.srv.k) rfl; have o6 := hQ8.cell (i := 6) (v := .int .i64 q.e.srv.q) rfl; have o7 := hQ8.cell (i := 7) (v := .int .i64 q.e.srv.t) rfl; have o8 := hQ8.cell (i := 8) (v := .int .i64 q.e.po) rfl; have o9 := hQ8.cell (i := 9) (v := .slice q.a q.e.tasks.length q.c) rfl; have o10 := hQ8.cell (i := 10) (v := .int .i64 q.e.at_) rfl; have zq8 := hQ8.lt; have ze8 := Nat.ne_of_lt zq8; have zf8 := ze8.symm; replace hQ8 := Lib.hid hQ8)
              | fail)
          all_goals go_wp2_with fail
          all_goals go_meet
          all_goals first
            | exact ⟨_, rfl, rfl, Lib.hid ⟨((((hP.out.set 0 _).set 1 _).set 2 _).set 3 _).set 4 _, ((((gq8.setCell hpb _).setCell hpb _).setCell hpb _).setCell hpb _).setCell hpb _⟩⟩
            | exact ⟨_, rfl, rfl, Lib.hid ⟨Blk.new w8 _ _, gq8.alloc _⟩⟩
            | (trace_state; sorry)
        case rest =>
          obtain ⟨pb, rfl, rfl, hc⟩ := hcut
          obtain ⟨hPx, gc9⟩ := hc.out
          obtain ⟨w9, rfl⟩ : ∃ w9 : World, w9 = wc := ⟨_, rfl⟩
          clear hc k0 k1 k2 k3 k4 k5 k6 k7 k8 k9 k10
          have hQ9 := hQ5.out.gr gc9
          have hR9 := hR5.out.gr gc9
          have gA9 := gA5.trans gc9
          have k0 := hQ9.cell (i := 0) (v := .int .i64 1) rfl
          have k1 := hQ9.cell (i := 1) (v := .int .i64 q.e.cl) rfl
          have k2 := hQ9.cell (i := 2) (v := .int .i64 q.e.nu) rfl
          have k3 := hQ9.cell (i := 3) (v := .int .i64 q.e.kd) rfl
          have k4 := hQ9.cell (i := 4) (v := .int .i64 q.e.id) rfl
          have k5 := hQ9.cell (i := 5) (v := .int .i64 q.e.srv.k) rfl
          have k6 := hQ9.cell (i := 6) (v := .int .i64 q.e.srv.q) rfl
          have k7 := hQ9.cell (i := 7) (v := .int .i64 q.e.srv.t) rfl
          have k8 := hQ9.cell (i := 8) (v := .int .i64 q.e.po) rfl
          have k9 := hQ9.cell (i := 9) (v := .slice q.a q.e.tasks.length q.c) rfl
          have k10 := hQ9.cell (i := 10) (v := .int .i64 q.e.at_) rfl
          replace hQ9 := Lib.hid hQ9
          replace hR9 := Lib.hid hR9
          replace hPx := Lib.hid hPx
          go_wp2_with fail
          refine (han1.out w9 gA9).mono ?_
          rintro e w10 ⟨rfl, g10⟩
          clear k0 k1 k2 k3 k4 k5 k6 k7 k8 k9 k10
          obtain ⟨tb, htb⟩ : ∃ tb, tb = w10.heap.size := ⟨_, rfl⟩
          obtain ⟨w11, hw11⟩ : ∃ w11, w11 = w10.alloc (.cells #[.int .i64 0, .int .i64 0, .int .i64 0, .int .i64 0, .slice none 0 0] 46) := ⟨_, rfl⟩
          have g11 : Gr w10 w11 := by rw [hw11]; exact (Gr.refl _).alloc _
          have hT11 : Blk w11 tb #[.int .i64 0, .int .i64 0, .int .i64 0, .int .i64 0, .slice none 0 0] 46 := by rw [hw11, htb]; exact Blk.new _ _ _
          have gq11 := g10.trans g11
          have hR11 := hR9.out.gr gq11
          have hP11 := hPx.out.gr gq11
          have hQ11 := hQ9.out.gr gq11
          have gA11 := gA9.trans gq11
          have t0 := hT11.cell (i := 0) (v := .int .i64 0) rfl
          have t1 := hT11.cell (i := 1) (v := .int .i64 0) rfl
          have t2 := hT11.cell (i := 2) (v := .int .i64 0) rfl
          have t3 := hT11.cell (i := 3) (v := .int .i64 0) rfl
          have t4 := hT11.cell (i := 4) (v := .slice none 0 0) rfl
          have r0 := hR11.cell (i := 0) (v := .int .i64 0) rfl
          have r1 := hR11.cell (i := 1) (v := .int .i64 0) rfl
          have r2 := hR11.cell (i := 2) (v := .int .i64 0) rfl
          have r3 := hR11.cell (i := 3) (v := .int .i64 0) rfl
          have r4 := hR11.cell (i := 4) (v := .slice none 0 0) rfl
          have p0 := hP11.cell (i := 0) (v := .int .i64 q.e.cl) rfl
          have p1 := hP11.cell (i := 1) (v := .int .i64 q.e.nu) rfl
          have p2 := hP11.cell (i := 2) (v := .int .i64 (s2.1)) rfl
          have p3 := hP11.cell (i := 3) (v := .int .i64 (s2.2)) rfl
          have p4 := hP11.cell (i := 4) (v := .slice none 0 0) rfl
          have k0 := hQ11.cell (i := 0) (v := .int .i64 1) rfl
          have k1 := hQ11.cell (i := 1) (v := .int .i64 q.e.cl) rfl
          have k2 := hQ11.cell (i := 2) (v := .int .i64 q.e.nu) rfl
          have k3 := hQ11.cell (i := 3) (v := .int .i64 q.e.kd) rfl
          have k4 := hQ11.cell (i := 4) (v := .int .i64 q.e.id) rfl
          have k5 := hQ11.cell (i := 5) (v := .int .i64 q.e.srv.k) rfl
          have k6 := hQ11.cell (i := 6) (v := .int .i64 q.e.srv.q) rfl
          have k7 := hQ11.cell (i := 7) (v := .int .i64 q.e.srv.t) rfl
          have k8 := hQ11.cell (i := 8) (v := .int .i64 q.e.po) rfl
          have k9 := hQ11.cell (i := 9) (v := .slice q.a q.e.tasks.length q.c) rfl
          have k10 := hQ11.cell (i := 10) (v := .int .i64 q.e.at_) rfl
          replace htb := Lib.hid htb
          replace hw11 := Lib.hid hw11
          replace hT11 := Lib.hid hT11
          replace hR11 := Lib.hid hR11
          replace hP11 := Lib.hid hP11
          replace hQ11 := Lib.hid hQ11
          go_upto_region 9 with fail
          rw [← htb.out, ← hw11.out]
          go_wp2_with fail
          refine (same1_yes w11 (0) (0) (0) (0)).mono ?_
          rintro e w12 ⟨rfl, g12⟩
          clear t0 t1 t2 t3 t4 r0 r1 r2 r3 r4 p0 p1 p2 p3 p4 k0 k1 k2 k3 k4 k5 k6 k7 k8 k9 k10
          go_wp2_with fail
          go_ret
          exact ⟨rfl, gA11.trans g12⟩
    | some s1 =>
      have hst := ans_stays Le Me q.e.cl q.e.nu (r := s1) (by first | exact hV1.out.symm | rw [← hV1.out, hv1])
      rw [← hV2.out] at hst
      have han1 : ∀ w', Gr W w' → Calls Tryz.prog 11 #[.slice a L.length c, .agg #[.int .i64 1, .int .i64 q.e.cl, .int .i64 q.e.nu, .int .i64 q.e.kd, .int .i64 q.e.id, .int .i64 q.e.srv.k, .int .i64 q.e.srv.q, .int .i64 q.e.srv.t, .int .i64 q.e.po, .slice q.a q.e.tasks.length q.c, .int .i64 q.e.at_]] w' fun e w4 => e = .returned (.tuple #[.agg #[.int .i64 q.e.cl, .int .i64 q.e.nu, .int .i64 (s1.1), .int .i64 (s1.2), .slice none 0 0], .bool true]) ∧ Gr w' w4 := fun w' g => (hans.out w' g).mono (fun e w4 hh => by rw [hv1] at hh; exact ⟨hh.2, hh.1⟩)
      replace han1 := Lib.hid han1
      clear hans
      go_wp2_with fail
      refine (han1.out w3 gA3).mono ?_
      rintro e w4 ⟨rfl, g4⟩
      clear k0 k1 k2 k3 k4 k5 k6 k7 k8 k9 k10
      obtain ⟨rb, hrb⟩ : ∃ rb, rb = w4.heap.size := ⟨_, rfl⟩
      obtain ⟨w5, hw5⟩ : ∃ w5, w5 = w4.alloc (.cells #[.int .i64 q.e.cl, .int .i64 q.e.nu, .int .i64 (s1.1), .int .i64 (s1.2), .slice none 0 0] 46) := ⟨_, rfl⟩
      have g5 : Gr w4 w5 := by rw [hw5]; exact (Gr.refl _).alloc _
      have hR5 : Blk w5 rb #[.int .i64 q.e.cl, .int .i64 q.e.nu, .int .i64 (s1.1), .int .i64 (s1.2), .slice none 0 0] 46 := by rw [hw5, hrb]; exact Blk.new _ _ _
      have g45 := g4.trans g5
      have hQ5 := hQ3.out.gr g45
      have gA5 := gA3.trans g45
      have gd5 : Gr w5 w5.drew := (Gr.refl w5).drew
      have zq5 := hQ5.lt
      have ze5 := Nat.ne_of_lt zq5
      have zf5 := ze5.symm
      have k0 := hQ5.cell (i := 0) (v := .int .i64 1) rfl
      have k1 := hQ5.cell (i := 1) (v := .int .i64 q.e.cl) rfl
      have k2 := hQ5.cell (i := 2) (v := .int .i64 q.e.nu) rfl
      have k3 := hQ5.cell (i := 3) (v := .int .i64 q.e.kd) rfl
      have k4 := hQ5.cell (i := 4) (v := .int .i64 q.e.id) rfl
      have k5 := hQ5.cell (i := 5) (v := .int .i64 q.e.srv.k) rfl
      have k6 := hQ5.cell (i := 6) (v := .int .i64 q.e.srv.q) rfl
      have k7 := hQ5.cell (i := 7) (v := .int .i64 q.e.srv.t) rfl
      have k8 := hQ5.cell (i := 8) (v := .int .i64 q.e.po) rfl
      have k9 := hQ5.cell (i := 9) (v := .slice q.a q.e.tasks.length q.c) rfl
      have k10 := hQ5.cell (i := 10) (v := .int .i64 q.e.at_) rfl
      replace hrb := Lib.hid hrb
      replace hw5 := Lib.hid hw5
      replace hR5 := Lib.hid hR5
      replace hQ5 := Lib.hid hQ5
      go_upto_region 7 with fail
      rw [← hrb.out, ← hw5.out]
      rcases hst with hv2 | ⟨hs1, hp0, s2, hv2, hne⟩
      · have han2 : Hid (∀ (w' : World), Gr W w' → ∀ (a' : Option Addr) (c' : Nat) (X : List EntM) (nn : Nat), X.length = nn → X.map (·.e) = Le ++ Me → LedM Any w' a' X → (∀ x ∈ X, EntB x.e) → X.length ≤ 100000 → X.length ≤ c' → Calls Tryz.prog 11 #[.slice a' nn c', .agg #[.int .i64 1, .int .i64 q.e.cl, .int .i64 q.e.nu, .int .i64 q.e.kd, .int .i64 q.e.id, .int .i64 q.e.srv.k, .int .i64 q.e.srv.q, .int .i64 q.e.srv.t, .int .i64 q.e.po, .slice q.a q.e.tasks.length q.c, .int .i64 q.e.at_]] w' fun e w4 => e = .returned (.tuple #[.agg #[.int .i64 q.e.cl, .int .i64 q.e.nu, .int .i64 (s1.1), .int .i64 (s1.2), .slice none 0 0], .bool true]) ∧ Gr w' w4) := Lib.hid (fun w' g a' c' X nn hnn hx hX hXi hXm hXc => by subst hnn; exact (answer_any a' c' X q w' (hE.gr g) i0 i1 i3 i4 i6 hX hXi hXm hXc hq).mono (fun e w4 hh => by rw [hx, ← hV2.out] at hh; first | exact ⟨hh.2, hh.1⟩ | (rw [hv2] at hh; exact ⟨hh.2, hh.1⟩)))
        have hib6 : ∀ X : List EntM, X.map (·.e) = L.map (·.e) → ∀ y ∈ X, EntB y.e := fun X hX y hy => by
          have h1 : y.e ∈ X.map (·.e) := List.mem_map.2 ⟨y, hy, rfl⟩
          rw [hX] at h1
          obtain ⟨z, hz, e⟩ := List.mem_map.1 h1
          rw [← e]
          exact hLi.out z hz
        go_cut [9, 10] (fun s9 s10 wx => ∃ pb : Nat, s9 = .pointer (some ⟨pb, 0, none⟩) ∧ s10 = .bool true ∧ Hid (Blk wx pb #[.int .i64 q.e.cl, .int .i64 q.e.nu, .int .i64 (s1.1), .int .i64 (s1.2), .slice none 0 0] 46 ∧ Gr w5 wx))
        case first =>
          go_region_held3 (fun w' => w'.cell? ⟨W.heap.size, 0, none⟩ = some (.int .i64 1) ∧ w'.cell? ⟨W.heap.size, 1, none⟩ = some (.int .i64 q.e.cl) ∧ w'.cell? ⟨W.heap.size, 2, none⟩ = some (.int .i64 q.e.nu) ∧ w'.cell? ⟨W.heap.size, 3, none⟩ = some (.int .i64 q.e.kd) ∧ w'.cell? ⟨W.heap.size, 4, none⟩ = some (.int .i64 q.e.id) ∧ w'.cell? ⟨W.heap.size, 5, none⟩ = some (.int .i64 q.e.srv.k) ∧ w'.cell? ⟨W.heap.size, 6, none⟩ = some (.int .i64 q.e.srv.q) ∧ w'.cell? ⟨W.heap.size, 7, none⟩ = some (.int .i64 q.e.srv.t) ∧ w'.cell? ⟨W.heap.size, 8, none⟩ = some (.int .i64 q.e.po) ∧ w'.cell? ⟨W.heap.size, 9, none⟩ = some (.slice q.a q.e.tasks.length q.c) ∧ w'.cell? ⟨W.heap.size, 10, none⟩ = some (.int .i64 q.e.at_)) (simp (maxDischargeDepth := 8) [go_sem, *])
            (first
              | (go_at_call 6; (with_reducible refine (rcopy_any a c L w5.drew (hL.out.gr (gA5.trans gd5)) hLm).mono ?_); rintro e w6 ⟨a6, c6, L6, rfl, hm6, hl6, hn6, hc6, hx6, g6, ho6, hd6⟩; have gq6 : Gr w5 w6 := gd5.trans g6; have hll : L6.length = L.length := (by have := congrArg List.length hm6; simpa using this); have ho6b := owns_base (B' := w5.heap.size) ho6 (by simp); rw [hll] at hd6 ho6b; have hQ6 := hQ5.out.gr gq6; have m0 := hQ6.cell (i := 0) (v := .int .i64 1) rfl; have m1 := hQ6.cell (i := 1) (v := .int .i64 q.e.cl) rfl; have m2 := hQ6.cell (i := 2) (v := .int .i64 q.e.nu) rfl; have m3 := hQ6.cell (i := 3) (v := .int .i64 q.e.kd) rfl; have m4 := hQ6.cell (i := 4) (v := .int .i64 q.e.id) rfl; have m5 := hQ6.cell (i := 5) (v := .int .i64 q.e.srv.k) rfl; have m6 := hQ6.cell (i := 6) (v := .int .i64 q.e.srv.q) rfl; have m7 := hQ6.cell (i := 7) (v := .int .i64 q.e.srv.t) rfl; have m8 := hQ6.cell (i := 8) (v := .int .i64 q.e.po) rfl; have m9 := hQ6.cell (i := 9) (v := .slice q.a q.e.tasks.length q.c) rfl; have m10 := hQ6.cell (i := 10) (v := .int .i64 q.e.at_) rfl; have zq6 := hQ6.lt; have ze6 := Nat.ne_of_lt zq6; have zf6 := ze6.symm; replace hQ6 := Lib.hid hQ6; replace hm6 := Lib.hid hm6; replace hl6 := Lib.hid hl6; replace ho6b := Lib.hid ho6b; replace hd6 := Lib.hid hd6; clear ho6)
              | (go_at_call 6; (with_reducible refine (rcopy_any a c L (w5.alloc (.cells #[.int .i64 0, .int .i64 0, .int .i64 0, .int .i64 0, .slice none 0 0] 46)).drew (hL.out.gr (gA5.trans (((Gr.refl w5).alloc _).drew))) hLm).mono ?_); rintro e w6 ⟨a6, c6, L6, rfl, hm6, hl6, hn6, hc6, hx6, g6, ho6, hd6⟩; have hP := (Blk.new w5 #[.int .i64 0, .int .i64 0, .int .i64 0, .int .i64 0, .slice none 0 0] 46).drew.gr g6; have hpb : w5.heap.size ≤ w5.heap.size := Nat.le_refl _; replace hP := Lib.hid hP; have gq6 : Gr w5 w6 := (((Gr.refl w5).alloc _).drew).trans g6; have hll : L6.length = L.length := (by have := congrArg List.length hm6; simpa using this); have ho6b := owns_base (B' := w5.heap.size) ho6 (by simp); rw [hll] at hd6 ho6b; have hQ6 := hQ5.out.gr gq6; have m0 := hQ6.cell (i := 0) (v := .int .i64 1) rfl; have m1 := hQ6.cell (i := 1) (v := .int .i64 q.e.cl) rfl; have m2 := hQ6.cell (i := 2) (v := .int .i64 q.e.nu) rfl; have m3 := hQ6.cell (i := 3) (v := .int .i64 q.e.kd) rfl; have m4 := hQ6.cell (i := 4) (v := .int .i64 q.e.id) rfl; have m5 := hQ6.cell (i := 5) (v := .int .i64 q.e.srv.k) rfl; have m6 := hQ6.cell (i := 6) (v := .int .i64 q.e.srv.q) rfl; have m7 := hQ6.cell (i := 7) (v := .int .i64 q.e.srv.t) rfl; have m8 := hQ6.cell (i := 8) (v := .int .i64 q.e.po) rfl; have m9 := hQ6.cell (i := 9) (v := .slice q.a q.e.tasks.length q.c) rfl; have m10 := hQ6.cell (i := 10) (v := .int .i64 q.e.at_) rfl; have zq6 := hQ6.lt; have ze6 := Nat.ne_of_lt zq6; have zf6 := ze6.symm; replace hQ6 := Lib.hid hQ6; replace hm6 := Lib.hid hm6; replace hl6 := Lib.hid hl6; replace ho6b := Lib.hid ho6b; replace hd6 := Lib.hid hd6; clear ho6)
              | (refine step_append_opt (k := 10) (enc := EntM.cells) (by rfl) _ _ 22 (by rfl) w5.heap.size 60 i36 _ 96 Tryz.underlying22 hi6 hz0 hz1 hz2 rfl (by decide) EntM.cells_len EntM.cells_one (.slice a6 L.length c6) L6 (by rfl) (by have h0 := owns_gr ho6b.out ((Gr.refl w6)); rw [hll]; exact h0) a1 M.length c1 M rfl (by rfl) (hM.out.gr (gA5.trans (gq6))).1.1 ha1 (by unfold maxLen; omega) (by omega) (gq6).size ?_; intro v7 w7 hown7 hgr7; obtain ⟨a7, c7, e7, r7, n7, -⟩ := recs_of_owns EntM.cells_len hown7; subst e7; have hcp7 := owns_cap hown7 rfl; have gq7 : Gr w5 w7 := (gq6).grown hgr7 (fun g hg => (owns_lt ho6b.out g hg).2); have gx7 : GrX (Value.slice a6 L.length c6).ownBlock.toList w6 w7 := ⟨hgr7.os, hgr7.tape, hgr7.output, hgr7.size, fun k hk hn => hgr7.block k hk (fun e => hn (by simp [← e]))⟩; have hl7 : LedM Any w7 a7 (L6 ++ M) := ⟨⟨r7, fun _ _ _ => trivial⟩, fun y hy => (by rcases List.mem_append.1 hy with hy | hy; exact (((hl6.out.2 y hy).mono (fun _ _ _ => trivial)).gr (Gr.refl w6)).grown hgr7 (fun ad ha ht => hd6.out y hy ad ha ht); exact ((hM.out.2 y hy).gr (gA5.trans (gq6))).grown hgr7 (fun ad ha ht e => by have h1 := (owns_lt ho6b.out _ e).2; have h2 := (hM.out.2 y hy).1.1.lt ha ht; have h3 := gA5.size; omega))⟩; have hXi : ∀ y ∈ L6 ++ M, EntB y.e := fun y hy => (by rcases List.mem_append.1 hy with hy | hy; exact hib6 L6 hm6.out y hy; exact hMi.out y hy); have hXe : (L6 ++ M).map (·.e) = Le ++ Me := (by rw [List.map_append, hm6.out, ← hLe.out, ← hMe.out]); have hXl : (L6 ++ M).length = L.length + M.length := (by rw [List.length_append, hll]); have hc8 := han2.out w7 (gA5.trans gq7) a7 c7 (L6 ++ M) (L.length + M.length) hXl hXe hl7 hXi (by omega) hcp7.1; have hc8b := han2.out (w7.alloc (.cells #[.int .i64 0, .int .i64 0, .int .i64 0, .int .i64 0, .slice none 0 0] 46)) ((gA5.trans gq7).trans ((Gr.refl w7).alloc _)) a7 c7 (L6 ++ M) (L.length + M.length) hXl hXe (hl7.gr ((Gr.refl w7).alloc _)) hXi (by omega) hcp7.1; replace hc8 := Lib.hid hc8; replace hc8b := Lib.hid hc8b; clear hXi hXe hXl; have hQ7 := hQ5.out.gr gq7; have zq7 := hQ7.lt; have ze7 := Nat.ne_of_lt zq7; have zf7 := ze7.symm; have n0 := hQ7.cell (i := 0) (v := .int .i64 1) rfl; have n1 := hQ7.cell (i := 1) (v := .int .i64 q.e.cl) rfl; have n2 := hQ7.cell (i := 2) (v := .int .i64 q.e.nu) rfl; have n3 := hQ7.cell (i := 3) (v := .int .i64 q.e.kd) rfl; have n4 := hQ7.cell (i := 4) (v := .int .i64 q.e.id) rfl; have n5 := hQ7.cell (i := 5) (v := .int .i64 q.e.srv.k) rfl; have n6 := hQ7.cell (i := 6) (v := .int .i64 q.e.srv.q) rfl; have n7 := hQ7.cell (i := 7) (v := .int .i64 q.e.srv.t) rfl; have n8 := hQ7.cell (i := 8) (v := .int .i64 q.e.po) rfl; have n9 := hQ7.cell (i := 9) (v := .slice q.a q.e.tasks.length q.c) rfl; have n10 := hQ7.cell (i := 10) (v := .int .i64 q.e.at_) rfl; (try replace hP := Lib.hid (hP.out.grx gx7 (fun hm => owns_blk (owns_gr ho6b.out ((Gr.refl w6))) hP.out (by decide) (by simpa using hm)))); replace hQ7 := Lib.hid hQ7; replace hl7 := Lib.hid hl7; replace hown7 := Lib.hid hown7; replace gx7 := Lib.hid gx7)
              | (refine step_append_opt (k := 10) (enc := EntM.cells) (by rfl) _ _ 22 (by rfl) w5.heap.size 60 i36 _ 96 Tryz.underlying22 hi6 hz0 hz1 hz2 rfl (by decide) EntM.cells_len EntM.cells_one (.slice a6 L.length c6) L6 (by rfl) (by have h0 := owns_gr ho6b.out (((Gr.refl w6).alloc (.cells #[.int .i64 0, .int .i64 0, .int .i64 0, .int .i64 0, .slice none 0 0] 46))); rw [hll]; exact h0) a1 M.length c1 M rfl (by rfl) (hM.out.gr (gA5.trans (gq6.trans ((Gr.refl w6).alloc (.cells #[.int .i64 0, .int .i64 0, .int .i64 0, .int .i64 0, .slice none 0 0] 46))))).1.1 ha1 (by unfold maxLen; omega) (by omega) (gq6.trans ((Gr.refl w6).alloc (.cells #[.int .i64 0, .int .i64 0, .int .i64 0, .int .i64 0, .slice none 0 0] 46))).size ?_; intro v7 w7 hown7 hgr7; have hP := Lib.hid (Blk.new w6 #[.int .i64 0, .int .i64 0, .int .i64 0, .int .i64 0, .slice none 0 0] 46); have hpb : w5.heap.size ≤ w6.heap.size := gq6.size; obtain ⟨a7, c7, e7, r7, n7, -⟩ := recs_of_owns EntM.cells_len hown7; subst e7; have hcp7 := owns_cap hown7 rfl; have gq7 : Gr w5 w7 := (gq6.trans ((Gr.refl w6).alloc (.cells #[.int .i64 0, .int .i64 0, .int .i64 0, .int .i64 0, .slice none 0 0] 46))).grown hgr7 (fun g hg => (owns_lt ho6b.out g hg).2); have gx7 : GrX (Value.slice a6 L.length c6).ownBlock.toList (w6.alloc (.cells #[.int .i64 0, .int .i64 0, .int .i64 0, .int .i64 0, .slice none 0 0] 46)) w7 := ⟨hgr7.os, hgr7.tape, hgr7.output, hgr7.size, fun k hk hn => hgr7.block k hk (fun e => hn (by simp [← e]))⟩; have hl7 : LedM Any w7 a7 (L6 ++ M) := ⟨⟨r7, fun _ _ _ => trivial⟩, fun y hy => (by rcases List.mem_append.1 hy with hy | hy; exact (((hl6.out.2 y hy).mono (fun _ _ _ => trivial)).gr ((Gr.refl w6).alloc (.cells #[.int .i64 0, .int .i64 0, .int .i64 0, .int .i64 0, .slice none 0 0] 46))).grown hgr7 (fun ad ha ht => hd6.out y hy ad ha ht); exact ((hM.out.2 y hy).gr (gA5.trans (gq6.trans ((Gr.refl w6).alloc (.cells #[.int .i64 0, .int .i64 0, .int .i64 0, .int .i64 0, .slice none 0 0] 46))))).grown hgr7 (fun ad ha ht e => by have h1 := (owns_lt ho6b.out _ e).2; have h2 := (hM.out.2 y hy).1.1.lt ha ht; have h3 := gA5.size; omega))⟩; have hXi : ∀ y ∈ L6 ++ M, EntB y.e := fun y hy => (by rcases List.mem_append.1 hy with hy | hy; exact hib6 L6 hm6.out y hy; exact hMi.out y hy); have hXe : (L6 ++ M).map (·.e) = Le ++ Me := (by rw [List.map_append, hm6.out, ← hLe.out, ← hMe.out]); have hXl : (L6 ++ M).length = L.length + M.length := (by rw [List.length_append, hll]); have hc8 := han2.out w7 (gA5.trans gq7) a7 c7 (L6 ++ M) (L.length + M.length) hXl hXe hl7 hXi (by omega) hcp7.1; have hc8b := han2.out (w7.alloc (.cells #[.int .i64 0, .int .i64 0, .int .i64 0, .int .i64 0, .slice none 0 0] 46)) ((gA5.trans gq7).trans ((Gr.refl w7).alloc _)) a7 c7 (L6 ++ M) (L.length + M.length) hXl hXe (hl7.gr ((Gr.refl w7).alloc _)) hXi (by omega) hcp7.1; replace hc8 := Lib.hid hc8; replace hc8b := Lib.hid hc8b; clear hXi hXe hXl; have hQ7 := hQ5.out.gr gq7; have zq7 := hQ7.lt; have ze7 := Nat.ne_of_lt zq7; have zf7 := ze7.symm; have n0 := hQ7.cell (i := 0) (v := .int .i64 1) rfl; have n1 := hQ7.cell (i := 1) (v := .int .i64 q.e.cl) rfl; have n2 := hQ7.cell (i := 2) (v := .int .i64 q.e.nu) rfl; have n3 := hQ7.cell (i := 3) (v := .int .i64 q.e.kd) rfl; have n4 := hQ7.cell (i := 4) (v := .int .i64 q.e.id) rfl; have n5 := hQ7.cell (i := 5) (v := .int .i64 q.e.srv.k) rfl; have n6 := hQ7.cell (i := 6) (v := .int .i64 q.e.srv.q) rfl; have n7 := hQ7.cell (i := 7) (v := .int .i64 q.e.srv.t) rfl; have n8 := hQ7.cell (i := 8) (v := .int .i64 q.e.po) rfl; have n9 := hQ7.cell (i := 9) (v := .slice q.a q.e.tasks.length q.c) rfl; have n10 := hQ7.cell (i := 10) (v := .int .i64 q.e.at_) rfl; (try replace hP := Lib.hid (hP.out.grx gx7 (fun hm => owns_blk (owns_gr ho6b.out (((Gr.refl w6).alloc (.cells #[.int .i64 0, .int .i64 0, .int .i64 0, .int .i64 0, .slice none 0 0] 46)))) hP.out (by decide) (by simpa using hm)))); replace hQ7 := Lib.hid hQ7; replace hl7 := Lib.hid hl7; replace hown7 := Lib.hid hown7; replace gx7 := Lib.hid gx7)
              | (go_at_call 11; (with_reducible refine (hc8.out).mono ?_); rintro e w8 ⟨rfl, g8⟩; have gq8 : Gr w5 w8 := (gq7).trans g8; (try replace hP := Lib.hid (hP.out.gr g8)); (try (have pf := fun i => hP.out.free i; have p0 := hP.out.cell (i := 0) (v := .int .i64 0) rfl; have p1 := hP.out.cell (i := 1) (v := .int .i64 0) rfl; have p2 := hP.out.cell (i := 2) (v := .int .i64 0) rfl; have p3 := hP.out.cell (i := 3) (v := .int .i64 0) rfl; have p4 := hP.out.cell (i := 4) (v := .slice none 0 0) rfl)); have hQ8 := hQ5.out.gr gq8; have o0 := hQ8.cell (i := 0) (v := .int .i64 1) rfl; have o1 := hQ8.cell (i := 1) (v := .int .i64 q.e.cl) rfl; have o2 := hQ8.cell (i := 2) (v := .int .i64 q.e.nu) rfl; have o3 := hQ8.cell (i := 3) (v := .int .i64 q.e.kd) rfl; have o4 := hQ8.cell (i := 4) (v := .int .i64 q.e.id) rfl; have o5 := hQ8.cell (i := 5) (v := .int .i64 q.e.srv.k) rfl; have o6 := hQ8.cell (i := 6) (v := .int .i64 q.e.srv.q) rfl; have o7 := hQ8.cell (i := 7) (v := .int .i64 q.e.srv.t) rfl; have o8 := hQ8.cell (i := 8) (v := .int .i64 q.e.po) rfl; have o9 := hQ8.cell (i := 9) (v := .slice q.a q.e.tasks.length q.c) rfl; have o10 := hQ8.cell (i := 10) (v := .int .i64 q.e.at_) rfl; have zq8 := hQ8.lt; have ze8 := Nat.ne_of_lt zq8; have zf8 := ze8.symm; replace hQ8 := Lib.hid hQ8)
              | (go_at_call 11; (with_reducible refine (hc8b.out).mono ?_); rintro e w8 ⟨rfl, g8⟩; have hP := Lib.hid ((Blk.new w7 #[.int .i64 0, .int .i64 0, .int .i64 0, .int .i64 0, .slice none 0 0] 46)); have hpb : w5.heap.size ≤ w7.heap.size := gq7.size; have gq8 : Gr w5 w8 := (gq7.trans ((Gr.refl w7).alloc _)).trans g8; (try replace hP := Lib.hid (hP.out.gr g8)); (try (have pf := fun i => hP.out.free i; have p0 := hP.out.cell (i := 0) (v := .int .i64 0) rfl; have p1 := hP.out.cell (i := 1) (v := .int .i64 0) rfl; have p2 := hP.out.cell (i := 2) (v := .int .i64 0) rfl; have p3 := hP.out.cell (i := 3) (v := .int .i64 0) rfl; have p4 := hP.out.cell (i := 4) (v := .slice none 0 0) rfl)); have hQ8 := hQ5.out.gr gq8; have o0 := hQ8.cell (i := 0) (v := .int .i64 1) rfl; have o1 := hQ8.cell (i := 1) (v := .int .i64 q.e.cl) rfl; have o2 := hQ8.cell (i := 2) (v := .int .i64 q.e.nu) rfl; have o3 := hQ8.cell (i := 3) (v := .int .i64 q.e.kd) rfl; have o4 := hQ8.cell (i := 4) (v := .int .i64 q.e.id) rfl; have o5 := hQ8.cell (i := 5) (v := .int .i64 q.e.srv.k) rfl; have o6 := hQ8.cell (i := 6) (v := .int .i64 q.e.srv.q) rfl; have o7 := hQ8.cell (i := 7) (v := .int .i64 q.e.srv.t) rfl; have o8 := hQ8.cell (i := 8) (v := .int .i64 q.e.po) rfl; have o9 := hQ8.cell (i := 9) (v := .slice q.a q.e.tasks.length q.c) rfl; have o10 := hQ8.cell (i := 10) (v := .int .i64 q.e.at_) rfl; have zq8 := hQ8.lt; have ze8 := Nat.ne_of_lt zq8; have zf8 := ze8.symm; replace hQ8 := Lib.hid hQ8)
              | fail)
          all_goals go_wp2_with fail
          all_goals go_meet
          all_goals first
            | exact ⟨_, rfl, rfl, Lib.hid ⟨((((hP.out.set 0 _).set 1 _).set 2 _).set 3 _).set 4 _, ((((gq8.setCell hpb _).setCell hpb _).setCell hpb _).setCell hpb _).setCell hpb _⟩⟩
            | exact ⟨_, rfl, rfl, Lib.hid ⟨Blk.new w8 _ _, gq8.alloc _⟩⟩
            | (trace_state; sorry)
        case rest =>
          obtain ⟨pb, rfl, rfl, hc⟩ := hcut
          obtain ⟨hPx, gc9⟩ := hc.out
          obtain ⟨w9, rfl⟩ : ∃ w9 : World, w9 = wc := ⟨_, rfl⟩
          clear hc k0 k1 k2 k3 k4 k5 k6 k7 k8 k9 k10
          have hQ9 := hQ5.out.gr gc9
          have hR9 := hR5.out.gr gc9
          have gA9 := gA5.trans gc9
          have k0 := hQ9.cell (i := 0) (v := .int .i64 1) rfl
          have k1 := hQ9.cell (i := 1) (v := .int .i64 q.e.cl) rfl
          have k2 := hQ9.cell (i := 2) (v := .int .i64 q.e.nu) rfl
          have k3 := hQ9.cell (i := 3) (v := .int .i64 q.e.kd) rfl
          have k4 := hQ9.cell (i := 4) (v := .int .i64 q.e.id) rfl
          have k5 := hQ9.cell (i := 5) (v := .int .i64 q.e.srv.k) rfl
          have k6 := hQ9.cell (i := 6) (v := .int .i64 q.e.srv.q) rfl
          have k7 := hQ9.cell (i := 7) (v := .int .i64 q.e.srv.t) rfl
          have k8 := hQ9.cell (i := 8) (v := .int .i64 q.e.po) rfl
          have k9 := hQ9.cell (i := 9) (v := .slice q.a q.e.tasks.length q.c) rfl
          have k10 := hQ9.cell (i := 10) (v := .int .i64 q.e.at_) rfl
          replace hQ9 := Lib.hid hQ9
          replace hR9 := Lib.hid hR9
          replace hPx := Lib.hid hPx
          go_wp2_with fail
          refine (han1.out w9 gA9).mono ?_
          rintro e w10 ⟨rfl, g10⟩
          clear k0 k1 k2 k3 k4 k5 k6 k7 k8 k9 k10
          obtain ⟨tb, htb⟩ : ∃ tb, tb = w10.heap.size := ⟨_, rfl⟩
          obtain ⟨w11, hw11⟩ : ∃ w11, w11 = w10.alloc (.cells #[.int .i64 q.e.cl, .int .i64 q.e.nu, .int .i64 (s1.1), .int .i64 (s1.2), .slice none 0 0] 46) := ⟨_, rfl⟩
          have g11 : Gr w10 w11 := by rw [hw11]; exact (Gr.refl _).alloc _
          have hT11 : Blk w11 tb #[.int .i64 q.e.cl, .int .i64 q.e.nu, .int .i64 (s1.1), .int .i64 (s1.2), .slice none 0 0] 46 := by rw [hw11, htb]; exact Blk.new _ _ _
          have gq11 := g10.trans g11
          have hR11 := hR9.out.gr gq11
          have hP11 := hPx.out.gr gq11
          have hQ11 := hQ9.out.gr gq11
          have gA11 := gA9.trans gq11
          have t0 := hT11.cell (i := 0) (v := .int .i64 q.e.cl) rfl
          have t1 := hT11.cell (i := 1) (v := .int .i64 q.e.nu) rfl
          have t2 := hT11.cell (i := 2) (v := .int .i64 (s1.1)) rfl
          have t3 := hT11.cell (i := 3) (v := .int .i64 (s1.2)) rfl
          have t4 := hT11.cell (i := 4) (v := .slice none 0 0) rfl
          have r0 := hR11.cell (i := 0) (v := .int .i64 q.e.cl) rfl
          have r1 := hR11.cell (i := 1) (v := .int .i64 q.e.nu) rfl
          have r2 := hR11.cell (i := 2) (v := .int .i64 (s1.1)) rfl
          have r3 := hR11.cell (i := 3) (v := .int .i64 (s1.2)) rfl
          have r4 := hR11.cell (i := 4) (v := .slice none 0 0) rfl
          have p0 := hP11.cell (i := 0) (v := .int .i64 q.e.cl) rfl
          have p1 := hP11.cell (i := 1) (v := .int .i64 q.e.nu) rfl
          have p2 := hP11.cell (i := 2) (v := .int .i64 (s1.1)) rfl
          have p3 := hP11.cell (i := 3) (v := .int .i64 (s1.2)) rfl
          have p4 := hP11.cell (i := 4) (v := .slice none 0 0) rfl
          have k0 := hQ11.cell (i := 0) (v := .int .i64 1) rfl
          have k1 := hQ11.cell (i := 1) (v := .int .i64 q.e.cl) rfl
          have k2 := hQ11.cell (i := 2) (v := .int .i64 q.e.nu) rfl
          have k3 := hQ11.cell (i := 3) (v := .int .i64 q.e.kd) rfl
          have k4 := hQ11.cell (i := 4) (v := .int .i64 q.e.id) rfl
          have k5 := hQ11.cell (i := 5) (v := .int .i64 q.e.srv.k) rfl
          have k6 := hQ11.cell (i := 6) (v := .int .i64 q.e.srv.q) rfl
          have k7 := hQ11.cell (i := 7) (v := .int .i64 q.e.srv.t) rfl
          have k8 := hQ11.cell (i := 8) (v := .int .i64 q.e.po) rfl
          have k9 := hQ11.cell (i := 9) (v := .slice q.a q.e.tasks.length q.c) rfl
          have k10 := hQ11.cell (i := 10) (v := .int .i64 q.e.at_) rfl
          replace htb := Lib.hid htb
          replace hw11 := Lib.hid hw11
          replace hT11 := Lib.hid hT11
          replace hR11 := Lib.hid hR11
          replace hP11 := Lib.hid hP11
          replace hQ11 := Lib.hid hQ11
          go_upto_region 9 with fail
          rw [← htb.out, ← hw11.out]
          go_wp2_with fail
          refine (same1_yes w11 (q.e.cl) (q.e.nu) ((s1.1)) ((s1.2))).mono ?_
          rintro e w12 ⟨rfl, g12⟩
          clear t0 t1 t2 t3 t4 r0 r1 r2 r3 r4 p0 p1 p2 p3 p4 k0 k1 k2 k3 k4 k5 k6 k7 k8 k9 k10
          have hR12 := hR11.out.gr g12
          have hP12 := hP11.out.gr g12
          have hQ12 := hQ11.out.gr g12
          have gA12 := gA11.trans g12
          have r0 := hR12.cell (i := 0) (v := .int .i64 q.e.cl) rfl
          have r1 := hR12.cell (i := 1) (v := .int .i64 q.e.nu) rfl
          have r2 := hR12.cell (i := 2) (v := .int .i64 (s1.1)) rfl
          have r3 := hR12.cell (i := 3) (v := .int .i64 (s1.2)) rfl
          have r4 := hR12.cell (i := 4) (v := .slice none 0 0) rfl
          have p0 := hP12.cell (i := 0) (v := .int .i64 q.e.cl) rfl
          have p1 := hP12.cell (i := 1) (v := .int .i64 q.e.nu) rfl
          have p2 := hP12.cell (i := 2) (v := .int .i64 (s1.1)) rfl
          have p3 := hP12.cell (i := 3) (v := .int .i64 (s1.2)) rfl
          have p4 := hP12.cell (i := 4) (v := .slice none 0 0) rfl
          have k0 := hQ12.cell (i := 0) (v := .int .i64 1) rfl
          have k1 := hQ12.cell (i := 1) (v := .int .i64 q.e.cl) rfl
          have k2 := hQ12.cell (i := 2) (v := .int .i64 q.e.nu) rfl
          have k3 := hQ12.cell (i := 3) (v := .int .i64 q.e.kd) rfl
          have k4 := hQ12.cell (i := 4) (v := .int .i64 q.e.id) rfl
          have k5 := hQ12.cell (i := 5) (v := .int .i64 q.e.srv.k) rfl
          have k6 := hQ12.cell (i := 6) (v := .int .i64 q.e.srv.q) rfl
          have k7 := hQ12.cell (i := 7) (v := .int .i64 q.e.srv.t) rfl
          have k8 := hQ12.cell (i := 8) (v := .int .i64 q.e.po) rfl
          have k9 := hQ12.cell (i := 9) (v := .slice q.a q.e.tasks.length q.c) rfl
          have k10 := hQ12.cell (i := 10) (v := .int .i64 q.e.at_) rfl
          replace hR12 := Lib.hid hR12
          replace hP12 := Lib.hid hP12
          replace hQ12 := Lib.hid hQ12
          go_wp2_with fail
          refine (same1_yes w12 (q.e.cl) (q.e.nu) ((s1.1)) ((s1.2))).mono ?_
          rintro e w13 ⟨rfl, g13⟩
          clear r0 r1 r2 r3 r4 p0 p1 p2 p3 p4 k0 k1 k2 k3 k4 k5 k6 k7 k8 k9 k10
          go_wp2_with fail
          go_ret
          exact ⟨rfl, gA12.trans g13⟩
      · subst hs1
        replace hne := Lib.hid hne
        replace hp0 := Lib.hid hp0
        have han2 : Hid (∀ (w' : World), Gr W w' → ∀ (a' : Option Addr) (c' : Nat) (X : List EntM) (nn : Nat), X.length = nn → X.map (·.e) = Le ++ Me → LedM Any w' a' X → (∀ x ∈ X, EntB x.e) → X.length ≤ 100000 → X.length ≤ c' → Calls Tryz.prog 11 #[.slice a' nn c', .agg #[.int .i64 1, .int .i64 q.e.cl, .int .i64 q.e.nu, .int .i64 q.e.kd, .int .i64 q.e.id, .int .i64 q.e.srv.k, .int .i64 q.e.srv.q, .int .i64 q.e.srv.t, .int .i64 q.e.po, .slice q.a q.e.tasks.length q.c, .int .i64 q.e.at_]] w' fun e w4 => e = .returned (.tuple #[.agg #[.int .i64 q.e.cl, .int .i64 q.e.nu, .int .i64 (s2.1), .int .i64 (s2.2), .slice none 0 0], .bool true]) ∧ Gr w' w4) := Lib.hid (fun w' g a' c' X nn hnn hx hX hXi hXm hXc => by subst hnn; exact (answer_any a' c' X q w' (hE.gr g) i0 i1 i3 i4 i6 hX hXi hXm hXc hq).mono (fun e w4 hh => by rw [hx, ← hV2.out] at hh; first | exact ⟨hh.2, hh.1⟩ | (rw [hv2] at hh; exact ⟨hh.2, hh.1⟩)))
        have hib6 : ∀ X : List EntM, X.map (·.e) = L.map (·.e) → ∀ y ∈ X, EntB y.e := fun X hX y hy => by
          have h1 : y.e ∈ X.map (·.e) := List.mem_map.2 ⟨y, hy, rfl⟩
          rw [hX] at h1
          obtain ⟨z, hz, e⟩ := List.mem_map.1 h1
          rw [← e]
          exact hLi.out z hz
        go_cut [9, 10] (fun s9 s10 wx => ∃ pb : Nat, s9 = .pointer (some ⟨pb, 0, none⟩) ∧ s10 = .bool true ∧ Hid (Blk wx pb #[.int .i64 q.e.cl, .int .i64 q.e.nu, .int .i64 (s2.1), .int .i64 (s2.2), .slice none 0 0] 46 ∧ Gr w5 wx))
        case first =>
          go_region_held3 (fun w' => w'.cell? ⟨W.heap.size, 0, none⟩ = some (.int .i64 1) ∧ w'.cell? ⟨W.heap.size, 1, none⟩ = some (.int .i64 q.e.cl) ∧ w'.cell? ⟨W.heap.size, 2, none⟩ = some (.int .i64 q.e.nu) ∧ w'.cell? ⟨W.heap.size, 3, none⟩ = some (.int .i64 q.e.kd) ∧ w'.cell? ⟨W.heap.size, 4, none⟩ = some (.int .i64 q.e.id) ∧ w'.cell? ⟨W.heap.size, 5, none⟩ = some (.int .i64 q.e.srv.k) ∧ w'.cell? ⟨W.heap.size, 6, none⟩ = some (.int .i64 q.e.srv.q) ∧ w'.cell? ⟨W.heap.size, 7, none⟩ = some (.int .i64 q.e.srv.t) ∧ w'.cell? ⟨W.heap.size, 8, none⟩ = some (.int .i64 q.e.po) ∧ w'.cell? ⟨W.heap.size, 9, none⟩ = some (.slice q.a q.e.tasks.length q.c) ∧ w'.cell? ⟨W.heap.size, 10, none⟩ = some (.int .i64 q.e.at_)) (simp (maxDischargeDepth := 8) [go_sem, *])
            (first
              | (go_at_call 6; (with_reducible refine (rcopy_any a c L w5.drew (hL.out.gr (gA5.trans gd5)) hLm).mono ?_); rintro e w6 ⟨a6, c6, L6, rfl, hm6, hl6, hn6, hc6, hx6, g6, ho6, hd6⟩; have gq6 : Gr w5 w6 := gd5.trans g6; have hll : L6.length = L.length := (by have := congrArg List.length hm6; simpa using this); have ho6b := owns_base (B' := w5.heap.size) ho6 (by simp); rw [hll] at hd6 ho6b; have hQ6 := hQ5.out.gr gq6; have m0 := hQ6.cell (i := 0) (v := .int .i64 1) rfl; have m1 := hQ6.cell (i := 1) (v := .int .i64 q.e.cl) rfl; have m2 := hQ6.cell (i := 2) (v := .int .i64 q.e.nu) rfl; have m3 := hQ6.cell (i := 3) (v := .int .i64 q.e.kd) rfl; have m4 := hQ6.cell (i := 4) (v := .int .i64 q.e.id) rfl; have m5 := hQ6.cell (i := 5) (v := .int .i64 q.e.srv.k) rfl; have m6 := hQ6.cell (i := 6) (v := .int .i64 q.e.srv.q) rfl; have m7 := hQ6.cell (i := 7) (v := .int .i64 q.e.srv.t) rfl; have m8 := hQ6.cell (i := 8) (v := .int .i64 q.e.po) rfl; have m9 := hQ6.cell (i := 9) (v := .slice q.a q.e.tasks.length q.c) rfl; have m10 := hQ6.cell (i := 10) (v := .int .i64 q.e.at_) rfl; have zq6 := hQ6.lt; have ze6 := Nat.ne_of_lt zq6; have zf6 := ze6.symm; replace hQ6 := Lib.hid hQ6; replace hm6 := Lib.hid hm6; replace hl6 := Lib.hid hl6; replace ho6b := Lib.hid ho6b; replace hd6 := Lib.hid hd6; clear ho6)
              | (go_at_call 6; (with_reducible refine (rcopy_any a c L (w5.alloc (.cells #[.int .i64 0, .int .i64 0, .int .i64 0, .int .i64 0, .slice none 0 0] 46)).drew (hL.out.gr (gA5.trans (((Gr.refl w5).alloc _).drew))) hLm).mono ?_); rintro e w6 ⟨a6, c6, L6, rfl, hm6, hl6, hn6, hc6, hx6, g6, ho6, hd6⟩; have hP := (Blk.new w5 #[.int .i64 0, .int .i64 0, .int .i64 0, .int .i64 0, .slice none 0 0] 46).drew.gr g6; have hpb : w5.heap.size ≤ w5.heap.size := Nat.le_refl _; replace hP := Lib.hid hP; have gq6 : Gr w5 w6 := (((Gr.refl w5).alloc _).drew).trans g6; have hll : L6.length = L.length := (by have := congrArg List.length hm6; simpa using this); have ho6b := owns_base (B' := w5.heap.size) ho6 (by simp); rw [hll] at hd6 ho6b; have hQ6 := hQ5.out.gr gq6; have m0 := hQ6.cell (i := 0) (v := .int .i64 1) rfl; have m1 := hQ6.cell (i := 1) (v := .int .i64 q.e.cl) rfl; have m2 := hQ6.cell (i := 2) (v := .int .i64 q.e.nu) rfl; have m3 := hQ6.cell (i := 3) (v := .int .i64 q.e.kd) rfl; have m4 := hQ6.cell (i := 4) (v := .int .i64 q.e.id) rfl; have m5 := hQ6.cell (i := 5) (v := .int .i64 q.e.srv.k) rfl; have m6 := hQ6.cell (i := 6) (v := .int .i64 q.e.srv.q) rfl; have m7 := hQ6.cell (i := 7) (v := .int .i64 q.e.srv.t) rfl; have m8 := hQ6.cell (i := 8) (v := .int .i64 q.e.po) rfl; have m9 := hQ6.cell (i := 9) (v := .slice q.a q.e.tasks.length q.c) rfl; have m10 := hQ6.cell (i := 10) (v := .int .i64 q.e.at_) rfl; have zq6 := hQ6.lt; have ze6 := Nat.ne_of_lt zq6; have zf6 := ze6.symm; replace hQ6 := Lib.hid hQ6; replace hm6 := Lib.hid hm6; replace hl6 := Lib.hid hl6; replace ho6b := Lib.hid ho6b; replace hd6 := Lib.hid hd6; clear ho6)
              | (refine step_append_opt (k := 10) (enc := EntM.cells) (by rfl) _ _ 22 (by rfl) w5.heap.size 60 i36 _ 96 Tryz.underlying22 hi6 hz0 hz1 hz2 rfl (by decide) EntM.cells_len EntM.cells_one (.slice a6 L.length c6) L6 (by rfl) (by have h0 := owns_gr ho6b.out ((Gr.refl w6)); rw [hll]; exact h0) a1 M.length c1 M rfl (by rfl) (hM.out.gr (gA5.trans (gq6))).1.1 ha1 (by unfold maxLen; omega) (by omega) (gq6).size ?_; intro v7 w7 hown7 hgr7; obtain ⟨a7, c7, e7, r7, n7, -⟩ := recs_of_owns EntM.cells_len hown7; subst e7; have hcp7 := owns_cap hown7 rfl; have gq7 : Gr w5 w7 := (gq6).grown hgr7 (fun g hg => (owns_lt ho6b.out g hg).2); have gx7 : GrX (Value.slice a6 L.length c6).ownBlock.toList w6 w7 := ⟨hgr7.os, hgr7.tape, hgr7.output, hgr7.size, fun k hk hn => hgr7.block k hk (fun e => hn (by simp [← e]))⟩; have hl7 : LedM Any w7 a7 (L6 ++ M) := ⟨⟨r7, fun _ _ _ => trivial⟩, fun y hy => (by rcases List.mem_append.1 hy with hy | hy; exact (((hl6.out.2 y hy).mono (fun _ _ _ => trivial)).gr (Gr.refl w6)).grown hgr7 (fun ad ha ht => hd6.out y hy ad ha ht); exact ((hM.out.2 y hy).gr (gA5.trans (gq6))).grown hgr7 (fun ad ha ht e => by have h1 := (owns_lt ho6b.out _ e).2; have h2 := (hM.out.2 y hy).1.1.lt ha ht; have h3 := gA5.size; omega))⟩; have hXi : ∀ y ∈ L6 ++ M, EntB y.e := fun y hy => (by rcases List.mem_append.1 hy with hy | hy; exact hib6 L6 hm6.out y hy; exact hMi.out y hy); have hXe : (L6 ++ M).map (·.e) = Le ++ Me := (by rw [List.map_append, hm6.out, ← hLe.out, ← hMe.out]); have hXl : (L6 ++ M).length = L.length + M.length := (by rw [List.length_append, hll]); have hc8 := han2.out w7 (gA5.trans gq7) a7 c7 (L6 ++ M) (L.length + M.length) hXl hXe hl7 hXi (by omega) hcp7.1; have hc8b := han2.out (w7.alloc (.cells #[.int .i64 0, .int .i64 0, .int .i64 0, .int .i64 0, .slice none 0 0] 46)) ((gA5.trans gq7).trans ((Gr.refl w7).alloc _)) a7 c7 (L6 ++ M) (L.length + M.length) hXl hXe (hl7.gr ((Gr.refl w7).alloc _)) hXi (by omega) hcp7.1; replace hc8 := Lib.hid hc8; replace hc8b := Lib.hid hc8b; clear hXi hXe hXl; have hQ7 := hQ5.out.gr gq7; have zq7 := hQ7.lt; have ze7 := Nat.ne_of_lt zq7; have zf7 := ze7.symm; have n0 := hQ7.cell (i := 0) (v := .int .i64 1) rfl; have n1 := hQ7.cell (i := 1) (v := .int .i64 q.e.cl) rfl; have n2 := hQ7.cell (i := 2) (v := .int .i64 q.e.nu) rfl; have n3 := hQ7.cell (i := 3) (v := .int .i64 q.e.kd) rfl; have n4 := hQ7.cell (i := 4) (v := .int .i64 q.e.id) rfl; have n5 := hQ7.cell (i := 5) (v := .int .i64 q.e.srv.k) rfl; have n6 := hQ7.cell (i := 6) (v := .int .i64 q.e.srv.q) rfl; have n7 := hQ7.cell (i := 7) (v := .int .i64 q.e.srv.t) rfl; have n8 := hQ7.cell (i := 8) (v := .int .i64 q.e.po) rfl; have n9 := hQ7.cell (i := 9) (v := .slice q.a q.e.tasks.length q.c) rfl; have n10 := hQ7.cell (i := 10) (v := .int .i64 q.e.at_) rfl; (try replace hP := Lib.hid (hP.out.grx gx7 (fun hm => owns_blk (owns_gr ho6b.out ((Gr.refl w6))) hP.out (by decide) (by simpa using hm)))); replace hQ7 := Lib.hid hQ7; replace hl7 := Lib.hid hl7; replace hown7 := Lib.hid hown7; replace gx7 := Lib.hid gx7)
              | (refine step_append_opt (k := 10) (enc := EntM.cells) (by rfl) _ _ 22 (by rfl) w5.heap.size 60 i36 _ 96 Tryz.underlying22 hi6 hz0 hz1 hz2 rfl (by decide) EntM.cells_len EntM.cells_one (.slice a6 L.length c6) L6 (by rfl) (by have h0 := owns_gr ho6b.out (((Gr.refl w6).alloc (.cells #[.int .i64 0, .int .i64 0, .int .i64 0, .int .i64 0, .slice none 0 0] 46))); rw [hll]; exact h0) a1 M.length c1 M rfl (by rfl) (hM.out.gr (gA5.trans (gq6.trans ((Gr.refl w6).alloc (.cells #[.int .i64 0, .int .i64 0, .int .i64 0, .int .i64 0, .slice none 0 0] 46))))).1.1 ha1 (by unfold maxLen; omega) (by omega) (gq6.trans ((Gr.refl w6).alloc (.cells #[.int .i64 0, .int .i64 0, .int .i64 0, .int .i64 0, .slice none 0 0] 46))).size ?_; intro v7 w7 hown7 hgr7; have hP := Lib.hid (Blk.new w6 #[.int .i64 0, .int .i64 0, .int .i64 0, .int .i64 0, .slice none 0 0] 46); have hpb : w5.heap.size ≤ w6.heap.size := gq6.size; obtain ⟨a7, c7, e7, r7, n7, -⟩ := recs_of_owns EntM.cells_len hown7; subst e7; have hcp7 := owns_cap hown7 rfl; have gq7 : Gr w5 w7 := (gq6.trans ((Gr.refl w6).alloc (.cells #[.int .i64 0, .int .i64 0, .int .i64 0, .int .i64 0, .slice none 0 0] 46))).grown hgr7 (fun g hg => (owns_lt ho6b.out g hg).2); have gx7 : GrX (Value.slice a6 L.length c6).ownBlock.toList (w6.alloc (.cells #[.int .i64 0, .int .i64 0, .int .i64 0, .int .i64 0, .slice none 0 0] 46)) w7 := ⟨hgr7.os, hgr7.tape, hgr7.output, hgr7.size, fun k hk hn => hgr7.block k hk (fun e => hn (by simp [← e]))⟩; have hl7 : LedM Any w7 a7 (L6 ++ M) := ⟨⟨r7, fun _ _ _ => trivial⟩, fun y hy => (by rcases List.mem_append.1 hy with hy | hy; exact (((hl6.out.2 y hy).mono (fun _ _ _ => trivial)).gr ((Gr.refl w6).alloc (.cells #[.int .i64 0, .int .i64 0, .int .i64 0, .int .i64 0, .slice none 0 0] 46))).grown hgr7 (fun ad ha ht => hd6.out y hy ad ha ht); exact ((hM.out.2 y hy).gr (gA5.trans (gq6.trans ((Gr.refl w6).alloc (.cells #[.int .i64 0, .int .i64 0, .int .i64 0, .int .i64 0, .slice none 0 0] 46))))).grown hgr7 (fun ad ha ht e => by have h1 := (owns_lt ho6b.out _ e).2; have h2 := (hM.out.2 y hy).1.1.lt ha ht; have h3 := gA5.size; omega))⟩; have hXi : ∀ y ∈ L6 ++ M, EntB y.e := fun y hy => (by rcases List.mem_append.1 hy with hy | hy; exact hib6 L6 hm6.out y hy; exact hMi.out y hy); have hXe : (L6 ++ M).map (·.e) = Le ++ Me := (by rw [List.map_append, hm6.out, ← hLe.out, ← hMe.out]); have hXl : (L6 ++ M).length = L.length + M.length := (by rw [List.length_append, hll]); have hc8 := han2.out w7 (gA5.trans gq7) a7 c7 (L6 ++ M) (L.length + M.length) hXl hXe hl7 hXi (by omega) hcp7.1; have hc8b := han2.out (w7.alloc (.cells #[.int .i64 0, .int .i64 0, .int .i64 0, .int .i64 0, .slice none 0 0] 46)) ((gA5.trans gq7).trans ((Gr.refl w7).alloc _)) a7 c7 (L6 ++ M) (L.length + M.length) hXl hXe (hl7.gr ((Gr.refl w7).alloc _)) hXi (by omega) hcp7.1; replace hc8 := Lib.hid hc8; replace hc8b := Lib.hid hc8b; clear hXi hXe hXl; have hQ7 := hQ5.out.gr gq7; have zq7 := hQ7.lt; have ze7 := Nat.ne_of_lt zq7; have zf7 := ze7.symm; have n0 := hQ7.cell (i := 0) (v := .int .i64 1) rfl; have n1 := hQ7.cell (i := 1) (v := .int .i64 q.e.cl) rfl; have n2 := hQ7.cell (i := 2) (v := .int .i64 q.e.nu) rfl; have n3 := hQ7.cell (i := 3) (v := .int .i64 q.e.kd) rfl; have n4 := hQ7.cell (i := 4) (v := .int .i64 q.e.id) rfl; have n5 := hQ7.cell (i := 5) (v := .int .i64 q.e.srv.k) rfl; have n6 := hQ7.cell (i := 6) (v := .int .i64 q.e.srv.q) rfl; have n7 := hQ7.cell (i := 7) (v := .int .i64 q.e.srv.t) rfl; have n8 := hQ7.cell (i := 8) (v := .int .i64 q.e.po) rfl; have n9 := hQ7.cell (i := 9) (v := .slice q.a q.e.tasks.length q.c) rfl; have n10 := hQ7.cell (i := 10) (v := .int .i64 q.e.at_) rfl; (try replace hP := Lib.hid (hP.out.grx gx7 (fun hm => owns_blk (owns_gr ho6b.out (((Gr.refl w6).alloc (.cells #[.int .i64 0, .int .i64 0, .int .i64 0, .int .i64 0, .slice none 0 0] 46)))) hP.out (by decide) (by simpa using hm)))); replace hQ7 := Lib.hid hQ7; replace hl7 := Lib.hid hl7; replace hown7 := Lib.hid hown7; replace gx7 := Lib.hid gx7)
              | (go_at_call 11; (with_reducible refine (hc8.out).mono ?_); rintro e w8 ⟨rfl, g8⟩; have gq8 : Gr w5 w8 := (gq7).trans g8; (try replace hP := Lib.hid (hP.out.gr g8)); (try (have pf := fun i => hP.out.free i; have p0 := hP.out.cell (i := 0) (v := .int .i64 0) rfl; have p1 := hP.out.cell (i := 1) (v := .int .i64 0) rfl; have p2 := hP.out.cell (i := 2) (v := .int .i64 0) rfl; have p3 := hP.out.cell (i := 3) (v := .int .i64 0) rfl; have p4 := hP.out.cell (i := 4) (v := .slice none 0 0) rfl)); have hQ8 := hQ5.out.gr gq8; have o0 := hQ8.cell (i := 0) (v := .int .i64 1) rfl; have o1 := hQ8.cell (i := 1) (v := .int .i64 q.e.cl) rfl; have o2 := hQ8.cell (i := 2) (v := .int .i64 q.e.nu) rfl; have o3 := hQ8.cell (i := 3) (v := .int .i64 q.e.kd) rfl; have o4 := hQ8.cell (i := 4) (v := .int .i64 q.e.id) rfl; have o5 := hQ8.cell (i := 5) (v := .int .i64 q.e.srv.k) rfl; have o6 := hQ8.cell (i := 6) (v := .int .i64 q.e.srv.q) rfl; have o7 := hQ8.cell (i := 7) (v := .int .i64 q.e.srv.t) rfl; have o8 := hQ8.cell (i := 8) (v := .int .i64 q.e.po) rfl; have o9 := hQ8.cell (i := 9) (v := .slice q.a q.e.tasks.length q.c) rfl; have o10 := hQ8.cell (i := 10) (v := .int .i64 q.e.at_) rfl; have zq8 := hQ8.lt; have ze8 := Nat.ne_of_lt zq8; have zf8 := ze8.symm; replace hQ8 := Lib.hid hQ8)
              | (go_at_call 11; (with_reducible refine (hc8b.out).mono ?_); rintro e w8 ⟨rfl, g8⟩; have hP := Lib.hid ((Blk.new w7 #[.int .i64 0, .int .i64 0, .int .i64 0, .int .i64 0, .slice none 0 0] 46)); have hpb : w5.heap.size ≤ w7.heap.size := gq7.size; have gq8 : Gr w5 w8 := (gq7.trans ((Gr.refl w7).alloc _)).trans g8; (try replace hP := Lib.hid (hP.out.gr g8)); (try (have pf := fun i => hP.out.free i; have p0 := hP.out.cell (i := 0) (v := .int .i64 0) rfl; have p1 := hP.out.cell (i := 1) (v := .int .i64 0) rfl; have p2 := hP.out.cell (i := 2) (v := .int .i64 0) rfl; have p3 := hP.out.cell (i := 3) (v := .int .i64 0) rfl; have p4 := hP.out.cell (i := 4) (v := .slice none 0 0) rfl)); have hQ8 := hQ5.out.gr gq8; have o0 := hQ8.cell (i := 0) (v := .int .i64 1) rfl; have o1 := hQ8.cell (i := 1) (v := .int .i64 q.e.cl) rfl; have o2 := hQ8.cell (i := 2) (v := .int .i64 q.e.nu) rfl; have o3 := hQ8.cell (i := 3) (v := .int .i64 q.e.kd) rfl; have o4 := hQ8.cell (i := 4) (v := .int .i64 q.e.id) rfl; have o5 := hQ8.cell (i := 5) (v := .int .i64 q.e.srv.k) rfl; have o6 := hQ8.cell (i := 6) (v := .int .i64 q.e.srv.q) rfl; have o7 := hQ8.cell (i := 7) (v := .int .i64 q.e.srv.t) rfl; have o8 := hQ8.cell (i := 8) (v := .int .i64 q.e.po) rfl; have o9 := hQ8.cell (i := 9) (v := .slice q.a q.e.tasks.length q.c) rfl; have o10 := hQ8.cell (i := 10) (v := .int .i64 q.e.at_) rfl; have zq8 := hQ8.lt; have ze8 := Nat.ne_of_lt zq8; have zf8 := ze8.symm; replace hQ8 := Lib.hid hQ8)
              | fail)
          all_goals go_wp2_with fail
          all_goals go_meet
          all_goals first
            | exact ⟨_, rfl, rfl, Lib.hid ⟨((((hP.out.set 0 _).set 1 _).set 2 _).set 3 _).set 4 _, ((((gq8.setCell hpb _).setCell hpb _).setCell hpb _).setCell hpb _).setCell hpb _⟩⟩
            | exact ⟨_, rfl, rfl, Lib.hid ⟨Blk.new w8 _ _, gq8.alloc _⟩⟩
            | (trace_state; sorry)
        case rest =>
          obtain ⟨pb, rfl, rfl, hc⟩ := hcut
          obtain ⟨hPx, gc9⟩ := hc.out
          obtain ⟨w9, rfl⟩ : ∃ w9 : World, w9 = wc := ⟨_, rfl⟩
          clear hc k0 k1 k2 k3 k4 k5 k6 k7 k8 k9 k10
          have hQ9 := hQ5.out.gr gc9
          have hR9 := hR5.out.gr gc9
          have gA9 := gA5.trans gc9
          have k0 := hQ9.cell (i := 0) (v := .int .i64 1) rfl
          have k1 := hQ9.cell (i := 1) (v := .int .i64 q.e.cl) rfl
          have k2 := hQ9.cell (i := 2) (v := .int .i64 q.e.nu) rfl
          have k3 := hQ9.cell (i := 3) (v := .int .i64 q.e.kd) rfl
          have k4 := hQ9.cell (i := 4) (v := .int .i64 q.e.id) rfl
          have k5 := hQ9.cell (i := 5) (v := .int .i64 q.e.srv.k) rfl
          have k6 := hQ9.cell (i := 6) (v := .int .i64 q.e.srv.q) rfl
          have k7 := hQ9.cell (i := 7) (v := .int .i64 q.e.srv.t) rfl
          have k8 := hQ9.cell (i := 8) (v := .int .i64 q.e.po) rfl
          have k9 := hQ9.cell (i := 9) (v := .slice q.a q.e.tasks.length q.c) rfl
          have k10 := hQ9.cell (i := 10) (v := .int .i64 q.e.at_) rfl
          replace hQ9 := Lib.hid hQ9
          replace hR9 := Lib.hid hR9
          replace hPx := Lib.hid hPx
          go_wp2_with fail
          refine (han1.out w9 gA9).mono ?_
          rintro e w10 ⟨rfl, g10⟩
          clear k0 k1 k2 k3 k4 k5 k6 k7 k8 k9 k10
          obtain ⟨tb, htb⟩ : ∃ tb, tb = w10.heap.size := ⟨_, rfl⟩
          obtain ⟨w11, hw11⟩ : ∃ w11, w11 = w10.alloc (.cells #[.int .i64 q.e.cl, .int .i64 q.e.nu, .int .i64 ((102, 0).1), .int .i64 ((102, 0).2), .slice none 0 0] 46) := ⟨_, rfl⟩
          have g11 : Gr w10 w11 := by rw [hw11]; exact (Gr.refl _).alloc _
          have hT11 : Blk w11 tb #[.int .i64 q.e.cl, .int .i64 q.e.nu, .int .i64 ((102, 0).1), .int .i64 ((102, 0).2), .slice none 0 0] 46 := by rw [hw11, htb]; exact Blk.new _ _ _
          have gq11 := g10.trans g11
          have hR11 := hR9.out.gr gq11
          have hP11 := hPx.out.gr gq11
          have hQ11 := hQ9.out.gr gq11
          have gA11 := gA9.trans gq11
          have t0 := hT11.cell (i := 0) (v := .int .i64 q.e.cl) rfl
          have t1 := hT11.cell (i := 1) (v := .int .i64 q.e.nu) rfl
          have t2 := hT11.cell (i := 2) (v := .int .i64 ((102, 0).1)) rfl
          have t3 := hT11.cell (i := 3) (v := .int .i64 ((102, 0).2)) rfl
          have t4 := hT11.cell (i := 4) (v := .slice none 0 0) rfl
          have r0 := hR11.cell (i := 0) (v := .int .i64 q.e.cl) rfl
          have r1 := hR11.cell (i := 1) (v := .int .i64 q.e.nu) rfl
          have r2 := hR11.cell (i := 2) (v := .int .i64 ((102, 0).1)) rfl
          have r3 := hR11.cell (i := 3) (v := .int .i64 ((102, 0).2)) rfl
          have r4 := hR11.cell (i := 4) (v := .slice none 0 0) rfl
          have p0 := hP11.cell (i := 0) (v := .int .i64 q.e.cl) rfl
          have p1 := hP11.cell (i := 1) (v := .int .i64 q.e.nu) rfl
          have p2 := hP11.cell (i := 2) (v := .int .i64 (s2.1)) rfl
          have p3 := hP11.cell (i := 3) (v := .int .i64 (s2.2)) rfl
          have p4 := hP11.cell (i := 4) (v := .slice none 0 0) rfl
          have k0 := hQ11.cell (i := 0) (v := .int .i64 1) rfl
          have k1 := hQ11.cell (i := 1) (v := .int .i64 q.e.cl) rfl
          have k2 := hQ11.cell (i := 2) (v := .int .i64 q.e.nu) rfl
          have k3 := hQ11.cell (i := 3) (v := .int .i64 q.e.kd) rfl
          have k4 := hQ11.cell (i := 4) (v := .int .i64 q.e.id) rfl
          have k5 := hQ11.cell (i := 5) (v := .int .i64 q.e.srv.k) rfl
          have k6 := hQ11.cell (i := 6) (v := .int .i64 q.e.srv.q) rfl
          have k7 := hQ11.cell (i := 7) (v := .int .i64 q.e.srv.t) rfl
          have k8 := hQ11.cell (i := 8) (v := .int .i64 q.e.po) rfl
          have k9 := hQ11.cell (i := 9) (v := .slice q.a q.e.tasks.length q.c) rfl
          have k10 := hQ11.cell (i := 10) (v := .int .i64 q.e.at_) rfl
          replace htb := Lib.hid htb
          replace hw11 := Lib.hid hw11
          replace hT11 := Lib.hid hT11
          replace hR11 := Lib.hid hR11
          replace hP11 := Lib.hid hP11
          replace hQ11 := Lib.hid hQ11
          go_upto_region 9 with fail
          rw [← htb.out, ← hw11.out]
          go_wp2_with fail
          refine (same1_yes w11 (q.e.cl) (q.e.nu) (((102, 0).1)) (((102, 0).2))).mono ?_
          rintro e w12 ⟨rfl, g12⟩
          clear t0 t1 t2 t3 t4 r0 r1 r2 r3 r4 p0 p1 p2 p3 p4 k0 k1 k2 k3 k4 k5 k6 k7 k8 k9 k10
          have hR12 := hR11.out.gr g12
          have hP12 := hP11.out.gr g12
          have hQ12 := hQ11.out.gr g12
          have gA12 := gA11.trans g12
          have r0 := hR12.cell (i := 0) (v := .int .i64 q.e.cl) rfl
          have r1 := hR12.cell (i := 1) (v := .int .i64 q.e.nu) rfl
          have r2 := hR12.cell (i := 2) (v := .int .i64 ((102, 0).1)) rfl
          have r3 := hR12.cell (i := 3) (v := .int .i64 ((102, 0).2)) rfl
          have r4 := hR12.cell (i := 4) (v := .slice none 0 0) rfl
          have p0 := hP12.cell (i := 0) (v := .int .i64 q.e.cl) rfl
          have p1 := hP12.cell (i := 1) (v := .int .i64 q.e.nu) rfl
          have p2 := hP12.cell (i := 2) (v := .int .i64 (s2.1)) rfl
          have p3 := hP12.cell (i := 3) (v := .int .i64 (s2.2)) rfl
          have p4 := hP12.cell (i := 4) (v := .slice none 0 0) rfl
          have k0 := hQ12.cell (i := 0) (v := .int .i64 1) rfl
          have k1 := hQ12.cell (i := 1) (v := .int .i64 q.e.cl) rfl
          have k2 := hQ12.cell (i := 2) (v := .int .i64 q.e.nu) rfl
          have k3 := hQ12.cell (i := 3) (v := .int .i64 q.e.kd) rfl
          have k4 := hQ12.cell (i := 4) (v := .int .i64 q.e.id) rfl
          have k5 := hQ12.cell (i := 5) (v := .int .i64 q.e.srv.k) rfl
          have k6 := hQ12.cell (i := 6) (v := .int .i64 q.e.srv.q) rfl
          have k7 := hQ12.cell (i := 7) (v := .int .i64 q.e.srv.t) rfl
          have k8 := hQ12.cell (i := 8) (v := .int .i64 q.e.po) rfl
          have k9 := hQ12.cell (i := 9) (v := .slice q.a q.e.tasks.length q.c) rfl
          have k10 := hQ12.cell (i := 10) (v := .int .i64 q.e.at_) rfl
          replace hR12 := Lib.hid hR12
          replace hP12 := Lib.hid hP12
          replace hQ12 := Lib.hid hQ12
          have hpp := fun (w' : World) (g : Gr W w') => rplace_any a c L q.e.cl q.e.nu w' (hL.out.gr g) (by unfold maxLen; omega)
          have hpi : plIx L q.e.cl q.e.nu + 1 = 0 := by have h1 := plix_plc L q.e.cl q.e.nu; rw [← hLe.out, hp0.out] at h1; rw [h1]; rfl
          rw [hpi] at hpp
          have tn : (s2.1 != 102) = true := by simpa using hne.out
          replace hpp := Lib.hid hpp
          replace hpi := Lib.hid hpi
          go_wp2_with fail
          refine (same1_no w12 (q.e.cl) (q.e.nu) (((102, 0).1)) (((102, 0).2)) ((s2.1)) ((s2.2)) (fun h => hne.out h.symm)).mono ?_
          rintro e w13 ⟨rfl, g13⟩
          clear r0 r1 r2 r3 r4 p0 p1 p2 p3 p4 k0 k1 k2 k3 k4 k5 k6 k7 k8 k9 k10
          have hR13 := hR12.out.gr g13
          have hP13 := hP12.out.gr g13
          have hQ13 := hQ12.out.gr g13
          have gA13 := gA12.trans g13
          have r0 := hR13.cell (i := 0) (v := .int .i64 q.e.cl) rfl
          have r1 := hR13.cell (i := 1) (v := .int .i64 q.e.nu) rfl
          have r2 := hR13.cell (i := 2) (v := .int .i64 ((102, 0).1)) rfl
          have r3 := hR13.cell (i := 3) (v := .int .i64 ((102, 0).2)) rfl
          have r4 := hR13.cell (i := 4) (v := .slice none 0 0) rfl
          have p0 := hP13.cell (i := 0) (v := .int .i64 q.e.cl) rfl
          have p1 := hP13.cell (i := 1) (v := .int .i64 q.e.nu) rfl
          have p2 := hP13.cell (i := 2) (v := .int .i64 (s2.1)) rfl
          have p3 := hP13.cell (i := 3) (v := .int .i64 (s2.2)) rfl
          have p4 := hP13.cell (i := 4) (v := .slice none 0 0) rfl
          have k0 := hQ13.cell (i := 0) (v := .int .i64 1) rfl
          have k1 := hQ13.cell (i := 1) (v := .int .i64 q.e.cl) rfl
          have k2 := hQ13.cell (i := 2) (v := .int .i64 q.e.nu) rfl
          have k3 := hQ13.cell (i := 3) (v := .int .i64 q.e.kd) rfl
          have k4 := hQ13.cell (i := 4) (v := .int .i64 q.e.id) rfl
          have k5 := hQ13.cell (i := 5) (v := .int .i64 q.e.srv.k) rfl
          have k6 := hQ13.cell (i := 6) (v := .int .i64 q.e.srv.q) rfl
          have k7 := hQ13.cell (i := 7) (v := .int .i64 q.e.srv.t) rfl
          have k8 := hQ13.cell (i := 8) (v := .int .i64 q.e.po) rfl
          have k9 := hQ13.cell (i := 9) (v := .slice q.a q.e.tasks.length q.c) rfl
          have k10 := hQ13.cell (i := 10) (v := .int .i64 q.e.at_) rfl
          replace hR13 := Lib.hid hR13
          replace hP13 := Lib.hid hP13
          replace hQ13 := Lib.hid hQ13
          go_wp2_with fail
          refine (hpp.out w13 gA13).mono ?_
          rintro e w14 ⟨rfl, g14⟩
          go_wp2_with fail
          go_ret
          exact ⟨rfl, gA13.trans g14⟩
end Go.Proofs.YtglfdnfojpdkjaaGreatDoor
