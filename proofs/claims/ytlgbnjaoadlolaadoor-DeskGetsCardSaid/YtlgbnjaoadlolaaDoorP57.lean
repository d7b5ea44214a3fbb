/- almonerref09.Get of all bytes. Printed by gen_p57.py. -/
import Derived.Test.YtlgbnjaoadlolaaDoorP56
import Derived.Test.YtlgbnjaoadlolaaDoorP43
import Derived.Test.YtlgbnjaoadlolaaDoorP36
import Derived.Test.YtlgbnjaoadlolaaDoorZR
import Derived.Deep.RegionLaw
namespace Go.Proofs.YtlgbnjaoadlolaaDoor
open Go.RowKit

/-- At a step of a region that draws its order: append(own, src...), the source read as records. -/
theorem step_append_recs {α : Type} {k : Nat} {enc : α → List Value} {P : Program} {ops : Array Oper} {o : Oper} {a : Act} {w : World} {K : Act → World → Prop} {Q : Exit → Act → World → Prop} {E : Prop} (hgd : o.guard = none) (s x : Operand) (t : TypeId)
    (ho : o.op = .call { callee := .builtin .append, args := #[s, x], argTypes := #[t, t] })
    (base : Nat) (e : TypeId) (i : TypeInfo) (z : Value) (bytes : Nat) (ht : P.underlying t = some (.slice e)) (hi : P.info? e = some i) (hz : i.zero = some z)
    (hsize : i.size = k) (hby : i.bytes = bytes) (hzs : z.cells.size = k) (hsz : 0 < k)
    (hk : ∀ s, (enc s).length = k) (h1 : ∀ s, ∀ u ∈ enc s, u.oneCell' = true)
    (v : Value) (l0 : List α) (hs : a.eval s = v) (hown : w.ownsRow base e k v l0.length (l0.flatMap enc))
    (ad : Addr) (m c : Nat) (l : List α) (hm : l.length = m) (hx : a.eval x = .slice (some ad) m c) (hl : RecsAt k enc w (some ad) l)
    (h63 : l0.length + m ≤ maxLen) (hbytes : (l0.length + m) * bytes ≤ 140737488355328) (hbase : base ≤ w.heap.size)
    (h : ∀ v' w', w'.ownsRow base e k v' (l0 ++ l).length ((l0 ++ l).flatMap enc) → w.grownBy w' v.ownBlock → K (a.put o.dst v') w') :
    if Region.wanted o (yielded ops a.tmps) = true then Oper.wp P o a w K Q else E := by
  subst hm
  have hw : Region.wanted o (yielded ops a.tmps) = true := by simp [Region.wanted, hgd]
  rw [if_pos hw]
  refine wp_append_own w s x t ho base e i z k bytes ht hi hz hsize hby hzs hsz v l0.length (l0.flatMap enc) hs hown ad l.length c (l.flatMap enc) hx (flat_len hk l) ?_ ?_ h63 hbytes hbase ?_
  · intro j u hj
    obtain ⟨y, hy, hu⟩ := flat_at hk hsz l j u hj
    obtain ⟨b, off, hh, _, hcell⟩ := hl _ y hy
    obtain rfl := Option.some.inj hh
    have := hcell _ u hu
    have e1 : off + j / k * k + j % k = off + j := by rw [Nat.add_assoc, Nat.mul_comm, Nat.div_add_mod]
    rw [e1] at this
    unfold Addr.add
    by_cases hj0 : j = 0
    · subst hj0; simpa using this
    · simpa [hj0] using this
  · intro u hu
    obtain ⟨y, _, hy⟩ := List.mem_flatMap.1 hu
    exact h1 y u hy
  · intro v' w' ho' hg' _
    exact h v' w' (by simpa using ho') hg'

theorem tsk_get : ∀ (l : List Tsk) (t r : Nat) (x : Tsk), l[t]? = some x → r < 4 → (l.flatMap tskNat)[4 * t + r]? = (tskNat x)[r]?
  | [], t, r, x, h, _ => by simp at h
  | y :: l, 0, r, x, h, hr => by
    cases h
    rw [List.flatMap_cons, List.getElem?_append_left (by show 4 * 0 + r < 4; omega), Nat.mul_zero, Nat.zero_add]
  | y :: l, t + 1, r, x, h, hr => by
    rw [List.flatMap_cons, List.getElem?_append_right (by show 4 ≤ _; omega)]
    have := tsk_get l t r x (by simpa using h) hr
    rw [← this]
    congr 1
    show 4 * (t + 1) + r - 4 = _
    omega
/-- At a step of a region that draws its order: append(own, src...) of tasks. -/
theorem step_appT {w : World} {ops : Array Oper} {o : Oper} {a : Act} {K : Act → World → Prop} {Q : Exit → Act → World → Prop} {E : Prop} (hgd : o.guard = none) (s x : Operand)
    (ho : o.op = .call { callee := .builtin .append, args := #[s, x], argTypes := #[27, 27] }) (B : Nat) (a1 : Option Addr) (c1 n1 : Nat) (L1 : List Tsk) (hs : a.eval s = .slice a1 n1 c1) (hn : L1.length = n1) (hO : w.ownsRow B 117 4 (.slice a1 n1 c1) L1.length (L1.flatMap Tsk.cells))
    (ad : Addr) (c : Nat) (l : List Tsk) (hx : a.eval x = .slice (some ad) l.length c) (hl : RecsAt 4 Tsk.cells w (some ad) l) (hb : (n1 + l.length) * 32 ≤ 140737488355328) (hB : B ≤ w.heap.size)
    (h : ∀ a' c' w', w'.ownsRow B 117 4 (.slice a' (L1 ++ l).length c') (L1 ++ l).length ((L1 ++ l).flatMap Tsk.cells) → RecsAt 4 Tsk.cells w' a' (L1 ++ l) → (a' = none → c' = 0) → (∀ y, a' = some y → B ≤ y.block) → w.grownBy w' (Value.slice a1 n1 c1).ownBlock → K (a.put o.dst (.slice a' (L1 ++ l).length c')) w') :
    if Region.wanted o (yielded ops a.tmps) = true then Oper.wp Tryd.prog o a w K Q else E := by
  subst hn
  obtain ⟨i5, hi, hz0, hz1, hz2⟩ := info_parts Tryd.infoTsk
  refine step_append_recs (k := 4) (enc := Tsk.cells) hgd s x 27 ho B 117 i5 _ 32 Tryd.underlying27 hi hz0 hz1 hz2 rfl (by decide) Tsk.cells_len Tsk.cells_one (.slice a1 L1.length c1) L1 hs hO ad l.length c l rfl hx hl (by unfold maxLen; omega) hb hB ?_
  intro v2 w2 hown2 hgr2
  obtain ⟨a2, c2, hv2, hr2, hn2, hB2⟩ := recs_of_owns Tsk.cells_len hown2
  subst hv2
  exact h a2 c2 w2 hown2 hr2 hn2 hB2 hgr2
/-- What almonerref09.Get answers. -/
def RGetP (p : List UInt8) (w : World) (e : Ending) (w' : World) : Prop := Gr w w' ∧ (entNo p ∧ e = .returned (.tuple #[entZ, .bool false]) ∨ ∃ m0 m1 m2 m3 m4 m5 m6 m7 m8 k j L0 a' c', entYes p m0 m1 m2 m3 m4 m5 m6 m7 m8 k j L0 ∧ e = .returned (.tuple #[.agg #[.int .i64 m0, .int .i64 m1, .int .i64 m2, .int .i64 m4, .int .i64 m5, .int .i64 m6, .int .i64 m7, .int .i64 m8, (.slice a' L0.length c'), .int .i64 m3], .bool true]) ∧ RecsAt 4 Tsk.cells w' a' L0 ∧ (a' = none → c' = 0) ∧ L0.length ≤ c' ∧ c' ≤ maxLen ∧ ∀ y, a' = some y → w.heap.size ≤ y.block)
theorem ten_pre {l : List Nat} (h : 10 ≤ l.length) : ∃ a0 a1 a2 a3 a4 a5 a6 a7 a8 a9 r, l = [a0, a1, a2, a3, a4, a5, a6, a7, a8, a9] ++ r := by
  obtain ⟨a0, a1, a2, a3, a4, a5, a6, a7, a8, a9, h0⟩ := ten_of (l := l.take 10) (by rw [List.length_take]; omega)
  exact ⟨a0, a1, a2, a3, a4, a5, a6, a7, a8, a9, l.drop 10, by rw [← h0, List.take_append_drop]⟩
set_option maxRecDepth 100000 in
set_option maxHeartbeats 12800000 in
theorem rGet_any (w : World) (a : Option Addr) (c : Nat) (p : List UInt8) (hS : BytesAt w a p) (hcn : a = none → c = 0) (hpc : p.length ≤ c) (hcm : c ≤ maxLen) (hpm : p.length ≤ 40000) (hax : ∀ x, a = some x → x.block < w.heap.size) :
    Calls Tryd.prog 46 #[.slice a p.length c] w (RGetP p w) := by
  obtain ⟨n, hn⟩ : ∃ n, p.length = n := ⟨_, rfl⟩
  obtain ⟨rb, hrb⟩ : ∃ rb, w.heap.size + 1 = rb := ⟨_, rfl⟩
  obtain ⟨W1, hW1⟩ : ∃ W1, W1 = w.alloc (.cells #[.int .i64 0, .int .i64 0, .int .i64 0, .int .i64 0, .int .i64 0, .int .i64 0, .int .i64 0, .int .i64 0, .slice none 0 0, .int .i64 0] 79) := ⟨_, rfl⟩
  have hz1 : W1.heap.size = rb := by rw [hW1]; simp; omega
  obtain ⟨W2, hW2⟩ : ∃ W2, W2 = W1.alloc (.cells #[.slice a n c, .int .i64 0] 94) := ⟨_, rfl⟩
  have g1 : Gr w W1 := by rw [hW1]; exact (Gr.refl w).alloc _
  have g2 : Gr W1 W2 := by rw [hW2]; exact (Gr.refl W1).alloc _
  have hz2 : W2.heap.size = rb + 1 := by rw [hW2]; simp [hz1]
  have hR2 : Blk W2 w.heap.size #[.int .i64 0, .int .i64 0, .int .i64 0, .int .i64 0, .int .i64 0, .int .i64 0, .int .i64 0, .int .i64 0, .slice none 0 0, .int .i64 0] 79 := by
    have h1 : Blk W1 w.heap.size #[.int .i64 0, .int .i64 0, .int .i64 0, .int .i64 0, .int .i64 0, .int .i64 0, .int .i64 0, .int .i64 0, .slice none 0 0, .int .i64 0] 79 := by rw [hW1]; exact Blk.new w _ _
    exact h1.gr g2
  have hr2 : RrAt (· < rb) W2 rb p 0 := ⟨a, c, by rw [hn, hW2]; exact Blk.new1 hz1, hS.gr (g1.trans g2), hcn, fun x hx => by have := hax x hx; constructor <;> omega, Nat.zero_le _, hpc, by omega, hcm⟩
  have hO0 := owns_empty (α := Int) (enc := numC) W2 3 1 (.cells #[] 3) rfl (rb + 1) (by omega)
  rw [hz2] at hO0
  have hr3 := hr2.gr ((Gr.refl W2).alloc (.cells #[] 3))
  have h0 : numsR ([] : List Nat).length p = some ([], 0) := rfl
  rw [hn]
  replace hn := Lib.hid hn
  replace hS := Lib.hid hS
  replace hax := Lib.hid hax
  replace hcn := Lib.hid hcn
  replace hR2 := Lib.hid hR2
  replace hr2 := Lib.hid hr2
  replace hr3 := Lib.hid hr3
  replace hO0 := Lib.hid hO0
  replace h0 := Lib.hid h0
  replace hz1 := Lib.hid hz1
  replace hz2 := Lib.hid hz2
  replace hrb := Lib.hid hrb
  replace hW1 := Lib.hid hW1
  replace hW2 := Lib.hid hW2
  go_enter Tryd.func46, Tryd.ntmps46
  go_upto_region 3 with fail
  rw [← hW1.out]
  try simp only [hrb.out]
  rw [← hW2.out]
  go_loopw [5] (fun ov wr => ∃ (q : Nat) (ns : List Nat) (a2 : Option Addr) (c2 : Nat), ov = .slice a2 ns.length c2 ∧ ns.length ≤ 43 ∧ Hid (numsR ns.length p = some (ns, q)) ∧ Hid (wr.ownsRow (rb + 1) 3 1 (.slice a2 ns.length c2) (ns.map fun (n : Nat) => (n : Int)).length ((ns.map fun (n : Nat) => (n : Int)).flatMap numC)) ∧ Hid (RrAt (· < rb) wr rb p q) ∧ GrX [rb] W2 wr) (fun ov _ => match ov with
    | .slice _ k _ => 43 - k
    | _ => 0)
  case atStart => exact ⟨0, [], _, _, rfl, Nat.zero_le _, h0, hO0, hr3, ((GrX.refl [rb] W2).alloc (.cells #[] 3))⟩
  case round =>
    obtain ⟨q, ns, a2, c2, rfl, hnm, heq, hO, hrd, hg⟩ := hrel
    obtain ⟨i, hi⟩ : ∃ i, ns.length = i := ⟨_, rfl⟩
    have hzr := hg.size
    rw [hz2.out] at hzr
    have hrb1 := hrb.out
    have gwr : Gr w wr := GrX.all (g1.trans g2) hg (fun x hx => by simp at hx; omega)
    have hRr := hR2.out.grx hg (by simp; omega)
    have hob : ∀ x, (Value.slice a2 ns.length c2).ownBlock = some x → rb + 1 ≤ x ∧ x < wr.heap.size := fun x hx => by
      have := owns_lt hO.out x hx
      exact ⟨this.2, this.1⟩
    have hqn : q ≤ n := by rw [← hn.out]; exact (numsR_ge _ _ _ _ heq.out).2
    obtain ⟨ar, cr, hbr, -⟩ := hrd.out
    have cq := hbr.cell (i := 1) (v := .int .i64 q) rfl
    replace hbr := Lib.hid hbr
    by_cases hlt : q < n ∧ ns.length ≤ 42
    · obtain ⟨hlt1, hlt2⟩ := hlt
      have tA : (q : Int) < n := by omega
      have tB : (ns.length : Int) ≤ 42 := by omega
      by_cases hgood : ∃ v j, numR (p.drop q) = some (v, j) ∧ v ≤ 1099511627776
      · obtain ⟨v, j, hq, hv⟩ := hgood
        have s4 := numsR_snoc heq.out hq hv
        have hnm1 := rrnum_yes wr rb p q 1099511627776 hrd.out hq (by omega)
        replace s4 := Lib.hid s4
        replace hnm1 := Lib.hid hnm1
        replace hq := Lib.hid hq
        replace hi := Lib.hid hi
        replace hRr := Lib.hid hRr
        go_wp2_with fail
        refine hnm1.out.mono ?_
        rintro e w5 ⟨rfl, hr5, hg5⟩
        have hO5 := owns_grx hO.out hg5 (fun x hx => by have := hob x hx; simp; omega)
        obtain ⟨w6, hw6⟩ : ∃ w6, w6 = w5.alloc (.cells #[.int .i64 (v : Int)] 3) := ⟨_, rfl⟩
        have g6 : Gr w5 w6 := by rw [hw6]; exact (Gr.refl w5).alloc _
        have hs6 : RecsAt 1 numC w6 (some ⟨w5.heap.size, 0, none⟩) [(v : Int)] := by rw [hw6]; exact recs_alloc1 numC_len w5 rfl _ _ _ rfl
        have hO6 := owns_gr hO5 g6
        have hr6 := hr5.gr g6
        have hg6 := (hg.trans hg5).gr g6
        have hz6 : rb + 1 ≤ w6.heap.size := by have := hg5.size; have := g6.size; omega
        have hln : (ns.map fun (n : Nat) => (n : Int)).length = ns.length := List.length_map ..
        clear cq
        replace hO5 := Lib.hid hO5
        replace hO6 := Lib.hid hO6
        replace hs6 := Lib.hid hs6
        replace hr5 := Lib.hid hr5
        replace hr6 := Lib.hid hr6
        replace hw6 := Lib.hid hw6
        replace hln := Lib.hid hln
        go_wp2_with (at_builtin; go_loud (rw [← hw6.out]; refine wpList_appIX (B := rb + 1) rfl _ _ rfl a2 c2 ns.length (ns.map fun (n : Nat) => (n : Int)) rfl hln.out hO6.out (some ⟨w5.heap.size, 0, none⟩) 1 [(v : Int)] rfl hs6.out (fun h => by cases h) (by simp; omega) hz6 ?_; intro a7 c7 w7 hown7 hr7 hB7 hgr7; have hl7 : (ns.map (fun (n : Nat) => (n : Int)) ++ [(v : Int)]).length = (ns ++ [v]).length := (by simp); have hm7 : ns.map (fun (n : Nat) => (n : Int)) ++ [(v : Int)] = (ns ++ [v]).map (fun (n : Nat) => (n : Int)) := (by simp); have hrd7 := RrAt.grown hr6.out hgr7 (fun x hx => by have := hob x hx; constructor <;> omega); have gx7 := hg6.grown hgr7 (fun x hx => .inr (by have := hob x hx; have := hz2.out; omega)); rw [hl7] at hown7 ⊢; rw [hm7] at hown7; replace hown7 := Lib.hid hown7; replace hrd7 := Lib.hid hrd7; clear hr7 hB7 hgr7 hl7 hm7))
        go_roundw
        case rel => exact ⟨q + j, ns ++ [v], a7, c7, by rw [List.length_append]; rfl, by rw [List.length_append]; show ns.length + 1 ≤ 43; omega, Lib.hid (by rw [List.length_append]; exact s4.out), Lib.hid (by rw [List.length_map]; exact hown7.out), hrd7, gx7⟩
        case measure => simp; omega
      · have hbd : ∀ v k, numR (p.drop q) = some (v, k) → 1099511627776 < v := fun v j hq => by
          have : ¬ v ≤ 1099511627776 := fun hle => hgood ⟨v, j, hq, hle⟩
          omega
        have hno := ent_stop heq.out (by rw [hn.out]; exact hlt1) (numsR_stop heq.out hbd)
        have hnn := rrnum_no wr rb p q 1099511627776 hrd.out (fun v j hq => by have := hbd v j hq; omega)
        clear hgood hbd
        replace hnn := Lib.hid hnn
        replace hno := Lib.hid hno
        replace hi := Lib.hid hi
        replace hRr := Lib.hid hRr
        go_wp2_with fail
        refine hnn.out.mono ?_
        rintro e w5 ⟨rfl, g5⟩
        have hR5 := hRr.out.gr g5
        have gw5 := gwr.trans g5
        replace hno := hno.out
        have hz5 := hR5.lt
        have y50 := hR5.cell (i := 0) (v := .int .i64 0) rfl
        have f50 := hR5.free 0
        have y51 := hR5.cell (i := 1) (v := .int .i64 0) rfl
        have f51 := hR5.free 1
        have y52 := hR5.cell (i := 2) (v := .int .i64 0) rfl
        have f52 := hR5.free 2
        have y53 := hR5.cell (i := 3) (v := .int .i64 0) rfl
        have f53 := hR5.free 3
        have y54 := hR5.cell (i := 4) (v := .int .i64 0) rfl
        have f54 := hR5.free 4
        have y55 := hR5.cell (i := 5) (v := .int .i64 0) rfl
        have f55 := hR5.free 5
        have y56 := hR5.cell (i := 6) (v := .int .i64 0) rfl
        have f56 := hR5.free 6
        have y57 := hR5.cell (i := 7) (v := .int .i64 0) rfl
        have f57 := hR5.free 7
        have y58 := hR5.cell (i := 8) (v := .slice none 0 0) rfl
        have f58 := hR5.free 8
        have y59 := hR5.cell (i := 9) (v := .int .i64 0) rfl
        have f59 := hR5.free 9
        replace hR5 := Lib.hid hR5
        replace hno := Lib.hid hno
        go_wp2_with fail
        refine bodyPost_ret (v := .tuple #[entZ, .bool false]) ?_ rfl ⟨?_, .inl ⟨hno.out, rfl⟩⟩
        · refine (res_cell (b := w.heap.size) (t := 79) Tryd.results46 _ _ (hR5.out.set10 rfl _ _ _ _ _ _ _ _ _ _) ?_ Tryd.underlying79 (by kernel_rfl)).trans ?_
          · simp
          · simp
        · exact gw5.set10 (Nat.le_refl _) _ _ _ _ _ _ _ _ _ _
    · have hstop : ¬ (q < p.length ∧ ns.length ≤ 42) := by rw [hn.out]; exact hlt
      have tb : (decide ((q : Int) < n) && decide ((ns.length : Int) ≤ 42)) = false := by
        by_cases h1 : q < n
        · have h2 : ¬ ns.length ≤ 42 := fun h2 => hlt ⟨h1, h2⟩
          rw [decide_eq_false (show ¬ (ns.length : Int) ≤ 42 by omega), Bool.and_false]
        · rw [decide_eq_false (show ¬ (q : Int) < n by omega), Bool.false_and]
      have hzr := hRr.lt
      have yr0 := hRr.cell (i := 0) (v := .int .i64 0) rfl
      have fr0 := hRr.free 0
      have yr1 := hRr.cell (i := 1) (v := .int .i64 0) rfl
      have fr1 := hRr.free 1
      have yr2 := hRr.cell (i := 2) (v := .int .i64 0) rfl
      have fr2 := hRr.free 2
      have yr3 := hRr.cell (i := 3) (v := .int .i64 0) rfl
      have fr3 := hRr.free 3
      have yr4 := hRr.cell (i := 4) (v := .int .i64 0) rfl
      have fr4 := hRr.free 4
      have yr5 := hRr.cell (i := 5) (v := .int .i64 0) rfl
      have fr5 := hRr.free 5
      have yr6 := hRr.cell (i := 6) (v := .int .i64 0) rfl
      have fr6 := hRr.free 6
      have yr7 := hRr.cell (i := 7) (v := .int .i64 0) rfl
      have fr7 := hRr.free 7
      have yr8 := hRr.cell (i := 8) (v := .slice none 0 0) rfl
      have fr8 := hRr.free 8
      have yr9 := hRr.cell (i := 9) (v := .int .i64 0) rfl
      have fr9 := hRr.free 9
      by_cases hqe : q = n
      · have t1 : ((q : Int) != n) = false := by rw [hqe]; simp
        have tA : ¬ (q : Int) < n := by omega
        have tA2 : decide ((q : Int) < n) = false := decide_eq_false tA
        by_cases hten : ns.length < 10
        · have t2 : (ns.length : Int) < 10 := by omega
          have hno := ent_no_end heq.out hstop (fun _ _ _ _ _ _ _ _ _ L0 _ _ h _ => by omega)
          replace hi := Lib.hid hi
          replace hstop := Lib.hid hstop
          replace hqe := Lib.hid hqe
          clear tb hlt
          replace hRr := Lib.hid hRr
          replace hno := Lib.hid hno
          go_wp2_with fail
          refine bodyPost_ret (v := .tuple #[entZ, .bool false]) ?_ rfl ⟨?_, .inl ⟨hno.out, rfl⟩⟩
          · refine (res_cell (b := w.heap.size) (t := 79) Tryd.results46 _ _ (hRr.out.set10 rfl _ _ _ _ _ _ _ _ _ _) ?_ Tryd.underlying79 (by kernel_rfl)).trans ?_
            · simp
            · simp
          · exact gwr.set10 (Nat.le_refl _) _ _ _ _ _ _ _ _ _ _
        · have t2 : ¬ (ns.length : Int) < 10 := by omega
          obtain ⟨m0, m1, m2, m3, m4, m5, m6, m7, m8, m9, ts, hns⟩ := ten_pre (l := ns) (by omega)
          obtain ⟨bi, oi, rfl, hbi, hci⟩ : ∃ bi oi, a2 = some ⟨bi, oi, none⟩ ∧ bi < wr.heap.size ∧ ∀ (i : Nat) (x : Nat), ns[i]? = some x → wr.cell? ⟨bi, oi + i, none⟩ = some (.int .i64 x) := by
            obtain ⟨a', c', hv, hr, _, _⟩ := recs_of_owns numC_len hO.out
            injection hv with e1 _ _
            subst e1
            obtain ⟨bi, oi, e1, e2, -⟩ := hr 0 (m0 : Int) (by rw [hns]; rfl)
            refine ⟨bi, oi, e1, e2, fun i x hx => ?_⟩
            obtain ⟨bi', oi', e3, -, e5⟩ := hr i (x : Int) (by rw [List.getElem?_map, hx]; rfl)
            rw [e1] at e3
            cases e3
            have := e5 0 _ rfl
            simpa using this
          have hbr2 : rb < bi := by have := hob bi rfl; omega
          have c9 := hci 9 m9 (by rw [hns]; rfl)
          have e9 : ∀ (x0 x1 x2 x3 x4 x5 x6 x7 x8 : Nat) (L0 : List Tsk), ns = entNs x0 x1 x2 x3 x4 x5 x6 x7 x8 L0 → m9 = L0.length := fun x0 x1 x2 x3 x4 x5 x6 x7 x8 L0 e => by
            rw [hns] at e
            have e9 : some m9 = some L0.length := congrArg (fun l => l[9]?) e
            exact Option.some.inj e9
          by_cases h8 : 8 < m9
          · have t3 : (8 : Int) < m9 := by omega
            have hno := ent_no_end heq.out hstop (fun _ _ _ _ _ _ _ _ _ L0 _ h _ e => by have := e9 _ _ _ _ _ _ _ _ _ _ e; omega)
            replace hi := Lib.hid hi
            replace hstop := Lib.hid hstop
            replace hqe := Lib.hid hqe
            replace hci := Lib.hid hci
            replace hns := Lib.hid hns
            clear tb hlt e9
            replace hRr := Lib.hid hRr
            replace hno := Lib.hid hno
            go_wp2_with fail
            refine bodyPost_ret (v := .tuple #[entZ, .bool false]) ?_ rfl ⟨?_, .inl ⟨hno.out, rfl⟩⟩
            · refine (res_cell (b := w.heap.size) (t := 79) Tryd.results46 _ _ (hRr.out.set10 rfl _ _ _ _ _ _ _ _ _ _) ?_ Tryd.underlying79 (by kernel_rfl)).trans ?_
              · simp
              · simp
            · exact gwr.set10 (Nat.le_refl _) _ _ _ _ _ _ _ _ _ _
          · have t3 : ¬ (8 : Int) < m9 := by omega
            by_cases h4 : ns.length = 10 + 4 * m9
            · have t4 : ((ns.length : Int) != 10 + 4 * (m9 : Int)) = false := by rw [h4]; simp
              replace heq := Lib.hid heq
              have t2i : ¬ (i : Int) < 10 := by omega
              have t4i : ((i : Int) != 10 + 4 * (m9 : Int)) = false := by rw [← hi]; exact t4
              replace hi := Lib.hid hi
              replace hstop := Lib.hid hstop
              replace hqe := Lib.hid hqe
              replace h4 := Lib.hid h4
              replace hns := Lib.hid hns
              have cc := fun i x h => hci i x h
              have c0 := hci 0 m0 (by rw [hns.out]; rfl)
              have c1 := hci 1 m1 (by rw [hns.out]; rfl)
              have c2_ := hci 2 m2 (by rw [hns.out]; rfl)
              have c3 := hci 3 m3 (by rw [hns.out]; rfl)
              have c4 := hci 4 m4 (by rw [hns.out]; rfl)
              have c5 := hci 5 m5 (by rw [hns.out]; rfl)
              have c6 := hci 6 m6 (by rw [hns.out]; rfl)
              have c7 := hci 7 m7 (by rw [hns.out]; rfl)
              have c8 := hci 8 m8 (by rw [hns.out]; rfl)
              rw [Nat.add_zero] at c0
              replace hRr := Lib.hid hRr
              replace hci := Lib.hid hci
              clear tb hlt e9 cc yr0 fr0 yr1 fr1 yr2 fr2 yr3 fr3 yr4 fr4 yr5 fr5 yr6 fr6 yr7 fr7 yr8 fr8 yr9 fr9
              have b0 : (0 : Int) < i := by omega
              have b1 : (1 : Int) < i := by omega
              have b2 : (2 : Int) < i := by omega
              have b3 : (3 : Int) < i := by omega
              have b4 : (4 : Int) < i := by omega
              have b5 : (5 : Int) < i := by omega
              have b6 : (6 : Int) < i := by omega
              have b7 : (7 : Int) < i := by omega
              have b8 : (8 : Int) < i := by omega
              have b0n : 0 < i := by omega
              rw [hi.out]
              go_upto_region 10 with fail
              go_region_held3 (fun w' => w'.cell? ⟨bi, oi, none⟩ = some (.int .i64 m0) ∧ w'.cell? ⟨bi, oi + 1, none⟩ = some (.int .i64 m1) ∧ w'.cell? ⟨bi, oi + 2, none⟩ = some (.int .i64 m2) ∧ w'.cell? ⟨bi, oi + 3, none⟩ = some (.int .i64 m3) ∧ w'.cell? ⟨bi, oi + 4, none⟩ = some (.int .i64 m4) ∧ w'.cell? ⟨bi, oi + 5, none⟩ = some (.int .i64 m5) ∧ w'.cell? ⟨bi, oi + 6, none⟩ = some (.int .i64 m6) ∧ w'.cell? ⟨bi, oi + 7, none⟩ = some (.int .i64 m7) ∧ w'.cell? ⟨bi, oi + 8, none⟩ = some (.int .i64 m8)) (simp (maxDischargeDepth := 8) [go_sem, *])
                (first
                  | fail)
              obtain ⟨eb, heb⟩ : ∃ eb, wr.heap.size = eb := ⟨_, rfl⟩
              obtain ⟨W3, hW3⟩ : ∃ W3, W3 = (wr.alloc (.cells #[.int .i64 m0, .int .i64 m1, .int .i64 m2, .int .i64 m4, .int .i64 m5, .int .i64 m6, .int .i64 m7, .int .i64 m8, .slice none 0 0, .int .i64 m3] 79)).drew := ⟨_, rfl⟩
              have g3 : Gr wr W3 := by rw [hW3]; exact ((Gr.refl wr).alloc _).drew
              have hE3 : Blk W3 eb #[.int .i64 m0, .int .i64 m1, .int .i64 m2, .int .i64 m4, .int .i64 m5, .int .i64 m6, .int .i64 m7, .int .i64 m8, .slice none 0 0, .int .i64 m3] 79 := by rw [hW3]; exact (Blk.new1 heb).gr ((Gr.refl _).drew)
              have hR3 := hRr.out.gr g3
              have gw3 := gwr.trans g3
              have z3 : W3.heap.size = eb + 1 := by rw [hW3]; simp [heb]
              have hbeb : bi < eb := by omega
              have hdc : ∀ W' : World, GrX [eb] W3 W' → ∀ (i x : Nat), ns[i]? = some x → W'.cell? ⟨bi, oi + i, none⟩ = some (.int .i64 x) := fun W' g i x h => (g.cell (by omega) (by simp; omega) (oi + i)).trans (((g3.x []).cell hbi (by simp) (oi + i)).trans (hci.out i x h))
              have hpt : numsR (10 + 4 * m9) p = some ([m0, m1, m2, m3, m4, m5, m6, m7, m8, m9] ++ ts, p.length) := by
                have h1 := heq.out
                rw [h4.out, hqe.out, ← hn.out, hns.out] at h1
                exact h1
              obtain ⟨L0, kk, jj, hL9, hts, htn, hN1, hN2, hN3⟩ := ent_parts hpt
              have hi4 : i = 10 + 4 * m9 := by rw [← hi.out]; exact h4.out
              have hdt : ∀ (t r : Nat) (x : Tsk) (v : Nat), L0[t]? = some x → r < 4 → (tskNat x)[r]? = some v → ns[10 + 4 * t + r]? = some v := fun t r x v h1 h2 h3 => by
                rw [hns.out, hts, Nat.add_assoc, List.getElem?_append_right (by simp)]
                have := tsk_get L0 t r x h1 h2
                rw [h3] at this
                rw [← this]
                congr 1
                simp
              clear c0 c1 c2_ c3 c4 c5 c6 c7 c8 c9
              rw [heb]
              replace hi4 := Lib.hid hi4
              replace heb := Lib.hid heb
              replace hW3 := Lib.hid hW3
              replace hE3 := Lib.hid hE3
              replace hR3 := Lib.hid hR3
              replace z3 := Lib.hid z3
              replace hdc := Lib.hid hdc
              replace hdt := Lib.hid hdt
              replace hpt := Lib.hid hpt
              replace hL9 := Lib.hid hL9
              replace hts := Lib.hid hts
              replace htn := Lib.hid htn
              replace hN1 := Lib.hid hN1
              replace hN2 := Lib.hid hN2
              replace hN3 := Lib.hid hN3
              clear t1 t2 t3 t4 t2i t4i b0 b1 b2 b3 b4 b5 b6 b7 b8 b0n tA tA2 cq
              go_upto_region 12 with fail
              rw [← hW3.out]
              go_loopw [9] (fun iv wr => ∃ (u t : Nat) (L : List Tsk) (a1 : Option Addr) (c1 : Nat), iv = .int .i64 u ∧ t ≤ m9 ∧ Hid (u = 10 + 4 * t) ∧ Hid (L = L0.take t) ∧ Hid (wr.ownsRow W3.heap.size 117 4 (.slice a1 t c1) L.length (L.flatMap Tsk.cells)) ∧ Hid (RecsAt 4 Tsk.cells wr a1 L ∧ (a1 = none → c1 = 0) ∧ ∀ y, a1 = some y → W3.heap.size ≤ y.block) ∧ Hid (Blk wr eb #[.int .i64 m0, .int .i64 m1, .int .i64 m2, .int .i64 m4, .int .i64 m5, .int .i64 m6, .int .i64 m7, .int .i64 m8, .slice a1 t c1, .int .i64 m3] 79) ∧ GrX [eb] W3 wr) (fun iv _ => i - (intOf iv).toNat)
              case atStart => exact ⟨10, 0, [], none, 0, rfl, Nat.zero_le _, Lib.hid rfl, Lib.hid rfl, Lib.hid (World.ownsRow_nil _ _ _ _), Lib.hid ⟨fun i s h => by simp at h, fun _ => rfl, fun y h => by cases h⟩, hE3, GrX.refl _ _⟩
              case round =>
                obtain ⟨u, t, L, a1, c1, rfl, htm, hu, hL, hO2, hrc, hbl, hg2⟩ := hrel
                obtain ⟨wo, rfl⟩ : ∃ wo : World, wo = wr := ⟨_, rfl⟩
                have zo := hg2.size
                have hLl : L.length = t := by rw [hL.out, List.length_take, hL9.out]; omega
                have hobt : ∀ x, (Value.slice a1 t c1).ownBlock = some x → W3.heap.size ≤ x ∧ x < wo.heap.size := fun x hx => by
                  have := owns_lt hO2.out x hx
                  exact ⟨this.2, this.1⟩
                by_cases hq : t < m9
                · obtain ⟨x, hx⟩ := get_some L0 t (by rw [hL9.out]; exact hq)
                  have hxn := htn.out x (List.mem_of_getElem? hx)
                  have hLn : L ++ [x] = L0.take (t + 1) := by rw [take_snoc hx, ← hL.out]
                  have hln2 : (L ++ [x]).length = t + 1 := by rw [List.length_append, hLl]; rfl
                  have hue := hu.out
                  have hi5 := hi4.out
                  have v0 : (u : Int) < i := by omega
                  obtain ⟨u1, hu1⟩ : ∃ u1, u + 1 = u1 := ⟨_, rfl⟩
                  obtain ⟨u2, hu2⟩ : ∃ u2, u + 2 = u2 := ⟨_, rfl⟩
                  obtain ⟨u3, hu3⟩ : ∃ u3, u + 3 = u3 := ⟨_, rfl⟩
                  have v1 : (u1 : Int) < i := by omega
                  have v2 : (u2 : Int) < i := by omega
                  have v3 : (u3 : Int) < i := by omega
                  have ibd : i ≤ 60 := by omega
                  have e1 : IntKind.i64.wrap ((u : Int) + 1) = (u1 : Int) := by rw [IntKind.wrap_i64]; omega
                  have e2 : IntKind.i64.wrap ((u : Int) + 2) = (u2 : Int) := by rw [IntKind.wrap_i64]; omega
                  have e3 : IntKind.i64.wrap ((u : Int) + 3) = (u3 : Int) := by rw [IntKind.wrap_i64]; omega
                  have e4 : IntKind.i64.wrap ((u : Int) + 4) = (u : Int) + 4 := by rw [IntKind.wrap_i64]; omega
                  have hcs : ∀ W' : World, GrX [eb] W3 W' → W'.cell? ⟨bi, oi + u, none⟩ = some (.int .i64 x.c) ∧ W'.cell? ⟨bi, oi + u1, none⟩ = some (.int .i64 x.p) ∧ W'.cell? ⟨bi, oi + u2, none⟩ = some (.int .i64 x.d) ∧ W'.cell? ⟨bi, oi + u3, none⟩ = some (.int .i64 x.s) := fun W' g => by
                    have a0 := (hxn x.c (by simp [tskN])).1
                    have a1 := (hxn x.p (by simp [tskN])).1
                    have a2 := (hxn x.d (by simp [tskN])).1
                    have a3 := (hxn x.s (by simp [tskN])).1
                    have h0 := hdc.out W' g _ _ (hdt.out t 0 x _ hx (by omega) rfl)
                    have h1 := hdc.out W' g _ _ (hdt.out t 1 x _ hx (by omega) rfl)
                    have h2 := hdc.out W' g _ _ (hdt.out t 2 x _ hx (by omega) rfl)
                    have h3 := hdc.out W' g _ _ (hdt.out t 3 x _ hx (by omega) rfl)
                    rw [show ((x.c.toNat : Nat) : Int) = x.c by omega] at h0
                    rw [show ((x.p.toNat : Nat) : Int) = x.p by omega] at h1
                    rw [show ((x.d.toNat : Nat) : Int) = x.d by omega] at h2
                    rw [show ((x.s.toNat : Nat) : Int) = x.s by omega] at h3
                    rw [← hu1, ← hu2, ← hu3, hue]
                    exact ⟨h0, h1, h2, h3⟩
                  obtain ⟨d0, d1, d2, d3⟩ := hcs wo hg2
                  have c8 := hbl.out.cell (i := 8) (v := .slice a1 t c1) rfl
                  have gdr : Gr wo ((wo.alloc (.cells #[.int .i64 x.c, .int .i64 x.p, .int .i64 x.d, .int .i64 x.s] 117)).drew) := ((Gr.refl wo).alloc _).drew
                  have hsx : RecsAt 4 Tsk.cells ((wo.alloc (.cells #[.int .i64 x.c, .int .i64 x.p, .int .i64 x.d, .int .i64 x.s] 117)).drew) (some ⟨wo.heap.size, 0, none⟩) [x] := RecsAt.of_below (recs_alloc1 Tsk.cells_len wo rfl [x] _ #[.int .i64 x.c, .int .i64 x.p, .int .i64 x.d, .int .i64 x.s] (by simp [Tsk.cells])) (B := wo.heap.size + 1) (fun y hy => by cases hy; show wo.heap.size < _; omega) (by have := (Gr.refl (wo.alloc (.cells #[.int .i64 x.c, .int .i64 x.p, .int .i64 x.d, .int .i64 x.s] 117))).drew; unfold Gr at this; rwa [World.size_alloc] at this)
                  have hOz := owns_gr hO2.out gdr
                  have hEz := hbl.out.gr gdr
                  have gxz := hg2.gr gdr
                  have hBz : W3.heap.size ≤ ((wo.alloc (.cells #[.int .i64 x.c, .int .i64 x.p, .int .i64 x.d, .int .i64 x.s] 117)).drew).heap.size := gxz.size
                  have hbz : (t + 1) * 32 ≤ 140737488355328 := by omega
                  have zr := z3.out
                  have leb : eb < wo.heap.size := by omega
                  have lbi : bi < wo.heap.size := by omega
                  replace hx := Lib.hid hx
                  replace hxn := Lib.hid hxn
                  replace hLn := Lib.hid hLn
                  replace hLl := Lib.hid hLl
                  replace hln2 := Lib.hid hln2
                  replace hue := Lib.hid hue
                  clear hi5
                  replace hu1 := Lib.hid hu1
                  replace hu2 := Lib.hid hu2
                  replace hu3 := Lib.hid hu3
                  replace hcs := Lib.hid hcs
                  replace gdr := Lib.hid gdr
                  replace hsx := Lib.hid hsx
                  replace hOz := Lib.hid hOz
                  replace hEz := Lib.hid hEz
                  replace gxz := Lib.hid gxz
                  replace hBz := Lib.hid hBz
                  replace hbz := Lib.hid hbz
                  replace zr := Lib.hid zr
                  replace ibd := Lib.hid ibd
                  go_upto_region 14 with fail
                  refine wp_region_Z 27 (fun w' => w'.cell? ⟨eb, 8, none⟩ = some (.slice a1 t c1) ∧ w'.cell? ⟨bi, oi + u, none⟩ = some (.int .i64 x.c) ∧ w'.cell? ⟨bi, oi + u1, none⟩ = some (.int .i64 x.p) ∧ w'.cell? ⟨bi, oi + u2, none⟩ = some (.int .i64 x.d) ∧ w'.cell? ⟨bi, oi + u3, none⟩ = some (.int .i64 x.s)) (by kernel_rfl) ?_
                  have hS0 : (fun w' => w'.cell? ⟨eb, 8, none⟩ = some (.slice a1 t c1) ∧ w'.cell? ⟨bi, oi + u, none⟩ = some (.int .i64 x.c) ∧ w'.cell? ⟨bi, oi + u1, none⟩ = some (.int .i64 x.p) ∧ w'.cell? ⟨bi, oi + u2, none⟩ = some (.int .i64 x.d) ∧ w'.cell? ⟨bi, oi + u3, none⟩ = some (.int .i64 x.s)) wo.drew := by (dsimp only; simp (maxDischargeDepth := 8) [go_sem, *])
                  refine wpAnyZ_take (i := 0) (v := ?v0) rfl (by kernel_rfl) (by kernel_rfl) (by kernel_rfl) (by kernel_rfl) (fun _ _ _ h => h) (by rfl) ?y0 hS0 ?r0
                  case y0 => (intro w hSw; (try dsimp only at hSw); go_simp; try with_reducible rfl)
                  try simp only [Act.put, List.setIfInBounds_toArray]
                  refine wpAnyZ_take (i := 1) (v := ?v1) rfl (by kernel_rfl) (by kernel_rfl) (by kernel_rfl) (by kernel_rfl) (fun _ _ _ h => h) (by rfl) ?y1 hS0 ?r1
                  case y1 => (intro w hSw; (try dsimp only at hSw); go_simp; try with_reducible rfl)
                  try simp only [Act.put]
                  refine wpAnyZ_take (i := 2) (v := ?v2) rfl (by kernel_rfl) (by kernel_rfl) (by kernel_rfl) (by kernel_rfl) (fun _ _ _ h => h) (by rfl) ?y2 hS0 ?r2
                  case y2 => (intro w hSw; (try dsimp only at hSw); go_simp; try with_reducible rfl)
                  try simp only [Act.put]
                  refine wpAnyZ_take (i := 3) (v := ?v3) rfl (by kernel_rfl) (by kernel_rfl) (by kernel_rfl) (by kernel_rfl) (fun _ _ _ h => h) (by rfl) ?y3 hS0 ?r3
                  case y3 => (intro w hSw; (try dsimp only at hSw); go_simp; try with_reducible rfl)
                  try simp only [Act.put]
                  refine wpAnyZ_take (i := 4) (v := ?v4) rfl (by kernel_rfl) (by kernel_rfl) (by kernel_rfl) (by kernel_rfl) (fun _ _ _ h => h) (by rfl) ?y4 hS0 ?r4
                  case y4 => (intro w hSw; (try dsimp only at hSw); go_simp; try with_reducible rfl)
                  try simp only [Act.put]
                  refine wpAnyZ_take (i := 5) (v := ?v5) rfl (by kernel_rfl) (by kernel_rfl) (by kernel_rfl) (by kernel_rfl) (fun _ _ _ h => h) (by rfl) ?y5 hS0 ?r5
                  case y5 => (intro w hSw; (try dsimp only at hSw); go_simp; try with_reducible rfl)
                  try simp only [Act.put]
                  refine wpAnyZ_take (i := 6) (v := ?v6) rfl (by kernel_rfl) (by kernel_rfl) (by kernel_rfl) (by kernel_rfl) (fun _ _ _ h => h) (by rfl) ?y6 hS0 ?r6
                  case y6 => (intro w hSw; (try dsimp only at hSw); go_simp; try with_reducible rfl)
                  try simp only [Act.put]
                  refine wpAnyZ_take (i := 7) (v := ?v7) rfl (by kernel_rfl) (by kernel_rfl) (by kernel_rfl) (by kernel_rfl) (fun _ _ _ h => h) (by rfl) ?y7 hS0 ?r7
                  case y7 => (intro w hSw; (try dsimp only at hSw); go_simp; try with_reducible rfl)
                  try simp only [Act.put]
                  refine wpAnyZ_take (i := 8) (v := ?v8) rfl (by kernel_rfl) (by kernel_rfl) (by kernel_rfl) (by kernel_rfl) (fun _ _ _ h => h) (by rfl) ?y8 hS0 ?r8
                  case y8 => (intro w hSw; (try dsimp only at hSw); go_simp; try with_reducible rfl)
                  try simp only [Act.put]
                  refine wpAnyZ_take (i := 9) (v := ?v9) rfl (by kernel_rfl) (by kernel_rfl) (by kernel_rfl) (by kernel_rfl) (fun _ _ _ h => h) (by rfl) ?y9 hS0 ?r9
                  case y9 => (intro w hSw; (try dsimp only at hSw); go_simp; try with_reducible rfl)
                  try simp only [Act.put]
                  refine wpAnyZ_take (i := 10) (v := ?v10) rfl (by kernel_rfl) (by kernel_rfl) (by kernel_rfl) (by kernel_rfl) (fun _ _ _ h => h) (by rfl) ?y10 hS0 ?r10
                  case y10 => (intro w hSw; (try dsimp only at hSw); go_simp; try with_reducible rfl)
                  try simp only [Act.put]
                  refine wpAnyZ_take (i := 11) (v := ?v11) rfl (by kernel_rfl) (by kernel_rfl) (by kernel_rfl) (by kernel_rfl) (fun _ _ _ h => h) (by rfl) ?y11 hS0 ?r11
                  case y11 => (intro w hSw; (try dsimp only at hSw); go_simp; try with_reducible rfl)
                  try simp only [Act.put]
                  refine wpAnyZ_take (i := 12) (v := ?v12) rfl (by kernel_rfl) (by kernel_rfl) (by kernel_rfl) (by kernel_rfl) (fun _ _ _ h => h) (by rfl) ?y12 hS0 ?r12
                  case y12 => (intro w hSw; (try dsimp only at hSw); go_simp; try with_reducible rfl)
                  try simp only [Act.put]
                  refine wpAnyZ_take (i := 13) (v := ?v13) rfl (by kernel_rfl) (by kernel_rfl) (by kernel_rfl) (by kernel_rfl) (fun _ _ _ h => h) (by rfl) ?y13 hS0 ?r13
                  case y13 => (intro w hSw; (try dsimp only at hSw); go_simp; try with_reducible rfl)
                  try simp only [Act.put]
                  refine wpAnyZ_take (i := 14) (v := ?v14) rfl (by kernel_rfl) (by kernel_rfl) (by kernel_rfl) (by kernel_rfl) (fun _ _ _ h => h) (by rfl) ?y14 hS0 ?r14
                  case y14 => (intro w hSw; (try dsimp only at hSw); go_simp; try with_reducible rfl)
                  try simp only [Act.put]
                  refine wpAnyZ_take (i := 15) (v := ?v15) rfl (by kernel_rfl) (by kernel_rfl) (by kernel_rfl) (by kernel_rfl) (fun _ _ _ h => h) (by rfl) ?y15 hS0 ?r15
                  case y15 => (intro w hSw; (try dsimp only at hSw); go_simp; try with_reducible rfl)
                  try simp only [Act.put]
                  refine wpAnyZ_take (i := 16) (v := ?v16) rfl (by kernel_rfl) (by kernel_rfl) (by kernel_rfl) (by kernel_rfl) (fun _ _ _ h => h) (by rfl) ?y16 hS0 ?r16
                  case y16 => (intro w hSw; (try dsimp only at hSw); go_simp; try with_reducible rfl)
                  try simp only [Act.put]
                  refine wpAnyZ_take (i := 17) (v := ?v17) rfl (by kernel_rfl) (by kernel_rfl) (by kernel_rfl) (by kernel_rfl) (fun _ _ _ h => h) (by rfl) ?y17 hS0 ?r17
                  case y17 => (intro w hSw; (try dsimp only at hSw); go_simp; try with_reducible rfl)
                  try simp only [Act.put]
                  refine wpAnyZ_take (i := 18) (v := ?v18) rfl (by kernel_rfl) (by kernel_rfl) (by kernel_rfl) (by kernel_rfl) (fun _ _ _ h => h) (by rfl) ?y18 hS0 ?r18
                  case y18 => (intro w hSw; (try dsimp only at hSw); go_simp; try with_reducible rfl)
                  try simp only [Act.put]
                  refine wpAnyZ_take (i := 19) (v := ?v19) rfl (by kernel_rfl) (by kernel_rfl) (by kernel_rfl) (by kernel_rfl) (fun _ _ _ h => h) (by rfl) ?y19 hS0 ?r19
                  case y19 => (intro w hSw; (try dsimp only at hSw); go_simp; try with_reducible rfl)
                  try simp only [Act.put]
                  refine wpAnyZ_take (i := 20) (v := ?v20) rfl (by kernel_rfl) (by kernel_rfl) (by kernel_rfl) (by kernel_rfl) (fun _ _ _ h => h) (by rfl) ?y20 hS0 ?r20
                  case y20 => (intro w hSw; (try dsimp only at hSw); go_simp; try with_reducible rfl)
                  try simp only [Act.put]
                  refine wpAnyZ_take (i := 21) (v := ?v21) rfl (by kernel_rfl) (by kernel_rfl) (by kernel_rfl) (by kernel_rfl) (fun _ _ _ h => h) (by rfl) ?y21 hS0 ?r21
                  case y21 => (intro w hSw; (try dsimp only at hSw); go_simp; try with_reducible rfl)
                  try simp only [Act.put]
                  refine wpAnyZ_take (i := 22) (v := ?v22) rfl (by kernel_rfl) (by kernel_rfl) (by kernel_rfl) (by kernel_rfl) (fun _ _ _ h => h) (by rfl) ?y22 hS0 ?r22
                  case y22 => (intro w hSw; (try dsimp only at hSw); go_simp; try with_reducible rfl)
                  try simp only [Act.put]
                  clear hS0
                  refine wpAnyZ_one (i := 23) (by kernel_rfl) rfl (fun K hK => ?_)
                  go_simp
                  refine hK.out _ _ (fun _ => ?_) ?_
                  · simp (maxDischargeDepth := 8) [go_sem, *]
                  clear hK K
                  try simp only [Act.put, List.setIfInBounds_toArray, List.set_cons_zero, List.set_cons_succ]
                  refine wpAnyZ_one (i := 24) (by kernel_rfl) rfl (fun K hK => ?_)
                  refine step_appT (by rfl) _ _ (by rfl) W3.heap.size a1 c1 t L (by rfl) hLl.out hOz.out ⟨wo.heap.size, 0, none⟩ 1 [x] (by rfl) hsx.out hbz.out hBz.out ?_
                  intro a2 c2 w7 hown7 hr7 hn7 hB7 hgr7
                  rw [hln2.out] at hown7 ⊢
                  have hE7 := hEz.out.grown hgr7 (fun e => by have := hobt eb e.symm; have := zr.out; omega)
                  have gx7 := gxz.out.grown hgr7 (fun x hx => .inr (hobt x hx).1)
                  have e8 := hE7.cell (i := 8) (v := .slice a1 t c1) rfl
                  have f8 := hE7.free 8
                  have z8 := hE7.lt
                  have hS7 : (fun w' => w'.cell? ⟨eb, 8, none⟩ = some (.slice a1 t c1) ∧ w'.cell? ⟨bi, oi + u, none⟩ = some (.int .i64 x.c) ∧ w'.cell? ⟨bi, oi + u1, none⟩ = some (.int .i64 x.p) ∧ w'.cell? ⟨bi, oi + u2, none⟩ = some (.int .i64 x.d) ∧ w'.cell? ⟨bi, oi + u3, none⟩ = some (.int .i64 x.s)) w7 := ⟨e8, hcs.out w7 gx7⟩
                  replace hown7 := Lib.hid hown7
                  replace hr7 := Lib.hid hr7
                  replace hn7 := Lib.hid hn7
                  replace hB7 := Lib.hid hB7
                  replace hE7 := Lib.hid hE7
                  clear hgr7
                  refine hK.out _ _ (fun _ => hS7) ?_
                  clear hK K
                  try simp only [Act.put, List.setIfInBounds_toArray]
                  refine wpAnyZ_one (i := 25) (by kernel_rfl) rfl (fun K hK => ?_)
                  go_simp
                  refine hK.out _ _ (fun _ => hS7) ?_
                  clear hK K
                  try simp only [Act.put, List.setIfInBounds_toArray, List.set_cons_zero, List.set_cons_succ]
                  refine wpAnyZ_one (i := 26) (by kernel_rfl) rfl (fun K hK => ?_)
                  go_simp
                  refine hK.out _ _ (fun _ => hS7) ?_
                  clear hK K
                  try simp only [Act.put, List.setIfInBounds_toArray, List.set_cons_zero, List.set_cons_succ]
                  refine wpAnyZ_one (i := 27) (by kernel_rfl) rfl (fun K hK => ?_)
                  clear hS7
                  go_simp
                  refine hK.out _ _ (fun h => absurd rfl h) ?_
                  clear hK K
                  try simp only [Act.put, List.setIfInBounds_toArray, List.set_cons_zero, List.set_cons_succ]
                  refine wpAnyZ_done (by kernel_rfl) ?_ _
                  refine NoPanic.normal ?_
                  clear e1 e2 e3 d0 d1 d2 d3 c8 v1 v2 v3
                  go_wp2_with fail
                  go_roundw
                  case rel =>
                    have g8 : GrX [eb] w7 (w7.setCell ⟨eb, 8, none⟩ (.slice a2 (t + 1) c2)) := (GrX.refl _ _).set (.inl (by simp)) _
                    have zr' := zr.out
                    refine ⟨u + 4, t + 1, L ++ [x], a2, c2, by go_num, by omega, Lib.hid (by rw [hue.out]; omega), hLn, Lib.hid ?_, Lib.hid ⟨?_, hn7.out, hB7.out⟩, Lib.hid (hE7.out.set 8 _), gx7.set (.inl (by simp)) _⟩
                    · rw [hln2.out]
                      exact owns_grx hown7.out g8 (fun x hx => by have := owns_lt hown7.out x hx; simp; omega)
                    · exact (RecsIn.grx (K := fun b => W3.heap.size ≤ b) ⟨hr7.out, fun x hx _ => hB7.out x hx⟩ g8 (fun x hx => by simp at hx; omega)).1
                  case measure => simp [intOf]; omega
                · have hte : t = m9 := by omega
                  have hue := hu.out
                  have hi5 := hi4.out
                  have v0 : ¬ (u : Int) < i := by omega
                  have v1 : decide ((u : Int) < i) = false := decide_eq_false v0
                  have hLe : L = L0 := by rw [hL.out, List.take_of_length_le (by rw [hL9.out]; omega)]
                  have zr := z3.out
                  have gwo : Gr w wo := GrX.all gw3 hg2 (fun x hx => by simp at hx; have := gwr.size; have := heb.out; omega)
                  have hRo := hR3.out.grx hg2 (by simp; have := gwr.size; have := heb.out; have := hRr.out.lt; omega)
                  have hO' := hO2.out
                  rw [hLl] at hO'
                  have hmx := owns_tmax hO'
                  clear hO'
                  have hok : (⟨(⟨m0, m1, m2, m4, ⟨m5, m6, m7⟩, m8, L0, m3⟩ : Ent), a1, c1⟩ : EntM).ok Any wo := ⟨⟨by rw [← hLe]; exact hrc.out.1, fun _ _ _ => trivial⟩, hrc.out.2.1, by show L0.length ≤ c1; rw [hL9.out]; omega, hmx.2, by show L0.length * 32 ≤ _; rw [hL9.out]; omega⟩
                  have hck := inForm_any (⟨m0, m1, m2, m4, ⟨m5, m6, m7⟩, m8, L0, m3⟩ : Ent) a1 c1 wo hok
                  dsimp only at hck
                  rw [hL9.out, ← hte] at hck
                  have x8_0 := hbl.out.cell (i := 0) (v := .int .i64 m0) rfl
                  have x8_1 := hbl.out.cell (i := 1) (v := .int .i64 m1) rfl
                  have x8_2 := hbl.out.cell (i := 2) (v := .int .i64 m2) rfl
                  have x8_3 := hbl.out.cell (i := 3) (v := .int .i64 m4) rfl
                  have x8_4 := hbl.out.cell (i := 4) (v := .int .i64 m5) rfl
                  have x8_5 := hbl.out.cell (i := 5) (v := .int .i64 m6) rfl
                  have x8_6 := hbl.out.cell (i := 6) (v := .int .i64 m7) rfl
                  have x8_7 := hbl.out.cell (i := 7) (v := .int .i64 m8) rfl
                  have x8_8 := hbl.out.cell (i := 8) (v := .slice a1 t c1) rfl
                  have x8_9 := hbl.out.cell (i := 9) (v := .int .i64 m3) rfl
                  have hcases : entF (⟨m0, m1, m2, m4, ⟨m5, m6, m7⟩, m8, L0, m3⟩ : Ent) = false → entNo p := fun hf => .inr ⟨m0, m1, m2, m3, m4, m5, m6, m7, m8, m9, kk, by have := hN1.out; rwa [hL9.out] at this, .inr ⟨by omega, .inr ⟨L0, jj, hL9.out, hN2.out, htn.out, .inr ⟨hN3.out, hf⟩⟩⟩⟩
                  have hyes : entF (⟨m0, m1, m2, m4, ⟨m5, m6, m7⟩, m8, L0, m3⟩ : Ent) = true → entYes p m0 m1 m2 m3 m4 m5 m6 m7 m8 kk jj L0 := fun hf => ⟨hN1.out, by rw [hL9.out]; exact hN2.out, hN3.out, hf⟩
                  replace hcases := Lib.hid hcases
                  replace hyes := Lib.hid hyes
                  replace hok := Lib.hid hok
                  replace hRo := Lib.hid hRo
                  replace hte := Lib.hid hte
                  replace hLe := Lib.hid hLe
                  replace hLl := Lib.hid hLl
                  replace hue := Lib.hid hue
                  replace zr := Lib.hid zr
                  clear hi5
                  cases hf : entF (⟨m0, m1, m2, m4, ⟨m5, m6, m7⟩, m8, L0, m3⟩ : Ent) with
                  | false =>
                    have hno := hcases.out hf
                    rw [hf] at hck
                    replace hck := Lib.hid hck
                    replace hf := Lib.hid hf
                    replace hno := Lib.hid hno
                    go_wp2_with fail
                    refine hck.out.mono ?_
                    rintro r w9 ⟨rfl, g9⟩
                    have hR9 := hRo.out.gr g9
                    have gw9 := gwo.trans g9
                    replace hno := hno.out
                    have hz9 := hR9.lt
                    have y90 := hR9.cell (i := 0) (v := .int .i64 0) rfl
                    have f90 := hR9.free 0
                    have y91 := hR9.cell (i := 1) (v := .int .i64 0) rfl
                    have f91 := hR9.free 1
                    have y92 := hR9.cell (i := 2) (v := .int .i64 0) rfl
                    have f92 := hR9.free 2
                    have y93 := hR9.cell (i := 3) (v := .int .i64 0) rfl
                    have f93 := hR9.free 3
                    have y94 := hR9.cell (i := 4) (v := .int .i64 0) rfl
                    have f94 := hR9.free 4
                    have y95 := hR9.cell (i := 5) (v := .int .i64 0) rfl
                    have f95 := hR9.free 5
                    have y96 := hR9.cell (i := 6) (v := .int .i64 0) rfl
                    have f96 := hR9.free 6
                    have y97 := hR9.cell (i := 7) (v := .int .i64 0) rfl
                    have f97 := hR9.free 7
                    have y98 := hR9.cell (i := 8) (v := .slice none 0 0) rfl
                    have f98 := hR9.free 8
                    have y99 := hR9.cell (i := 9) (v := .int .i64 0) rfl
                    have f99 := hR9.free 9
                    replace hR9 := Lib.hid hR9
                    replace hno := Lib.hid hno
                    go_wp2_with fail
                    refine bodyPost_ret (v := .tuple #[entZ, .bool false]) ?_ rfl ⟨?_, .inl ⟨hno.out, rfl⟩⟩
                    · refine (res_cell (b := w.heap.size) (t := 79) Tryd.results46 _ _ (hR9.out.set10 rfl _ _ _ _ _ _ _ _ _ _) ?_ Tryd.underlying79 (by kernel_rfl)).trans ?_
                      · simp
                      · simp
                    · exact gw9.set10 (Nat.le_refl _) _ _ _ _ _ _ _ _ _ _
                  | true =>
                    have hy := hyes.out hf
                    rw [hf] at hck
                    replace hck := Lib.hid hck
                    replace hf := Lib.hid hf
                    replace hy := Lib.hid hy
                    go_wp2_with fail
                    refine hck.out.mono ?_
                    rintro r w9 ⟨rfl, g9⟩
                    have hR9 := hRo.out.gr g9
                    have gw9 := gwo.trans g9
                    have hE9 := hbl.out.gr g9
                    clear x8_0 x8_1 x8_2 x8_3 x8_4 x8_5 x8_6 x8_7 x8_8 x8_9
                    have x9_0 := hE9.cell (i := 0) (v := .int .i64 m0) rfl
                    have x9_1 := hE9.cell (i := 1) (v := .int .i64 m1) rfl
                    have x9_2 := hE9.cell (i := 2) (v := .int .i64 m2) rfl
                    have x9_3 := hE9.cell (i := 3) (v := .int .i64 m4) rfl
                    have x9_4 := hE9.cell (i := 4) (v := .int .i64 m5) rfl
                    have x9_5 := hE9.cell (i := 5) (v := .int .i64 m6) rfl
                    have x9_6 := hE9.cell (i := 6) (v := .int .i64 m7) rfl
                    have x9_7 := hE9.cell (i := 7) (v := .int .i64 m8) rfl
                    have x9_8 := hE9.cell (i := 8) (v := .slice a1 t c1) rfl
                    have x9_9 := hE9.cell (i := 9) (v := .int .i64 m3) rfl
                    have hz9 := hR9.lt
                    have y90 := hR9.cell (i := 0) (v := .int .i64 0) rfl
                    have f90 := hR9.free 0
                    have y91 := hR9.cell (i := 1) (v := .int .i64 0) rfl
                    have f91 := hR9.free 1
                    have y92 := hR9.cell (i := 2) (v := .int .i64 0) rfl
                    have f92 := hR9.free 2
                    have y93 := hR9.cell (i := 3) (v := .int .i64 0) rfl
                    have f93 := hR9.free 3
                    have y94 := hR9.cell (i := 4) (v := .int .i64 0) rfl
                    have f94 := hR9.free 4
                    have y95 := hR9.cell (i := 5) (v := .int .i64 0) rfl
                    have f95 := hR9.free 5
                    have y96 := hR9.cell (i := 6) (v := .int .i64 0) rfl
                    have f96 := hR9.free 6
                    have y97 := hR9.cell (i := 7) (v := .int .i64 0) rfl
                    have f97 := hR9.free 7
                    have y98 := hR9.cell (i := 8) (v := .slice none 0 0) rfl
                    have f98 := hR9.free 8
                    have y99 := hR9.cell (i := 9) (v := .int .i64 0) rfl
                    have f99 := hR9.free 9
                    replace hR9 := Lib.hid hR9
                    replace hE9 := Lib.hid hE9
                    go_wp2_with fail
                    refine bodyPost_ret (v := .tuple #[.agg #[.int .i64 m0, .int .i64 m1, .int .i64 m2, .int .i64 m4, .int .i64 m5, .int .i64 m6, .int .i64 m7, .int .i64 m8, .slice a1 t c1, .int .i64 m3], .bool true]) ?_ rfl ⟨?_, .inr ⟨m0, m1, m2, m3, m4, m5, m6, m7, m8, kk, jj, L0, a1, c1, hy.out, by rw [hL9.out, ← hte.out], ?_, hrc.out.2.1, by rw [hL9.out, ← hte.out]; exact hmx.1, hmx.2, fun y hy => by have := hrc.out.2.2 y hy; have := zr.out; have := gwr.size; have := heb.out; omega⟩⟩
                    · refine (res_cell (b := w.heap.size) (t := 79) Tryd.results46 _ _ (hR9.out.set10 rfl _ _ _ _ _ _ _ _ _ _) ?_ Tryd.underlying79 (by kernel_rfl)).trans ?_
                      · simp
                      · simp
                    · exact gw9.set10 (Nat.le_refl _) _ _ _ _ _ _ _ _ _ _
                    · have hrw := (RecsIn.grx (K := fun b => W3.heap.size ≤ b) ⟨RecsAt.of_below hrc.out.1 (B := wo.heap.size) (fun x hx => (owns_lt hO2.out x.block (by rw [hx]; rfl)).1) g9, fun x hx _ => hrc.out.2.2 x hx⟩ ((GrX.refl [w.heap.size] w9).set10 (b := w.heap.size) (by simp) (.int .i64 m0) (.int .i64 m1) (.int .i64 m2) (.int .i64 m4) (.int .i64 m5) (.int .i64 m6) (.int .i64 m7) (.int .i64 m8) (.slice a1 t c1) (.int .i64 m3)) (fun x hx => by simp at hx; have := zr.out; have := gwr.size; have := heb.out; omega)).1
                      rw [hLe.out] at hrw
                      exact hrw
            · have t4 : ((ns.length : Int) != 10 + 4 * (m9 : Int)) = true := bne_iff_ne.2 (by omega)
              have hno := ent_no_end heq.out hstop (fun _ _ _ _ _ _ _ _ _ L0 _ _ h e => by have := e9 _ _ _ _ _ _ _ _ _ _ e; omega)
              replace hi := Lib.hid hi
              replace hstop := Lib.hid hstop
              replace hqe := Lib.hid hqe
              replace hci := Lib.hid hci
              replace hns := Lib.hid hns
              clear tb hlt e9
              replace hRr := Lib.hid hRr
              replace hno := Lib.hid hno
              go_wp2_with fail
              refine bodyPost_ret (v := .tuple #[entZ, .bool false]) ?_ rfl ⟨?_, .inl ⟨hno.out, rfl⟩⟩
              · refine (res_cell (b := w.heap.size) (t := 79) Tryd.results46 _ _ (hRr.out.set10 rfl _ _ _ _ _ _ _ _ _ _) ?_ Tryd.underlying79 (by kernel_rfl)).trans ?_
                · simp
                · simp
              · exact gwr.set10 (Nat.le_refl _) _ _ _ _ _ _ _ _ _ _
      · have t1 : ((q : Int) != n) = true := bne_iff_ne.2 (by omega)
        have hno := ent_no_end heq.out hstop (fun _ _ _ _ _ _ _ _ _ L0 h _ _ _ => hqe (by rw [h, hn.out]))
        have tA : (q : Int) < n := by omega
        have tB : decide ((ns.length : Int) ≤ 42) = false := decide_eq_false (by omega)
        replace hi := Lib.hid hi
        replace hstop := Lib.hid hstop
        replace hqe := Lib.hid hqe
        clear tb hlt
        replace hRr := Lib.hid hRr
        replace hno := Lib.hid hno
        go_wp2_with fail
        refine bodyPost_ret (v := .tuple #[entZ, .bool false]) ?_ rfl ⟨?_, .inl ⟨hno.out, rfl⟩⟩
        · refine (res_cell (b := w.heap.size) (t := 79) Tryd.results46 _ _ (hRr.out.set10 rfl _ _ _ _ _ _ _ _ _ _) ?_ Tryd.underlying79 (by kernel_rfl)).trans ?_
          · simp
          · simp
        · exact gwr.set10 (Nat.le_refl _) _ _ _ _ _ _ _ _ _ _
end Go.Proofs.YtlgbnjaoadlolaaDoor
