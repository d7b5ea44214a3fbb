/- AdmitFewer: the walk. -/
import Derived.Test.YtmookdgeblcjnaaDoorH12
import Derived.Test.YtmookdgeblcjnaaDoorH8
import Derived.Test.YtmookdgeblcjnaaDoorL4
import Derived.Deep.RegionLaw
namespace Go.Proofs.YtmookdgeblcjnaaDoor
open Go.RowKit

/-- At a step of a region that draws its order: append(own, src...), the source read as records. -/
theorem step_append_recs {α : Type} {k : Nat} {enc : α → List Value} {P : Program} {ops : Array Oper} {o : Oper} {a : Act} {w : World} {K : Act → World → Prop} {Q : Exit → Act → World → Prop} {E : Prop} (hgd : o.guard = none) (s x : Operand) (t : TypeId)
    (ho : o.op = .call { callee := .builtin .append, args := #[s, x], argTypes := #[t, t] })
    (base : Nat) (e : TypeId) (i : TypeInfo) (z : Value) (bytes : Nat) (ht : P.underlying t = some (.slice e)) (hi : P.info? e = some i) (hz : i.zero = some z)
    (hsize : i.size = k) (hby : i.bytes = bytes) (hzs : z.cells.size = k) (hsz : 0 < k)
    (hk : ∀ s, (enc s).length = k) (h1 : ∀ s, ∀ u ∈ enc s, u.oneCell' = true)
    (v : Value) (l0 : List α) (hs : a.eval s = v) (hown : w.ownsRow base e k v l0.length (l0.flatMap enc))
    (ad : Addr) (m c : Nat) (l : List α) (hm : l.length = m) (hx : a.eval x = .slice (some ad) m c) (hl : RecsAt k enc w (some ad) l)
    (h63 : l0.length + m ≤ maxLen) (hbytes : (l0.length + m) * bytes ≤ 140737488355328) (hbase : base ≤ w.heap.size)
    (h : ∀ v' w', w'.ownsRow base e k v' (l0 ++ l).length ((l0 ++ l).flatMap enc) → w.grownBy w' v.ownBlock → K (a.put o.dst v') w') :
    if Region.wanted o (yielded ops a.tmps) = true then Oper.wp P o a w K Q else E := by
  subst hm
  have hw : Region.wanted o (yielded ops a.tmps) = true := by simp [Region.wanted, hgd]
  rw [if_pos hw]
  refine wp_append_own w s x t ho base e i z k bytes ht hi hz hsize hby hzs hsz v l0.length (l0.flatMap enc) hs hown ad l.length c (l.flatMap enc) hx (flat_len hk l) ?_ ?_ h63 hbytes hbase ?_
  · intro j u hj
    obtain ⟨y, hy, hu⟩ := flat_at hk hsz l j u hj
    obtain ⟨b, off, hh, _, hcell⟩ := hl _ y hy
    obtain rfl := Option.some.inj hh
    have := hcell _ u hu
    have e1 : off + j / k * k + j % k = off + j := by rw [Nat.add_assoc, Nat.mul_comm, Nat.div_add_mod]
    rw [e1] at this
    unfold Addr.add
    by_cases hj0 : j = 0
    · subst hj0; simpa using this
    · simpa [hj0] using this
  · intro u hu
    obtain ⟨y, _, hy⟩ := List.mem_flatMap.1 hu
    exact h1 y u hy
  · intro v' w' ho' hg' _
    exact h v' w' (by simpa using ho') hg'

theorem recs_drop {α : Type} {k : Nat} {enc : α → List Value} {w : World} {b off : Nat} {l : List α} (h : RecsAt k enc w (some ⟨b, off, none⟩) l) (n : Nat) : RecsAt k enc w (some ⟨b, off + n * k, none⟩) (l.drop n) := by
  intro i s hi
  rw [List.getElem?_drop] at hi
  obtain ⟨b', off', ha, hb, hc⟩ := h _ s hi
  cases ha
  refine ⟨_, _, rfl, hb, fun j u hu => ?_⟩
  have := hc j u hu
  rw [Nat.add_mul] at this
  rw [show off + n * k + i * k + j = off + (n * k + i * k) + j by omega]
  exact this

theorem from_ok (d : Int) (N : Nat) (h : 1 ≤ N) : ∃ f : Nat, (d.tmod N + N).tmod N = (f : Int) ∧ f < N := by
  have t1 : -(N : Int) < d.tmod N := by have := Int.lt_tmod_of_pos d (b := (N : Int)) (by omega); omega
  have h1 : 0 ≤ (d.tmod N + N).tmod N := Int.tmod_nonneg _ (by omega)
  have h2 : (d.tmod N + N).tmod N < N := Int.tmod_lt_of_pos _ (by omega)
  exact ⟨((d.tmod N + N).tmod N).toNat, by omega, by omega⟩

/-- Guest under PolicyOrder: an error, or the guest fits. -/
theorem guest2_any {G : List Nat} {E : Nat → Addr} (W : World) (hE : EAt G E W) (i0 : 0 ∈ G) (i1 : 1 ∈ G) (i4 : 4 ∈ G) (s : Srv) (a : Option Addr) (t : List Tsk) (c : Nat) (ht : TsksAt W a t) (hm : t.length ≤ maxLen) :
    ∃ o : Option Nat, (∀ w, Gr W w → Calls Tryd.prog 15 #[.agg #[.int .i64 s.k, .int .i64 s.q, .int .i64 s.t], .int .i64 2, .slice a t.length c] w fun e w' => e = .returned (errV E o) ∧ Gr w w') ∧ (o = none → parOk s = true ∧ guestOk 2 t = true ∧ fitsO s t = true) := by
  cases hp : parOk s with
  | false => exact ⟨some 0, fun w g => guest_par s 2 a t c w (hE.gr g) i0 hp, fun h => by cases h⟩
  | true =>
    cases hg : guestOk 2 t with
    | false => exact ⟨some 4, fun w g => guest_bad s 2 a t c w (hE.gr g) i4 hp (ht.gr g) hm hg, fun h => by cases h⟩
    | true =>
      cases hf : fitsO s t with
      | false =>
        refine ⟨some 1, fun w g => ?_, fun h => by cases h⟩
        have := guestO_any s a t c w (hE.gr g) i1 hp (ht.gr g) hg
        rw [hf] at this
        exact this
      | true =>
        refine ⟨none, fun w g => ?_, fun _ => ⟨rfl, rfl, rfl⟩⟩
        have := guestO_any s a t c w (hE.gr g) i1 hp (ht.gr g) hg
        rw [hf] at this
        exact this

set_option maxRecDepth 100000 in
set_option maxHeartbeats 6400000 in
theorem admitFewer_try {G : List Nat} {E : Nat → Addr} (W : World) (hE : EAt G E W) (i0 : 0 ∈ G) (i1 : 1 ∈ G) (i3 : 3 ∈ G) (i4 : 4 ∈ G) (s : Srv) (b off lc : Nat) (l : List Srv) (ta : Option Addr) (tc : Nat) (t : List Tsk) (n : Int)
    (hl : SrvsAt W (some ⟨b, off, none⟩) l) (hlc : l.length ≤ lc) (hlm : lc ≤ maxLen) (hta : TsksAt W ta t) (htc : t.length ≤ tc) (htm : t.length * 32 ≤ 140737488351232) (htx : tc ≤ maxLen) (h1 : 1 ≤ l.length) (hk : kidsErr s l = none) :
    Calls Tryd.prog 5 #[.agg #[.int .i64 s.k, .int .i64 s.q, .int .i64 s.t, .slice (some ⟨b, off, none⟩) l.length lc, .slice ta t.length tc, .int .i64 n]] W fun e w' => e = .returned (.bool true) ∧ Gr W w' := by
  obtain ⟨i23, hi, hz0, hz1, hz2⟩ := info_parts Tryd.infoSrv
  obtain ⟨hp, hse, -, -⟩ := kids_parts hk
  obtain ⟨hal0, h8⟩ := srvErr_none hse
  have hm : l.length ≤ maxLen := by unfold maxLen; omega
  have gw := (((Gr.refl W).alloc (.cells #[.int .i64 s.k, .int .i64 s.q, .int .i64 s.t, .slice (some ⟨b, off, none⟩) l.length lc, .slice ta t.length tc, .int .i64 n] 48)).alloc (.cells #[.int .i64 s.k, .int .i64 s.q, .int .i64 s.t] 23)).drew
  have hal := alive12_any _ (hE.gr gw) i0 i1 i3
  have hki : ∀ w, Gr W w → Calls Tryd.prog 10 #[.agg #[.int .i64 s.k, .int .i64 s.q, .int .i64 s.t], .slice (some ⟨b, off, none⟩) l.length lc] w fun e w' => e = .returned .nilIface ∧ Gr w w' := fun w g => by
    have := kids_any s (some ⟨b, off, none⟩) l lc w (hE.gr g) i0 i1 i3 (hl.gr g) hm
    rw [hk] at this
    exact this
  obtain ⟨f, hfr, hfN⟩ := from_ok n l.length h1
  have t1 : -(l.length : Int) < n.tmod l.length := by have := Int.lt_tmod_of_pos n (b := (l.length : Int)) (by omega); omega
  have t2 : n.tmod l.length < l.length := Int.tmod_lt_of_pos n (by omega)
  have hfr2 : (n.tmod l.length + l.length) % (l.length : Int) = (f : Int) := by rw [← Int.tmod_eq_emod_of_nonneg (by omega)]; exact hfr
  have h00 : 0 < (l.length : Int) := by omega
  have h01 : ((l.length : Int) == 0) = false := by simpa using (by omega : ¬ l.length = 0)
  replace t1 := Lib.hid t1
  replace t2 := Lib.hid t2
  replace hfr := Lib.hid hfr
  replace hfr2 := Lib.hid hfr2
  obtain ⟨o, hgo, hgn⟩ := guest2_any W hE i0 i1 i4 s ta t tc hta (by omega)
  replace hgo := Lib.hid hgo
  replace hgn := Lib.hid hgn
  unfold maxLen at htx
  replace hal := Lib.hid hal
  replace hki := Lib.hid hki
  replace hp := Lib.hid hp
  replace hse := Lib.hid hse
  replace hk := Lib.hid hk
  replace hal0 := Lib.hid hal0
  unfold maxLen at hm
  go_enter Tryd.func5, Tryd.ntmps5
  go_wp2_with fail
  go_region
  go_wp2_with fail
  refine hal.out.mono ?_
  rintro e w1 ⟨rfl, g1⟩
  have gA := gw.trans g1
  have hB1 := ((Blk.new (W.alloc (.cells #[.int .i64 s.k, .int .i64 s.q, .int .i64 s.t, .slice (some ⟨b, off, none⟩) l.length lc, .slice ta t.length tc, .int .i64 n] 48)) #[.int .i64 s.k, .int .i64 s.q, .int .i64 s.t] 23).drew).gr g1
  have x0 : w1.cell? ⟨W.heap.size + 1, 0, none⟩ = some (.int .i64 s.k) := by have := hB1.cell (i := 0) rfl; simpa using this
  have x1 : w1.cell? ⟨W.heap.size + 1, 1, none⟩ = some (.int .i64 s.q) := by have := hB1.cell (i := 1) rfl; simpa using this
  have x2 : w1.cell? ⟨W.heap.size + 1, 2, none⟩ = some (.int .i64 s.t) := by have := hB1.cell (i := 2) rfl; simpa using this
  have zx : W.heap.size + 1 < w1.heap.size := by have := hB1.lt; simpa using this
  clear hB1 hal
  go_wp2_with fail
  refine (hki.out _ gA).mono ?_
  rintro e w2 ⟨rfl, g2⟩
  obtain ⟨c2, f2, s2⟩ := g2.cells
  have gB := gA.trans g2
  have k0 := c2 (W.heap.size + 1) 0 zx
  have k1 := c2 (W.heap.size + 1) 1 zx
  have k2 := c2 (W.heap.size + 1) 2 zx
  rw [x0] at k0
  rw [x1] at k1
  rw [x2] at k2
  have zy : W.heap.size + 1 < w2.heap.size := by omega
  clear c2 f2 x0 x1 x2
  have t1 := t1.out
  have t2 := t2.out
  have hfr := hfr.out
  have hfr2 := hfr2.out
  have hw : IntKind.i64.wrap (n.tmod l.length + l.length) = n.tmod l.length + l.length := by rw [IntKind.wrap_i64]; omega
  obtain ⟨x, hx⟩ := get_some l f hfN
  have hsp : l.take f ++ x :: l.drop (f + 1) = l := by
    obtain ⟨hh, rfl⟩ := List.getElem?_eq_some_iff.1 hx
    rw [List.getElem_cons_drop, List.take_append_drop]
  have hk2 : kidsErr s (l.take f ++ l.drop (f + 1)) = none := kids_fewer (x := x) (by rw [hsp]; exact hk.out)
  have hlen2 : (l.take f ++ l.drop (f + 1)).length + 1 = l.length := by rw [List.length_append, List.length_take, List.length_drop]; omega
  have hki2 : ∀ w a' n' c', Gr W w → SrvsAt w a' (l.take f ++ l.drop (f + 1)) → n' = (l.take f ++ l.drop (f + 1)).length → Calls Tryd.prog 10 #[.agg #[.int .i64 s.k, .int .i64 s.q, .int .i64 s.t], .slice a' n' c'] w fun e w' => e = .returned .nilIface ∧ Gr w w' := fun w a' n' c' g h' hn => by
    subst hn
    have := kids_any s a' (l.take f ++ l.drop (f + 1)) c' w (hE.gr g) i0 i1 i3 h' (by unfold maxLen; omega)
    rw [hk2] at this
    exact this
  have hlf : (l.take f).length = f := by rw [List.length_take]; omega
  have hlf2 : (l.take f ++ l.drop (f + 1)).length = l.length - 1 := by omega
  replace hlf := Lib.hid hlf
  replace hlf2 := Lib.hid hlf2
  replace hki2 := Lib.hid hki2
  replace hk2 := Lib.hid hk2
  replace hsp := Lib.hid hsp
  replace hx := Lib.hid hx
  replace hlen2 := Lib.hid hlen2
  have f0 : (0 : Int) ≤ (f : Int) := by omega
  have f1 : (f : Int) ≤ (lc : Int) := by omega
  have f2 : (f : Int) + 1 ≤ (l.length : Int) := by omega
  have f3 : (l.length : Int) ≤ (lc : Int) := by omega
  have hmx : lc ≤ 9223372036854775807 := by unfold maxLen at hlm; omega
  have hw1 : IntKind.i64.wrap ((f : Int) + 1) = (f : Int) + 1 := by rw [IntKind.wrap_i64]; omega
  obtain ⟨A, hA, hrA⟩ : ∃ A : Addr, (if lc = f + 1 then some (⟨b, off, none⟩ : Addr) else some ⟨b, off + (f + 1) * 3, none⟩) = some A ∧ ∀ w, Gr W w → RecsAt 3 Srv.cells w (some A) (l.drop (f + 1)) := by
    by_cases hce : lc = f + 1
    · refine ⟨⟨b, off, none⟩, if_pos hce, fun w g => ?_⟩
      have h0 : l.drop (f + 1) = [] := List.drop_eq_nil_of_le (by omega)
      rw [h0]
      exact fun i s h => by simp at h
    · exact ⟨⟨b, off + (f + 1) * 3, none⟩, if_neg hce, fun w g => recs_drop (srvs_recs (hl.gr g)) (f + 1)⟩
  replace hrA := Lib.hid hrA
  have f4 : (0 : Int) ≤ (f : Int) + 1 := by omega
  have hft : ((f : Int) + 1).toNat = f + 1 := by omega
  go_wp2_with fail
  go_region_held3 (fun w' => w'.cell? ⟨W.heap.size + 1, 0, none⟩ = some (.int .i64 s.k) ∧ w'.cell? ⟨W.heap.size + 1, 1, none⟩ = some (.int .i64 s.q) ∧ w'.cell? ⟨W.heap.size + 1, 2, none⟩ = some (.int .i64 s.t)) (simp (maxDischargeDepth := 8) [go_sem, *])
    (first
      | (refine step_append_recs (k := 3) (enc := Srv.cells) (by rfl) _ _ _ (by rfl) w2.heap.size 23 i23 _ 24 Tryd.underlying24 hi hz0 hz1 hz2 rfl (by decide) Srv.cells_len Srv.cells_one (.slice (some ⟨w2.heap.size, 0, none⟩) 0 0) [] (by rfl) ?hown ⟨b, off, none⟩ f lc (l.take f) ?hm (by rfl) ?hl ?h63 ?hby ?hba ?hK; (case hown => exact owns_empty _ _ 3 _ rfl _ (by first | exact Nat.le_refl _ | simp)); (case hm => rw [List.length_take]; omega); (case hl => exact recs_take (srvs_recs (hl.gr (by first | exact ((gB.drew).alloc _) | exact ((gB.alloc _).drew)))) f); (case h63 => simp; unfold maxLen; omega); (case hby => simp; omega); (case hba => simp); intro v1 w3 hown1 hgr1; have k3 := fun o => hgr1.cell_far ⟨W.heap.size + 1, o, none⟩ (by simp; omega) (by simp [Value.ownBlock]; omega); rw [List.nil_append] at hown1; have bl1 := own_block hown1; obtain ⟨a1, c1, hv1, _, _, _⟩ := recs_of_owns Srv.cells_len hown1; rw [hlf.out] at hv1; subst hv1; have g03 : Gr W w3 := (by first | exact ((gB.drew).alloc _).grown hgr1 (fun q hq => by simp [Value.ownBlock] at hq; omega) | exact ((gB.alloc _).drew).grown hgr1 (fun q hq => by simp [Value.ownBlock] at hq; omega)); have s3 : w2.heap.size ≤ w3.heap.size := (by have := hgr1.size; simp at this; omega); replace bl1 := Lib.hid bl1)
      | (refine step_append_recs (k := 3) (enc := Srv.cells) (by rfl) _ _ _ (by rfl) w2.heap.size 23 i23 _ 24 Tryd.underlying24 hi hz0 hz1 hz2 rfl (by decide) Srv.cells_len Srv.cells_one (.slice a1 f c1) (l.take f) (by rfl) hown1 A (l.length - (f + 1)) (lc - (f + 1)) (l.drop (f + 1)) ?jm (by rfl) ?jl ?j63 ?jby ?jba ?jK; (case jm => rw [List.length_drop]); (case jl => exact hrA.out _ g03); (case j63 => rw [List.length_take]; unfold maxLen; omega); (case jby => rw [List.length_take]; omega); (case jba => omega); intro v2 w4 hown2 hgr2; have k4 := fun o => hgr2.cell_far ⟨W.heap.size + 1, o, none⟩ (by show W.heap.size + 1 < _; omega) (by intro he; have := bl1.out _ he.symm; simp at this; omega); have s4 : w3.heap.size ≤ w4.heap.size := hgr2.size; have g04 : Gr W w4 := g03.grown hgr2 (fun q hq => by have := bl1.out q hq; omega); obtain ⟨a2, c2, hv2, hr2, _, _⟩ := recs_of_owns Srv.cells_len hown2; rw [hlf2.out] at hv2; subst hv2; have hr2' := recs_srvs hr2; replace hr2' := Lib.hid hr2'; clear hr2 hown2)
      | (go_at_call 10; (with_reducible refine (hki2.out w4 a2 (l.length - 1) c2 g04 hr2'.out hlf2.out.symm).mono ?_); rintro e w5 ⟨rfl, g5⟩; obtain ⟨c5, f5, s5⟩ := g5.cells; have k5 := fun o => c5 (W.heap.size + 1) o (by omega); have g05 : Gr W w5 := g04.trans g5)
      | fail)
  have y0 : w5.cell? ⟨W.heap.size + 1, 0, none⟩ = some (.int .i64 s.k) := by simp (maxDischargeDepth := 8) [go_sem, *]
  have y1 : w5.cell? ⟨W.heap.size + 1, 1, none⟩ = some (.int .i64 s.q) := by simp (maxDischargeDepth := 8) [go_sem, *]
  have y2 : w5.cell? ⟨W.heap.size + 1, 2, none⟩ = some (.int .i64 s.t) := by simp (maxDischargeDepth := 8) [go_sem, *]
  have zy5 : W.heap.size + 1 < w5.heap.size := by omega
  by_cases hT : 1 < t.length
  · have hT2 : (1 : Int) < (t.length : Int) := by omega
    have hgg := hgo.out w5 g05
    cases o with
    | some g0 =>
      replace hgg : Calls Tryd.prog 15 #[.agg #[.int .i64 s.k, .int .i64 s.q, .int .i64 s.t], .int .i64 2, .slice ta t.length tc] w5 fun e w' => e = .returned (errAt E g0) ∧ Gr w5 w' := hgg
      replace hgg := Lib.hid hgg
      go_wp2_with fail
      refine hgg.out.mono ?_
      rintro e w6 ⟨rfl, g6⟩
      go_wp2_with fail
      go_ret
      exact ⟨rfl, g05.trans g6⟩
    | none =>
      obtain ⟨_, hg2, hf2⟩ := hgn.out rfl
      replace hgg : Calls Tryd.prog 15 #[.agg #[.int .i64 s.k, .int .i64 s.q, .int .i64 s.t], .int .i64 2, .slice ta t.length tc] w5 fun e w' => e = .returned .nilIface ∧ Gr w5 w' := hgg
      replace hgg := Lib.hid hgg
      obtain ⟨N1, hN1⟩ : ∃ N1 : Nat, (t.length : Int) - 1 = (N1 : Int) := ⟨t.length - 1, by omega⟩
      have hN2 : 1 ≤ N1 := by omega
      obtain ⟨q, hqr, hqN⟩ := from_ok n N1 hN2
      have u1 : -(N1 : Int) < n.tmod N1 := by have := Int.lt_tmod_of_pos n (b := (N1 : Int)) (by omega); omega
      have u2 : n.tmod N1 < N1 := Int.tmod_lt_of_pos n (by omega)
      have hq3 : n.tmod N1 + (t.length : Int) - 1 = n.tmod N1 + N1 := by omega
      have hq2 : (n.tmod N1 + N1) % (N1 : Int) = (q : Int) := by rw [← Int.tmod_eq_emod_of_nonneg (by omega)]; exact hqr
      have hq5 : (1 : Int) + (q : Int) = ((q + 1 : Nat) : Int) := by omega
      obtain ⟨hg5, hf5⟩ := guest_first (s := s) (n := q + 1) (by omega) (by omega) hg2 hf2
      have hgf : ∀ w, Gr W w → Calls Tryd.prog 15 #[.agg #[.int .i64 s.k, .int .i64 s.q, .int .i64 s.t], .int .i64 2, .slice ta (q + 1) (q + 1)] w fun e w' => e = .returned .nilIface ∧ Gr w w' := fun w g => by
        have := guestO_any s ta (t.take (q + 1)) (q + 1) w (hE.gr g) i1 hp.out (recs_tsks (recs_take (tsks_recs (hta.gr g)) (q + 1))) hg5
        rw [hf5, List.length_take, Nat.min_eq_left (by omega)] at this
        exact this
      replace hgf := Lib.hid hgf
      replace hg2 := Lib.hid hg2
      replace hf2 := Lib.hid hf2
      replace hg5 := Lib.hid hg5
      replace hf5 := Lib.hid hf5
      go_wp2_with fail
      refine hgg.out.mono ?_
      rintro e w6 ⟨rfl, g6⟩
      have g06 := g05.trans g6
      have y0' : w6.cell? ⟨W.heap.size + 1, 0, none⟩ = some (.int .i64 s.k) := by rw [g6.cells.1 _ _ zy5]; exact y0
      have y1' : w6.cell? ⟨W.heap.size + 1, 1, none⟩ = some (.int .i64 s.q) := by rw [g6.cells.1 _ _ zy5]; exact y1
      have y2' : w6.cell? ⟨W.heap.size + 1, 2, none⟩ = some (.int .i64 s.t) := by rw [g6.cells.1 _ _ zy5]; exact y2
      have q0 := GrW.cell y0'
      have q1 := GrW.cell y1'
      have q2 := GrW.cell y2'
      have v1 : (0 : Int) ≤ (q : Int) + 1 := by omega
      have v2 : (q : Int) + 1 ≤ (tc : Int) := by omega
      have v3 : ((q : Int) + 1).toNat = q + 1 := by omega
      go_wp2_with fail
      refine wp_region_grows (by kernel_rfl) (by kernel_rfl) ?_
      repeat (any_goals (first | go_big_quiet_step (first | (exact Calls.grows (hgf.out _ (g06.trans (by exact GrW.gr _))))) | quiet_step (first | (exact Calls.grows (hgf.out _ (g06.trans (by exact GrW.gr _)))))))
      refine wpQuiet_nil ?_
      intro w7 hwq
      have g7 := GrW.of hwq
      clear hwq
      obtain ⟨c7, f7, s7⟩ := g7.cells
      try simp only [size_drewN] at c7 f7 s7
      try simp only [World.size_alloc] at c7 f7 s7
      try simp only [World.size_drew] at c7 f7 s7
      try simp only [World.size_setCell] at c7 f7 s7
      go_wp2_with fail
      go_ret
      exact ⟨rfl, g06.trans g7⟩
  · have hT2 : (t.length : Int) ≤ 1 := by omega
    go_wp2_with fail
    go_ret
    exact ⟨rfl, g05⟩
end Go.Proofs.YtmookdgeblcjnaaDoor
