/- From what a row's list of sentinels gives to the walks' premise; openers of arguments; a law's post. -/
import Derived.Test.YtanfgipanfjcoaaGreatDoorJ1
import Derived.ProofKit
import Derived.OpenShut
import Derived.Deep.DeepHandedRow
import Derived.Deep.DeepWitnessRowRef
import Derived.LaidLaws
import Derived.LaidMore
import Derived.MakeChecks
import Derived.Deep.Slices
import Derived.Deep.Fields
import Derived.Lib.SmallJoins
import Derived.Test.YtanfgipanfjcoaaGreatDoorJ3
import Derived.Test.YtanfgipanfjcoaaGreatDoorJ12
namespace Go.Proofs.YtanfgipanfjcoaaGreatDoor
open Go.ChangeShapes Go.WideShapes Go.ChangeAt Go.RowKit Go.Deep

theorem own : ownKnob Tryz.prog.godebug = none := by kernel_rfl
theorem laidOut : laidOutB Tryz.prog = true := by kernel_rfl
theorem star : "*" ++ "errors.errorString" = "*errors.errorString" := by decide
theorem rowErr (u : TypeId) (h : Tryz.prog.typeName? 3 u = some "*errors.errorString") : u = 195 :=
  typeName_ptr_named (nm := "errors.errorString") (by rw [star]; kernel_rfl) (by kernel_rfl) (by decide) u (by rw [star]; exact h)
theorem cellsErr : Tryz.prog.cellsOf 212 = 1 := by kernel_rfl
theorem cellsStr : Tryz.prog.cellsOf 9 = 1 := by kernel_rfl

/-- A listed sentinel. -/
def sent (x : Nat × String × List UInt8) : String × DataW Unit := (x.2.1, .iface "*errors.errorString" (.ptr (.agg [.lit (.string x.2.2)])))
set_option maxRecDepth 100000 in
theorem sents_read {W : World} (L : List (Nat × String × List UInt8)) (hok : (L.all fun x => Tryz.prog.globalNamed x.2.1 == some x.1 && (Tryz.prog.globals[x.1]?).map (·.type) == some 46) = true) : ∀ ps, DataW.LaidVars Tryz.prog W (L.map sent) ps →
    (∀ b off, MemPlace.cell b off ∈ ps → (∃ c t, W.heap[b]? = some (.cells c t (0, 0))) ∧ ∀ u v, W.cell? ⟨b, off, none⟩ = some (.iface u v) → Value.okWide Tryz.prog W .any 0 u v) →
    ps.Nodup → ∃ E : Nat → Addr, (∀ x ∈ L, W.cell? ⟨x.1, 0, none⟩ = some (errAt E x.1) ∧ MemPlace.cell (E x.1).block (E x.1).off ∈ ps ∧ (E x.1).spot = none ∧ MemPlace.cell x.1 0 ∈ ps) ∧ ∀ x ∈ L, ∀ y ∈ L, x.1 ≠ y.1 → E x.1 ≠ E y.1 := by
  induction L with
  | nil => intro ps _ _ _; exact ⟨fun _ => ⟨0, 0, none⟩, (fun _ h => by cases h), (fun _ h => by cases h)⟩
  | cons x r ih =>
    intro ps h hrows hnd
    simp only [List.all_cons, Bool.and_eq_true] at hok
    obtain ⟨hx, hr⟩ := hok
    simp only [beq_iff_eq] at hx
    obtain ⟨g0, t0, cs0, f0, p0, q0, hg0, ht0, hv0, hd0, hq, e0⟩ := h
    obtain rfl := Option.some.inj (hx.1.symm.trans hg0)
    obtain rfl := Option.some.inj (hx.2.symm.trans ht0)
    obtain ⟨l0⟩ := cs0
    have ok0 : ∀ u v, l0 = [.iface u v] → Value.okWide Tryz.prog W .any 0 u v := fun u v e => by
      subst e
      subst e0
      exact (hrows x.1 0 (by simp [MemPlace.row])).2 u v (by simpa using World.var?_cell hg0 hv0 0)
    obtain ⟨a0, s0, rfl, hc0, hs0, hz0, rfl⟩ := errorString_of_trod Tryz.underlying46 rowErr Tryz.underlying195 Tryz.underlying212 rfl rfl Tryz.underlying9 cellsErr cellsStr hd0 ok0
    have hspot : a0.spot = none := by
      unfold World.cell? at hc0
      split at hc0
      · split at hc0
        · cases hc0
        · rename_i hh; simpa using hh
      · cases hc0
    subst e0
    have m0 : MemPlace.cell a0.block a0.off ∈ MemPlace.row ⟨x.1, 0, none⟩ 1 ++ MemPlace.row a0 1 ++ q0 := by simp [MemPlace.row]
    have m1 : MemPlace.cell x.1 0 ∈ MemPlace.row ⟨x.1, 0, none⟩ 1 ++ MemPlace.row a0 1 ++ q0 := by simp [MemPlace.row]
    have sub : ∀ p ∈ q0, p ∈ MemPlace.row ⟨x.1, 0, none⟩ 1 ++ MemPlace.row a0 1 ++ q0 := fun p hp => List.mem_append_right _ hp
    have ndq : q0.Nodup := List.Nodup.sublist (List.sublist_append_right _ _) hnd
    obtain ⟨E, hE, hne⟩ := ih hr q0 hq (fun b off hm => hrows b off (sub _ hm)) ndq
    have notin : ∀ y ∈ r, E y.1 ≠ a0 := fun y hy e => by
      have hm := (hE y hy).2.1
      rw [e] at hm
      rw [List.append_assoc, List.nodup_append, List.nodup_append] at hnd
      exact hnd.2.1.2.2 _ (by simp [MemPlace.row]) _ hm rfl
    refine ⟨fun g => if g = x.1 then a0 else E g, fun y hy => ?_, fun y hy z hz hyz => ?_⟩
    · by_cases hyx : y.1 = x.1
      · simp only [hyx, if_true, errAt]
        exact ⟨by simpa using World.var?_cell hg0 hv0 0, m0, hspot, m1⟩
      · have hyr : y ∈ r := by
          rcases List.mem_cons.1 hy with rfl | h
          · exact absurd rfl hyx
          · exact h
        have := hE y hyr
        simp only [hyx, if_false, errAt]
        exact ⟨this.1, sub _ this.2.1, this.2.2.1, sub _ this.2.2.2⟩
    · have inr : ∀ y ∈ x :: r, y.1 ≠ x.1 → y ∈ r := fun y hy hyx => by
        rcases List.mem_cons.1 hy with rfl | h
        · exact absurd rfl hyx
        · exact h
      by_cases hyx : y.1 = x.1
      · have hzx : z.1 ≠ x.1 := fun e => hyz (hyx.trans e.symm)
        simp only [hyx, hzx, if_true, if_false]
        exact fun e => notin z (inr z hz hzx) e.symm
      · by_cases hzx : z.1 = x.1
        · simp only [hyx, hzx, if_true, if_false]
          exact notin y (inr y hy hyx)
        · simp only [hyx, hzx, if_false]
          exact hne y (inr y hy hyx) z (inr z hz hzx) hyz

theorem eat_of_laid {W : World} (L : List (Nat × String × List UInt8)) (hok : (L.all fun x => Tryz.prog.globalNamed x.2.1 == some x.1 && (Tryz.prog.globals[x.1]?).map (·.type) == some 46) = true) (hpl : ((L.map sent).all fun x => x.2.handleName?.isNone) = true) (h : laidMetH Tryz.prog (L.map sent) W) :
    ∃ E, EAt (L.map (·.1)) E W := by
  rw [MakeChecks.laidMetH_plain _ _ _ hpl] at h
  obtain ⟨ps, hv, hnd, hrows⟩ := h
  obtain ⟨E, hE, hne⟩ := sents_read L hok ps hv hrows hnd
  have get : ∀ g, g ∈ L.map (·.1) → ∃ x ∈ L, x.1 = g := fun g hg => by simpa using hg
  have lt_of : ∀ b off, MemPlace.cell b off ∈ ps → b < W.heap.size := fun b off hm => by
    obtain ⟨c, t, e⟩ := (hrows b off hm).1
    exact (Array.getElem?_eq_some_iff.1 e).1
  refine ⟨E, ⟨fun g hg => ?_, fun g hg => ?_, fun g hg => ?_, fun g hg => ?_, fun g k hg hk hn => ?_⟩⟩
  · obtain ⟨x, hx, rfl⟩ := get g hg; exact lt_of _ _ (hE x hx).2.2.2
  · obtain ⟨x, hx, rfl⟩ := get g hg; exact lt_of _ _ (hE x hx).2.1
  · obtain ⟨x, hx, rfl⟩ := get g hg; exact (hE x hx).1
  · obtain ⟨x, hx, rfl⟩ := get g hg; exact (hrows _ _ (hE x hx).2.1).1
  · obtain ⟨x, hx, rfl⟩ := get g hg; obtain ⟨y, hy, rfl⟩ := get k hk; exact hne x hx y hy hn
section
variable {H : Type} {enc : TypeId × Value → H} {P : Program} {w : World} {base : Nat} {spare : Nat → Bool} {held : Bool}
theorem open_slice_fields {t e : TypeId} {fs : Array Field} {fuel : Nat} {cs : List Value} {x : DataW H × List MemPlace} (ht : P.underlying t = some (.slice e)) (he : P.underlying e = some (.struct fs))
    (hone : oneCellFields P fs = true) (hC : P.cellsOf e = fs.size) (h : DataW.trod enc P w base spare held fuel t cs = some x) :
    (cs = [.slice none 0 0] ∧ x = (.nil, [])) ∨
    ∃ (a : Addr) (len cap m : Nat) (D : Nat → DataW H) (Pl : Nat → List MemPlace), cs = [.slice (some a) len cap] ∧ base ≤ a.block ∧ len ≤ cap ∧ cap ≤ maxLen ∧ m = (if spare a.block then cap else len) ∧
      x = (.slice ((List.range len).map D) ((List.range (m - len)).map fun j => D (len + j)), MemPlace.row a (m * fs.size) ++ (List.range m).flatMap Pl) ∧
      ∀ i, i < m → ∃ (ys : List (DataW H × List MemPlace)) (n : Nat), D i = .agg (ys.map (·.1)) ∧ Pl i = ys.flatMap (·.2) ∧ ys.length = fs.size ∧
        ∀ (j : Nat) (f : Field), fs[j]? = some f → ∃ (v : Value) (y : DataW H × List MemPlace), w.cell? (a.add (i * fs.size + j)) = some v ∧ ys[j]? = some y ∧ DataW.trod enc P w base spare held n f.type [v] = some y := by
  rcases open_slice ht h with h0 | ⟨a, len, cap, m, n, D, Pl, hcs, hb, hl, hm, hmm, hx, hi⟩
  · exact .inl h0
  · refine .inr ⟨a, len, cap, m, D, Pl, hcs, hb, hl, hm, hmm, by rw [hC] at hx; exact hx, fun i him => ?_⟩
    obtain ⟨cs', hc, ht'⟩ := hi i him
    rw [hC] at hc
    obtain ⟨ys, n', hn', hy, hlen, hyl, hf⟩ := DataW.trod_struct he ht'
    obtain ⟨_, hcl, hat⟩ := World.cells?_some hc
    simp only [Prod.mk.injEq] at hy
    refine ⟨ys, n', hy.1, hy.2, hyl, fun j f hj => ?_⟩
    obtain ⟨ho, hk⟩ := hone_of hone j f hj
    have hjl : j < fs.size := (Array.getElem?_eq_some_iff.1 hj).1
    have hcell := hat j hjl
    have hv : cs'[j]? = some (cs'[j]'(by omega)) := List.getElem?_eq_getElem (by omega)
    have h1 := hf j f hj
    rw [ho, hk] at h1
    have hone' : (cs'.drop j).take 1 = [cs'[j]'(by omega)] := by
      rw [List.drop_eq_getElem_cons (by omega)]
      rfl
    rw [hone'] at h1
    have hys : ys[j]? = some (ys[j]'(by omega)) := List.getElem?_eq_getElem (by omega)
    refine ⟨_, _, ?_, hys, h1.trans hys⟩
    rw [← Go.Deep.add_add, hcell, hv]
end
end Go.Proofs.YtanfgipanfjcoaaGreatDoor
/- Openers of a law's arguments; a law's post. -/
namespace Go.Proofs.YtanfgipanfjcoaaGreatDoor
open Go.ChangeShapes Go.WideShapes Go.ChangeAt Go.RowKit Go.Deep Go.Joins

def I64 (x : Int) : Prop := -9223372036854775808 ≤ x ∧ x ≤ 9223372036854775807
theorem i64_of_wf {x : Int} (h : (Lit.int .i64 x).wf = true) : I64 x := by
  simp [Lit.wf, IntKind.min, IntKind.max, IntKind.signed, IntKind.bits] at h
  exact ⟨by omega, by omega⟩
theorem cell_lt {W : World} {a : Addr} {v : Value} (h : W.cell? a = some v) : a.block < W.heap.size ∧ a = ⟨a.block, a.off, none⟩ := by
  unfold World.cell? at h
  split at h
  · rename_i c t f hb
    refine ⟨(Array.getElem?_eq_some_iff.1 hb).1, ?_⟩
    split at h
    · cases h
    · rename_i hs
      obtain ⟨b, o, s⟩ := a
      simp at hs
      simp [hs]
  · cases h

theorem add_plain {W : World} {a : Addr} {n : Nat} {v : Value} (h : W.cell? (a.add (0 * n)) = some v) : ∃ b o, a = ⟨b, o, none⟩ := by
  rw [Nat.zero_mul] at h
  have : a.add 0 = a := by simp [Addr.add]
  rw [this] at h
  exact ⟨_, _, (cell_lt h).2⟩
theorem add_mk (b o n : Nat) : (⟨b, o, none⟩ : Addr).add n = ⟨b, o + n, none⟩ := by
  unfold Addr.add
  by_cases h : n = 0 <;> simp [h]

section
variable {H : Type} {enc : TypeId × Value → H} {W : World}

set_option maxRecDepth 100000 in
theorem open_srvs {base : Nat} {v : Value} {d : DataW H} {p : List MemPlace} (hval : Value.okWide Tryz.prog W .any base 48 v) (h : DataW.Trod enc Tryz.prog W 0 (fun _ => true) true 48 v d p) :
    ∃ (a : Option Addr) (c : Nat) (l : List Srv), v = .slice a l.length c ∧ SrvsAt W a l ∧ (a = none → c = 0) ∧ ((d.weights Tryz.prog 48).all (· ≤ reachBytes) = true → l.length * 24 ≤ 140737488351232) ∧ ∀ s ∈ l, I64 s.k ∧ I64 s.q ∧ I64 s.t := by
  obtain ⟨a0, len, cap, rfl⟩ := okWide_slice Tryz.underlying48 hval
  obtain ⟨fuel, hf⟩ := h
  rcases open_slice_fields Tryz.underlying48 Tryz.underlying29 (by kernel_rfl) (by kernel_rfl) hf with ⟨hcs, _⟩ | ⟨a, len', cap', m, D, Pl, hcs, _, hl, hm, hmm, hx, hi⟩
  · simp [Value.cells] at hcs
    obtain ⟨rfl, rfl, rfl⟩ := hcs
    exact ⟨none, 0, [], rfl, (fun i s hs => by simp at hs), (fun _ => rfl), (fun _ => Nat.zero_le _), (fun _ h => by cases h)⟩
  · simp [Value.cells] at hcs
    obtain ⟨rfl, rfl, rfl⟩ := hcs
    simp only [if_true] at hmm
    subst hmm
    have each : ∀ i, i < len → ∃ s : Srv, (W.cell? (a.add (i * 3)) = some (.int .i64 s.k) ∧ W.cell? (a.add (i * 3 + 1)) = some (.int .i64 s.q) ∧ W.cell? (a.add (i * 3 + 2)) = some (.int .i64 s.t)) ∧ I64 s.k ∧ I64 s.q ∧ I64 s.t := fun i h => by
      obtain ⟨ys, n, _, _, _, hg⟩ := hi i (by omega)
      obtain ⟨v0, y0, c0, _, t0⟩ := hg 0 _ rfl
      obtain ⟨v1, y1, c1, _, t1⟩ := hg 1 _ rfl
      obtain ⟨v2, y2, c2, _, t2⟩ := hg 2 _ rfl
      obtain ⟨k, e0, _, w0⟩ := DataW.trod_int Tryz.underlying3 t0
      obtain ⟨q, e1, _, w1⟩ := DataW.trod_int Tryz.underlying3 t1
      obtain ⟨t, e2, _, w2⟩ := DataW.trod_int Tryz.underlying3 t2
      simp at e0 e1 e2
      subst e0 e1 e2
      exact ⟨⟨k, q, t⟩, ⟨c0, c1, c2⟩, i64_of_wf w0, i64_of_wf w1, i64_of_wf w2⟩
    obtain ⟨f, hf'⟩ := choose_lt (p := fun i (s : Srv) => (W.cell? (a.add (i * 3)) = some (.int .i64 s.k) ∧ W.cell? (a.add (i * 3 + 1)) = some (.int .i64 s.q) ∧ W.cell? (a.add (i * 3 + 2)) = some (.int .i64 s.t)) ∧ I64 s.k ∧ I64 s.q ∧ I64 s.t) each
    refine ⟨some a, m, (List.range len).map f, by simp, fun i s hs => ?_, (fun h => by cases h), fun hw => ?_, fun s hs => ?_⟩
    · simp only [List.getElem?_map, Option.map_eq_some_iff] at hs
      obtain ⟨j, hj, rfl⟩ := hs
      obtain ⟨hj0, hj2⟩ := List.getElem?_eq_some_iff.1 hj
      have hj1 : i < len := by simpa using hj0
      obtain rfl : i = j := by simpa using hj2
      obtain ⟨⟨c0, c1, c2⟩, _⟩ := hf' _ hj1
      obtain ⟨b, o, rfl⟩ := add_plain (hf' 0 (by omega)).1.1
      rw [add_mk] at c0 c1 c2
      exact ⟨b, o, rfl, (cell_lt c0).1, c0, by rw [Nat.add_assoc]; exact c1, by rw [Nat.add_assoc]; exact c2⟩
    · simp only [Prod.mk.injEq] at hx
      obtain ⟨rfl, _⟩ := hx
      have hby : Tryz.prog.bytesOf 29 = 24 := by kernel_rfl
      simp only [DataW.weights, Tryz.underlying48, List.all_cons, Bool.and_eq_true, List.length_map, List.length_range, hby, reachBytes] at hw
      simp only [List.length_map, List.length_range]
      have := of_decide_eq_true hw.1
      omega
    · simp only [List.mem_map, List.mem_range] at hs
      obtain ⟨i, hi', rfl⟩ := hs
      exact (hf' i hi').2

set_option maxRecDepth 100000 in
theorem open_tsks {base : Nat} {v : Value} {d : DataW H} {p : List MemPlace} (hval : Value.okWide Tryz.prog W .any base 30 v) (h : DataW.Trod enc Tryz.prog W 0 (fun _ => true) true 30 v d p) :
    ∃ (a : Option Addr) (c : Nat) (l : List Tsk), v = .slice a l.length c ∧ TsksAt W a l ∧ (a = none → c = 0) ∧ ((d.weights Tryz.prog 30).all (· ≤ reachBytes) = true → l.length * 32 ≤ 140737488351232) ∧ ∀ s ∈ l, I64 s.c ∧ I64 s.p ∧ I64 s.d ∧ I64 s.s := by
  obtain ⟨a0, len, cap, rfl⟩ := okWide_slice Tryz.underlying30 hval
  obtain ⟨fuel, hf⟩ := h
  rcases open_slice_fields Tryz.underlying30 Tryz.underlying41 (by kernel_rfl) (by kernel_rfl) hf with ⟨hcs, _⟩ | ⟨a, len', cap', m, D, Pl, hcs, _, hl, hm, hmm, hx, hi⟩
  · simp [Value.cells] at hcs
    obtain ⟨rfl, rfl, rfl⟩ := hcs
    exact ⟨none, 0, [], rfl, (fun i s hs => by simp at hs), (fun _ => rfl), (fun _ => Nat.zero_le _), (fun _ h => by cases h)⟩
  · simp [Value.cells] at hcs
    obtain ⟨rfl, rfl, rfl⟩ := hcs
    simp only [if_true] at hmm
    subst hmm
    have each : ∀ i, i < len → ∃ s : Tsk, (W.cell? (a.add (i * 4)) = some (.int .i64 s.c) ∧ W.cell? (a.add (i * 4 + 1)) = some (.int .i64 s.p) ∧ W.cell? (a.add (i * 4 + 2)) = some (.int .i64 s.d) ∧ W.cell? (a.add (i * 4 + 3)) = some (.int .i64 s.s)) ∧ I64 s.c ∧ I64 s.p ∧ I64 s.d ∧ I64 s.s := fun i h => by
      obtain ⟨ys, n, _, _, _, hg⟩ := hi i (by omega)
      obtain ⟨v0, y0, c0, _, t0⟩ := hg 0 _ rfl
      obtain ⟨v1, y1, c1, _, t1⟩ := hg 1 _ rfl
      obtain ⟨v2, y2, c2, _, t2⟩ := hg 2 _ rfl
      obtain ⟨v3, y3, c3, _, t3⟩ := hg 3 _ rfl
      obtain ⟨k, e0, _, w0⟩ := DataW.trod_int Tryz.underlying3 t0
      obtain ⟨q, e1, _, w1⟩ := DataW.trod_int Tryz.underlying3 t1
      obtain ⟨t, e2, _, w2⟩ := DataW.trod_int Tryz.underlying3 t2
      obtain ⟨u, e3, _, w3⟩ := DataW.trod_int Tryz.underlying3 t3
      simp at e0 e1 e2 e3
      subst e0 e1 e2 e3
      exact ⟨⟨k, q, t, u⟩, ⟨c0, c1, c2, c3⟩, i64_of_wf w0, i64_of_wf w1, i64_of_wf w2, i64_of_wf w3⟩
    obtain ⟨f, hf'⟩ := choose_lt (p := fun i (s : Tsk) => (W.cell? (a.add (i * 4)) = some (.int .i64 s.c) ∧ W.cell? (a.add (i * 4 + 1)) = some (.int .i64 s.p) ∧ W.cell? (a.add (i * 4 + 2)) = some (.int .i64 s.d) ∧ W.cell? (a.add (i * 4 + 3)) = some (.int .i64 s.s)) ∧ I64 s.c ∧ I64 s.p ∧ I64 s.d ∧ I64 s.s) each
    refine ⟨some a, m, (List.range len).map f, by simp, fun i s hs => ?_, (fun h => by cases h), fun hw => ?_, fun s hs => ?_⟩
    · simp only [List.getElem?_map, Option.map_eq_some_iff] at hs
      obtain ⟨j, hj, rfl⟩ := hs
      obtain ⟨hj0, hj2⟩ := List.getElem?_eq_some_iff.1 hj
      have hj1 : i < len := by simpa using hj0
      obtain rfl : i = j := by simpa using hj2
      obtain ⟨⟨c0, c1, c2, c3⟩, _⟩ := hf' _ hj1
      obtain ⟨b, o, rfl⟩ := add_plain (hf' 0 (by omega)).1.1
      rw [add_mk] at c0 c1 c2 c3
      exact ⟨b, o, rfl, (cell_lt c0).1, c0, by rw [Nat.add_assoc]; exact c1, by rw [Nat.add_assoc]; exact c2, by rw [Nat.add_assoc]; exact c3⟩
    · simp only [Prod.mk.injEq] at hx
      obtain ⟨rfl, _⟩ := hx
      have hby : Tryz.prog.bytesOf 41 = 32 := by kernel_rfl
      simp only [DataW.weights, Tryz.underlying30, List.all_cons, Bool.and_eq_true, List.length_map, List.length_range, hby, reachBytes] at hw
      simp only [List.length_map, List.length_range]
      have := of_decide_eq_true hw.1
      omega
    · simp only [List.mem_map, List.mem_range] at hs
      obtain ⟨i, hi', rfl⟩ := hs
      exact (hf' i hi').2

set_option maxRecDepth 100000 in
theorem open_srv {base : Nat} {v : Value} {d : DataW H} {p : List MemPlace} (hval : Value.okWide Tryz.prog W .any base 29 v) (h : DataW.Trod enc Tryz.prog W 0 (fun _ => true) true 29 v d p) :
    ∃ s : Srv, v = .agg #[.int .i64 s.k, .int .i64 s.q, .int .i64 s.t] ∧ I64 s.k ∧ I64 s.q ∧ I64 s.t := by
  obtain ⟨v0, v1, v2, y0, y1, y2, n, rfl, _, _, t0, t1, t2⟩ := open_agg3 Tryz.underlying29 (by kernel_rfl) (by kernel_rfl) hval h
  obtain ⟨k, e0, _, w0⟩ := DataW.trod_int Tryz.underlying3 t0
  obtain ⟨q, e1, _, w1⟩ := DataW.trod_int Tryz.underlying3 t1
  obtain ⟨t, e2, _, w2⟩ := DataW.trod_int Tryz.underlying3 t2
  simp at e0 e1 e2
  subst e0 e1 e2
  exact ⟨⟨k, q, t⟩, rfl, i64_of_wf w0, i64_of_wf w1, i64_of_wf w2⟩

set_option maxRecDepth 100000 in
theorem open_tsk {base : Nat} {v : Value} {d : DataW H} {p : List MemPlace} (hval : Value.okWide Tryz.prog W .any base 41 v) (h : DataW.Trod enc Tryz.prog W 0 (fun _ => true) true 41 v d p) :
    ∃ s : Tsk, v = .agg #[.int .i64 s.c, .int .i64 s.p, .int .i64 s.d, .int .i64 s.s] ∧ I64 s.c ∧ I64 s.p ∧ I64 s.d ∧ I64 s.s := by
  obtain ⟨v0, v1, v2, v3, y0, y1, y2, y3, n, rfl, _, _, t0, t1, t2, t3⟩ := open_agg4 Tryz.underlying41 (by kernel_rfl) (by kernel_rfl) hval h
  obtain ⟨k, e0, _, w0⟩ := DataW.trod_int Tryz.underlying3 t0
  obtain ⟨q, e1, _, w1⟩ := DataW.trod_int Tryz.underlying3 t1
  obtain ⟨t, e2, _, w2⟩ := DataW.trod_int Tryz.underlying3 t2
  obtain ⟨u, e3, _, w3⟩ := DataW.trod_int Tryz.underlying3 t3
  simp at e0 e1 e2 e3
  subst e0 e1 e2 e3
  exact ⟨⟨k, q, t, u⟩, rfl, i64_of_wf w0, i64_of_wf w1, i64_of_wf w2, i64_of_wf w3⟩

set_option maxRecDepth 100000 in
theorem open_i64 {base : Nat} {v : Value} {d : DataW H} {p : List MemPlace} (hval : Value.okWide Tryz.prog W .any base 3 v) (h : DataW.Trod enc Tryz.prog W 0 (fun _ => true) true 3 v d p) : ∃ n, v = .int .i64 n ∧ I64 n := by
  obtain ⟨n, rfl, _, _, hw⟩ := open_int Tryz.underlying3 hval h
  exact ⟨n, rfl, i64_of_wf hw⟩

/-- The arguments read again. -/
theorem all_again {W' : World} (hb : Gr W W') : ∀ (ts : List TypeId) (vs : List Value) (ds : List (DataW H)) (p : List MemPlace),
    (ts.all fun t => Tryz.prog.readableRec t && decide (t < Tryz.prog.types.size)) = true → (∀ x ∈ p, x.block < W.heap.size) →
    DataW.TrodAll enc Tryz.prog W 0 (fun _ => true) true ts vs ds p → DataW.TrodAll enc Tryz.prog W' 0 (fun b => decide (b < W.heap.size)) true ts vs ds p := by
  intro ts
  induction ts with
  | nil =>
    intro vs ds p _ _ h
    obtain ⟨rfl, rfl, rfl⟩ := trodAll_nil h
    exact rfl
  | cons t ts ih =>
    intro vs ds p hts hp h
    simp only [List.all_cons, Bool.and_eq_true, decide_eq_true_eq] at hts
    obtain ⟨v, vs', d, ds', p1, q, rfl, rfl, rfl, h1, h2⟩ := trodAll_cons h
    exact trodAll_cons_mk (Below.trod laidOut hts.1.1 hts.1.2 h1 hb (fun x hx => hp x (List.mem_append_left _ hx))) (ih vs' ds' q (by simpa using hts.2) (fun x hx => hp x (List.mem_append_right _ hx)) h2)

/-- A LAW's POST: it returned true, and what was there is there as it was. -/
theorem post_law {f : Func} {s : ChangeSpec} {W' : World} {args : Array Value} {ds gs : List (DataW H)} {before : List MemPlace}
    (hps : (f.params.toList.all fun t => Tryz.prog.readableRec t && decide (t < Tryz.prog.types.size)) = true) (hrt : f.resultTypes = #[4]) (hvs : s.vars = [])
    (hfn : (s.fn H ds).results = [.lit (.bool true)] ∧ (s.fn H ds).args = ds ∧ (s.fn H ds).vars = [])
    (hW : DataW.Whole enc Tryz.prog f.params.toList s.vars false W args.toList ds gs before) (hb : Gr W W') :
    s.post enc Tryz.prog f false true false false W args (.bool true) W' := by
  have hlt := hW.lt
  have hW' := hW
  obtain ⟨p, q, hA, hV, rfl, hfz, hnd⟩ := hW
  rw [hvs] at hV
  obtain ⟨rfl, rfl⟩ := trodVars_none hV
  refine ⟨ds, [], p ++ [], [], p, [], hW', ?_, ?_, ?_, hb.frame _, fun h => by cases h⟩
  · rw [List.append_nil, hfn.1, hrt]
    exact trodAll_mk1 (shut_bool Tryz.underlying4 _)
  · rw [List.append_nil, hfn.2.1]
    exact all_again hb _ _ _ _ hps (fun x hx => hlt x (by simpa using hx)) hA
  · rw [List.append_nil, hfn.2.2, hvs]
    rfl
end
end Go.Proofs.YtanfgipanfjcoaaGreatDoor
/- Law 12's Asked: its opener. -/
namespace Go.Proofs.YtanfgipanfjcoaaGreatDoor
open Go.ChangeShapes Go.WideShapes Go.ChangeAt Go.RowKit Go.Deep Go.Joins
section
variable {H : Type} {enc : TypeId × Value → H} {W : World}

set_option maxRecDepth 100000 in
theorem srvs_of_trod {fuel : Nat} {cs : List Value} {x : DataW H × List MemPlace} (h : DataW.trod enc Tryz.prog W 0 (fun _ => true) true fuel 48 cs = some x) :
    ∃ (a : Option Addr) (c : Nat) (l : List Srv), cs = [.slice a l.length c] ∧ SrvsAt W a l ∧ (a = none → c = 0) ∧ l.length ≤ c ∧ c ≤ maxLen ∧ ((x.1.weights Tryz.prog 48).all (· ≤ reachBytes) = true → l.length * 24 ≤ 140737488351232) ∧ ∀ s ∈ l, I64 s.k ∧ I64 s.q ∧ I64 s.t := by
  rcases open_slice_fields Tryz.underlying48 Tryz.underlying29 (by kernel_rfl) (by kernel_rfl) h with ⟨hcs, hx0⟩ | ⟨a, len, cap, m, D, Pl, hcs, _, hl, hm, hmm, hx, hi⟩
  · exact ⟨none, 0, [], hcs, (fun i s hs => by simp at hs), (fun _ => rfl), Nat.le_refl _, Nat.zero_le _, (fun _ => Nat.zero_le _), (fun _ h => by cases h)⟩
  · simp only [if_true] at hmm
    subst hmm
    have each : ∀ i, i < len → ∃ s : Srv, (W.cell? (a.add (i * 3)) = some (.int .i64 s.k) ∧ W.cell? (a.add (i * 3 + 1)) = some (.int .i64 s.q) ∧ W.cell? (a.add (i * 3 + 2)) = some (.int .i64 s.t)) ∧ I64 s.k ∧ I64 s.q ∧ I64 s.t := fun i h => by
      obtain ⟨ys, n, _, _, _, hg⟩ := hi i (by omega)
      obtain ⟨v0, y0, c0, _, t0⟩ := hg 0 _ rfl
      obtain ⟨v1, y1, c1, _, t1⟩ := hg 1 _ rfl
      obtain ⟨v2, y2, c2, _, t2⟩ := hg 2 _ rfl
      obtain ⟨k, e0, _, w0⟩ := DataW.trod_int Tryz.underlying3 t0
      obtain ⟨q, e1, _, w1⟩ := DataW.trod_int Tryz.underlying3 t1
      obtain ⟨t, e2, _, w2⟩ := DataW.trod_int Tryz.underlying3 t2
      simp at e0 e1 e2
      subst e0 e1 e2
      exact ⟨⟨k, q, t⟩, ⟨c0, c1, c2⟩, i64_of_wf w0, i64_of_wf w1, i64_of_wf w2⟩
    obtain ⟨f, hf'⟩ := choose_lt (p := fun i (s : Srv) => (W.cell? (a.add (i * 3)) = some (.int .i64 s.k) ∧ W.cell? (a.add (i * 3 + 1)) = some (.int .i64 s.q) ∧ W.cell? (a.add (i * 3 + 2)) = some (.int .i64 s.t)) ∧ I64 s.k ∧ I64 s.q ∧ I64 s.t) each
    refine ⟨some a, m, (List.range len).map f, by simpa using hcs, fun i s hs => ?_, (fun h => by cases h), by simpa using hl, hm, fun hw => ?_, fun s hs => ?_⟩
    · simp only [List.getElem?_map, Option.map_eq_some_iff] at hs
      obtain ⟨j, hj, rfl⟩ := hs
      obtain ⟨hj0, hj2⟩ := List.getElem?_eq_some_iff.1 hj
      have hj1 : i < len := by simpa using hj0
      obtain rfl : i = j := by simpa using hj2
      obtain ⟨⟨c0, c1, c2⟩, _⟩ := hf' _ hj1
      obtain ⟨b, o, rfl⟩ := add_plain (hf' 0 (by omega)).1.1
      rw [add_mk] at c0 c1 c2
      exact ⟨b, o, rfl, (cell_lt c0).1, c0, by rw [Nat.add_assoc]; exact c1, by rw [Nat.add_assoc]; exact c2⟩
    · subst hx
      have hby : Tryz.prog.bytesOf 29 = 24 := by kernel_rfl
      simp only [DataW.weights, Tryz.underlying48, List.all_cons, Bool.and_eq_true, List.length_map, List.length_range, hby, reachBytes] at hw
      simp only [List.length_map, List.length_range]
      have := of_decide_eq_true hw.1
      omega
    · simp only [List.mem_map, List.mem_range] at hs
      obtain ⟨i, hi', rfl⟩ := hs
      exact (hf' i hi').2
set_option maxRecDepth 100000 in
theorem tsks_of_trod {fuel : Nat} {cs : List Value} {x : DataW H × List MemPlace} (h : DataW.trod enc Tryz.prog W 0 (fun _ => true) true fuel 30 cs = some x) :
    ∃ (a : Option Addr) (c : Nat) (l : List Tsk), cs = [.slice a l.length c] ∧ TsksAt W a l ∧ (a = none → c = 0) ∧ l.length ≤ c ∧ c ≤ maxLen ∧ ((x.1.weights Tryz.prog 30).all (· ≤ reachBytes) = true → l.length * 32 ≤ 140737488351232) ∧ ∀ s ∈ l, I64 s.c ∧ I64 s.p ∧ I64 s.d ∧ I64 s.s := by
  rcases open_slice_fields Tryz.underlying30 Tryz.underlying41 (by kernel_rfl) (by kernel_rfl) h with ⟨hcs, hx0⟩ | ⟨a, len, cap, m, D, Pl, hcs, _, hl, hm, hmm, hx, hi⟩
  · exact ⟨none, 0, [], hcs, (fun i s hs => by simp at hs), (fun _ => rfl), Nat.le_refl _, Nat.zero_le _, (fun _ => Nat.zero_le _), (fun _ h => by cases h)⟩
  · simp only [if_true] at hmm
    subst hmm
    have each : ∀ i, i < len → ∃ s : Tsk, (W.cell? (a.add (i * 4)) = some (.int .i64 s.c) ∧ W.cell? (a.add (i * 4 + 1)) = some (.int .i64 s.p) ∧ W.cell? (a.add (i * 4 + 2)) = some (.int .i64 s.d) ∧ W.cell? (a.add (i * 4 + 3)) = some (.int .i64 s.s)) ∧ I64 s.c ∧ I64 s.p ∧ I64 s.d ∧ I64 s.s := fun i h => by
      obtain ⟨ys, n, _, _, _, hg⟩ := hi i (by omega)
      obtain ⟨v0, y0, c0, _, t0⟩ := hg 0 _ rfl
      obtain ⟨v1, y1, c1, _, t1⟩ := hg 1 _ rfl
      obtain ⟨v2, y2, c2, _, t2⟩ := hg 2 _ rfl
      obtain ⟨v3, y3, c3, _, t3⟩ := hg 3 _ rfl
      obtain ⟨k, e0, _, w0⟩ := DataW.trod_int Tryz.underlying3 t0
      obtain ⟨q, e1, _, w1⟩ := DataW.trod_int Tryz.underlying3 t1
      obtain ⟨t, e2, _, w2⟩ := DataW.trod_int Tryz.underlying3 t2
      obtain ⟨u, e3, _, w3⟩ := DataW.trod_int Tryz.underlying3 t3
      simp at e0 e1 e2 e3
      subst e0 e1 e2 e3
      exact ⟨⟨k, q, t, u⟩, ⟨c0, c1, c2, c3⟩, i64_of_wf w0, i64_of_wf w1, i64_of_wf w2, i64_of_wf w3⟩
    obtain ⟨f, hf'⟩ := choose_lt (p := fun i (s : Tsk) => (W.cell? (a.add (i * 4)) = some (.int .i64 s.c) ∧ W.cell? (a.add (i * 4 + 1)) = some (.int .i64 s.p) ∧ W.cell? (a.add (i * 4 + 2)) = some (.int .i64 s.d) ∧ W.cell? (a.add (i * 4 + 3)) = some (.int .i64 s.s)) ∧ I64 s.c ∧ I64 s.p ∧ I64 s.d ∧ I64 s.s) each
    refine ⟨some a, m, (List.range len).map f, by simpa using hcs, fun i s hs => ?_, (fun h => by cases h), by simpa using hl, hm, fun hw => ?_, fun s hs => ?_⟩
    · simp only [List.getElem?_map, Option.map_eq_some_iff] at hs
      obtain ⟨j, hj, rfl⟩ := hs
      obtain ⟨hj0, hj2⟩ := List.getElem?_eq_some_iff.1 hj
      have hj1 : i < len := by simpa using hj0
      obtain rfl : i = j := by simpa using hj2
      obtain ⟨⟨c0, c1, c2, c3⟩, _⟩ := hf' _ hj1
      obtain ⟨b, o, rfl⟩ := add_plain (hf' 0 (by omega)).1.1
      rw [add_mk] at c0 c1 c2 c3
      exact ⟨b, o, rfl, (cell_lt c0).1, c0, by rw [Nat.add_assoc]; exact c1, by rw [Nat.add_assoc]; exact c2, by rw [Nat.add_assoc]; exact c3⟩
    · subst hx
      have hby : Tryz.prog.bytesOf 41 = 32 := by kernel_rfl
      simp only [DataW.weights, Tryz.underlying30, List.all_cons, Bool.and_eq_true, List.length_map, List.length_range, hby, reachBytes] at hw
      simp only [List.length_map, List.length_range]
      have := of_decide_eq_true hw.1
      omega
    · simp only [List.mem_map, List.mem_range] at hs
      obtain ⟨i, hi', rfl⟩ := hs
      exact (hf' i hi').2

/-- A parent, servers, tasks, a number. -/
structure Ask12 where
  s : Srv
  la : Option Addr
  lc : Nat
  l : List Srv
  ta : Option Addr
  tc : Nat
  t : List Tsk
  n : Int
abbrev Ask12.val (x : Ask12) : Value := .agg #[.int .i64 x.s.k, .int .i64 x.s.q, .int .i64 x.s.t, .slice x.la x.l.length x.lc, .slice x.ta x.t.length x.tc, .int .i64 x.n]
/-- What lies where it says. -/
structure Ask12.At (x : Ask12) (W : World) : Prop where
  l : SrvsAt W x.la x.l
  l0 : x.la = none → x.lc = 0
  l1 : x.l.length ≤ x.lc
  l3 : x.lc ≤ maxLen
  l2 : x.l.length * 24 ≤ 140737488351232
  t : TsksAt W x.ta x.t
  t0 : x.ta = none → x.tc = 0
  t1 : x.t.length ≤ x.tc
  t3 : x.tc ≤ maxLen
  t2 : x.t.length * 32 ≤ 140737488351232
end
end Go.Proofs.YtanfgipanfjcoaaGreatDoor
/- The opener of a list of numbers. -/
namespace Go.Proofs.YtanfgipanfjcoaaGreatDoor
open Go.ChangeShapes Go.WideShapes Go.ChangeAt Go.RowKit Go.Deep Go.Joins

theorem chosen {α : Type} {n : Nat} {p : Nat → α → Prop} (h : ∀ i, i < n → ∃ s, p i s) : ∃ l : List α, l.length = n ∧ ∀ i s, l[i]? = some s → p i s := by
  induction n with
  | zero => exact ⟨[], rfl, fun i s h => by simp at h⟩
  | succ n ih =>
    obtain ⟨l, hl, hp⟩ := ih (fun i hi => h i (by omega))
    obtain ⟨s, hs⟩ := h n (by omega)
    refine ⟨l ++ [s], by simp [hl], fun i x hx => ?_⟩
    by_cases hi : i < n
    · rw [List.getElem?_append_left (by omega)] at hx; exact hp i x hx
    · rw [List.getElem?_append_right (by omega)] at hx
      have h0 : i - l.length = 0 := by
        have := get_lt hx
        simpa using this
      rw [h0] at hx
      obtain rfl : s = x := by simpa using hx
      obtain rfl : i = n := by omega
      exact hs
section
variable {H : Type} {enc : TypeId × Value → H} {W : World}

theorem weightsAll_mem {e : TypeId} : ∀ (l : List (DataW H)) (d : DataW H), d ∈ l → (DataW.weightsAll Tryz.prog e l).all (· ≤ reachBytes) = true → (d.weights Tryz.prog e).all (· ≤ reachBytes) = true
  | x :: r, d, hd, h => by
    simp only [DataW.weightsAll, List.all_append, Bool.and_eq_true] at h
    rcases List.mem_cons.1 hd with rfl | hd
    · exact h.1
    · exact weightsAll_mem r d hd h.2

set_option maxRecDepth 100000 in
/-- A slice of records, each of which can be read. -/
theorem recs_of_trod {α : Type} {k bytes : Nat} {code : α → List Value} {Good Size : α → Prop} {t e : TypeId} (ht : Tryz.prog.underlying t = some (.slice e)) (hk : Tryz.prog.cellsOf e = k) (hb : Tryz.prog.bytesOf e = bytes) (hk0 : 0 < k) (hlen : ∀ s, (code s).length = k)
    (hdec : ∀ n cs y, DataW.trod enc Tryz.prog W 0 (fun _ => true) true n e cs = some y → ∃ s, cs = code s ∧ Good s ∧ ((y.1.weights Tryz.prog e).all (· ≤ reachBytes) = true → Size s))
    {fuel : Nat} {cs : List Value} {x : DataW H × List MemPlace} (h : DataW.trod enc Tryz.prog W 0 (fun _ => true) true fuel t cs = some x) :
    ∃ (a : Option Addr) (c : Nat) (l : List α), cs = [.slice a l.length c] ∧ RecsAt k code W a l ∧ (a = none → c = 0) ∧ l.length ≤ c ∧ c ≤ maxLen ∧ (∀ s ∈ l, Good s) ∧ ((x.1.weights Tryz.prog t).all (· ≤ reachBytes) = true → l.length * bytes ≤ reachBytes ∧ ∀ s ∈ l, Size s) := by
  rcases open_slice ht h with ⟨rfl, _⟩ | ⟨a, len, cap, m, n, D, Pl, rfl, _, hl, hm, hmm, hx, hi⟩
  · exact ⟨none, 0, [], rfl, (fun i s hs => by simp at hs), (fun _ => rfl), Nat.le_refl _, Nat.zero_le _, (fun _ h => by cases h), fun _ => ⟨by simp, fun _ h => by cases h⟩⟩
  · simp only [if_true] at hmm
    subst hmm
    rw [hk] at hi
    have each : ∀ i, i < len → ∃ s : α, (∀ j u, (code s)[j]? = some u → W.cell? (a.add (i * k + j)) = some u) ∧ Good s ∧ (((D i).weights Tryz.prog e).all (· ≤ reachBytes) = true → Size s) := fun i h => by
      obtain ⟨cs', hc, htr⟩ := hi i (by omega)
      obtain ⟨s, rfl, hg, hz⟩ := hdec _ _ _ htr
      obtain ⟨_, _, hat⟩ := World.cells?_some hc
      refine ⟨s, fun j u hu => ?_, hg, hz⟩
      have hj : j < k := by rw [← hlen s]; exact (List.getElem?_eq_some_iff.1 hu).1
      rw [← hu, ← hat j hj]
      congr 1
      unfold Addr.add
      by_cases h1 : i * k = 0
      · by_cases h2 : j = 0 <;> simp [h1, h2]
      · by_cases h2 : j = 0
        · simp [h1, h2]
        · have h3 : ¬ (i * k + j = 0) := by omega
          simp [h1, h2, Nat.add_assoc]
    obtain ⟨l, hll, hp⟩ := chosen each
    refine ⟨some a, _, l, by rw [hll], fun i s hs => ?_, (fun h => by cases h), by omega, hm, fun s hs => ?_, fun hw => ?_⟩
    · have hi0 : i < len := by have := get_lt hs; omega
      obtain ⟨hc, _⟩ := hp i s hs
      have hne : code s ≠ [] := fun e => by have := hlen s; rw [e] at this; simp at this; omega
      -- the place is plain
      obtain ⟨s0, hs0⟩ := get_some l 0 (by omega)
      obtain ⟨hc0, _⟩ := hp 0 s0 hs0
      have hlen0 := hlen s0
      obtain ⟨u0, hu0⟩ : ∃ u, (code s0)[0]? = some u := ⟨(code s0)[0]'(by omega), List.getElem?_eq_getElem _⟩
      obtain ⟨b, o, rfl⟩ := add_plain (n := 0) (by simpa using hc0 0 u0 hu0)
      have hbl : b < W.heap.size := by have := (cell_lt (hc0 0 u0 hu0)).1; simpa [add_mk] using this
      refine ⟨b, o, rfl, hbl, fun j u hu => ?_⟩
      have := hc j u hu
      rw [add_mk] at this
      rw [Nat.add_assoc]
      exact this
    · obtain ⟨i, hi'⟩ := List.mem_iff_getElem?.1 hs
      exact (hp i s hi').2.1
    · subst hx
      simp only [DataW.weights, ht, List.all_cons, List.all_append, Bool.and_eq_true, List.length_map, List.length_range, hb] at hw
      refine ⟨Nat.le_trans (Nat.mul_le_mul_right _ (by omega)) (of_decide_eq_true hw.1), fun s hs => ?_⟩
      obtain ⟨i, hi'⟩ := List.mem_iff_getElem?.1 hs
      have hi0 : i < len := by have := get_lt hi'; omega
      refine (hp i s hi').2.2 (weightsAll_mem _ _ ?_ hw.2.1)
      exact List.mem_map.2 ⟨i, List.mem_range.2 hi0, rfl⟩

theorem int_of_trod (n : Nat) (cs : List Value) (y : DataW H × List MemPlace) (h : DataW.trod enc Tryz.prog W 0 (fun _ => true) true n 3 cs = some y) : ∃ d : Int, cs = intC d ∧ I64 d ∧ ((y.1.weights Tryz.prog 3).all (· ≤ reachBytes) = true → True) := by
  obtain ⟨k, e0, _, w0⟩ := DataW.trod_int Tryz.underlying3 h
  exact ⟨k, e0, i64_of_wf w0, fun _ => trivial⟩
set_option maxRecDepth 100000 in
theorem open_ints {base : Nat} {v : Value} {d : DataW H} {p : List MemPlace} (hval : Value.okWide Tryz.prog W .any base 86 v) (h : DataW.Trod enc Tryz.prog W 0 (fun _ => true) true 86 v d p) :
    ∃ (a : Option Addr) (c : Nat) (L : List Int), v = .slice a L.length c ∧ IntsAt W a L ∧ (a = none → c = 0) ∧ L.length ≤ maxLen ∧ (∀ x ∈ L, I64 x) := by
  obtain ⟨a0, len, cap, rfl⟩ := okWide_slice Tryz.underlying86 hval
  obtain ⟨fuel, hf⟩ := h
  obtain ⟨a, c, L, hcs, r1, r2, r3, r4, r5, r6⟩ := recs_of_trod (k := 1) (bytes := 8) (code := intC) Tryz.underlying86 (by kernel_rfl) (by kernel_rfl) (by omega) (fun _ => rfl) (int_of_trod (enc := enc) (W := W)) hf
  simp [Value.cells] at hcs
  obtain ⟨rfl, rfl, rfl⟩ := hcs
  exact ⟨_, _, L, rfl, r1, r2, by omega, r5⟩
end
end Go.Proofs.YtanfgipanfjcoaaGreatDoor
