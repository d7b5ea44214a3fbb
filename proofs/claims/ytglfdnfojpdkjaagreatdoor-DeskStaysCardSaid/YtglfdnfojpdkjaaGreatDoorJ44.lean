/- From what a row's list of sentinels gives to the walks' premise; openers of arguments; a law's post. -/
import Derived.Test.YtglfdnfojpdkjaaGreatDoorJ1
import Derived.ProofKit
import Derived.OpenShut
import Derived.Deep.DeepHandedRow
import Derived.Deep.DeepWitnessRowRef
import Derived.LaidLaws
import Derived.LaidMore
import Derived.MakeChecks
import Derived.Deep.Slices
import Derived.Deep.Fields
import Derived.Lib.SmallJoins
import Derived.Test.YtglfdnfojpdkjaaGreatDoorJ43
namespace Go.Proofs.YtglfdnfojpdkjaaGreatDoor
open Go.ChangeShapes Go.WideShapes Go.ChangeAt Go.RowKit Go.Deep

theorem own : ownKnob Tryz.prog.godebug = none := by kernel_rfl
theorem laidOut : laidOutB Tryz.prog = true := by kernel_rfl
theorem star : "*" ++ "errors.errorString" = "*errors.errorString" := by decide
theorem rowErr (u : TypeId) (h : Tryz.prog.typeName? 3 u = some "*errors.errorString") : u = 258 :=
  typeName_ptr_named (nm := "errors.errorString") (by rw [star]; kernel_rfl) (by kernel_rfl) (by decide) u (by rw [star]; exact h)
theorem cellsErr : Tryz.prog.cellsOf 275 = 1 := by kernel_rfl
theorem cellsStr : Tryz.prog.cellsOf 9 = 1 := by kernel_rfl

/-- A listed sentinel. -/
def sent (x : Nat × String × List UInt8) : String × DataW Unit := (x.2.1, .iface "*errors.errorString" (.ptr (.agg [.lit (.string x.2.2)])))
set_option maxRecDepth 100000 in
theorem sents_read {W : World} (L : List (Nat × String × List UInt8)) (hok : (L.all fun x => Tryz.prog.globalNamed x.2.1 == some x.1 && (Tryz.prog.globals[x.1]?).map (·.type) == some 55) = true) : ∀ ps, DataW.LaidVars Tryz.prog W (L.map sent) ps →
    (∀ b off, MemPlace.cell b off ∈ ps → (∃ c t, W.heap[b]? = some (.cells c t (0, 0))) ∧ ∀ u v, W.cell? ⟨b, off, none⟩ = some (.iface u v) → Value.okWide Tryz.prog W .any 0 u v) →
    ps.Nodup → ∃ E : Nat → Addr, (∀ x ∈ L, W.cell? ⟨x.1, 0, none⟩ = some (errAt E x.1) ∧ MemPlace.cell (E x.1).block (E x.1).off ∈ ps ∧ (E x.1).spot = none ∧ MemPlace.cell x.1 0 ∈ ps) ∧ ∀ x ∈ L, ∀ y ∈ L, x.1 ≠ y.1 → E x.1 ≠ E y.1 := by
  induction L with
  | nil => intro ps _ _ _; exact ⟨fun _ => ⟨0, 0, none⟩, (fun _ h => by cases h), (fun _ h => by cases h)⟩
  | cons x r ih =>
    intro ps h hrows hnd
    simp only [List.all_cons, Bool.and_eq_true] at hok
    obtain ⟨hx, hr⟩ := hok
    simp only [beq_iff_eq] at hx
    obtain ⟨g0, t0, cs0, f0, p0, q0, hg0, ht0, hv0, hd0, hq, e0⟩ := h
    obtain rfl := Option.some.inj (hx.1.symm.trans hg0)
    obtain rfl := Option.some.inj (hx.2.symm.trans ht0)
    obtain ⟨l0⟩ := cs0
    have ok0 : ∀ u v, l0 = [.iface u v] → Value.okWide Tryz.prog W .any 0 u v := fun u v e => by
      subst e
      subst e0
      exact (hrows x.1 0 (by simp [MemPlace.row])).2 u v (by simpa using World.var?_cell hg0 hv0 0)
    obtain ⟨a0, s0, rfl, hc0, hs0, hz0, rfl⟩ := errorString_of_trod Tryz.underlying55 rowErr Tryz.underlying258 Tryz.underlying275 rfl rfl Tryz.underlying9 cellsErr cellsStr hd0 ok0
    have hspot : a0.spot = none := by
      unfold World.cell? at hc0
      split at hc0
      · split at hc0
        · cases hc0
        · rename_i hh; simpa using hh
      · cases hc0
    subst e0
    have m0 : MemPlace.cell a0.block a0.off ∈ MemPlace.row ⟨x.1, 0, none⟩ 1 ++ MemPlace.row a0 1 ++ q0 := by simp [MemPlace.row]
    have m1 : MemPlace.cell x.1 0 ∈ MemPlace.row ⟨x.1, 0, none⟩ 1 ++ MemPlace.row a0 1 ++ q0 := by simp [MemPlace.row]
    have sub : ∀ p ∈ q0, p ∈ MemPlace.row ⟨x.1, 0, none⟩ 1 ++ MemPlace.row a0 1 ++ q0 := fun p hp => List.mem_append_right _ hp
    have ndq : q0.Nodup := List.Nodup.sublist (List.sublist_append_right _ _) hnd
    obtain ⟨E, hE, hne⟩ := ih hr q0 hq (fun b off hm => hrows b off (sub _ hm)) ndq
    have notin : ∀ y ∈ r, E y.1 ≠ a0 := fun y hy e => by
      have hm := (hE y hy).2.1
      rw [e] at hm
      rw [List.append_assoc, List.nodup_append, List.nodup_append] at hnd
      exact hnd.2.1.2.2 _ (by simp [MemPlace.row]) _ hm rfl
    refine ⟨fun g => if g = x.1 then a0 else E g, fun y hy => ?_, fun y hy z hz hyz => ?_⟩
    · by_cases hyx : y.1 = x.1
      · simp only [hyx, if_true, errAt]
        exact ⟨by simpa using World.var?_cell hg0 hv0 0, m0, hspot, m1⟩
      · have hyr : y ∈ r := by
          rcases List.mem_cons.1 hy with rfl | h
          · exact absurd rfl hyx
          · exact h
        have := hE y hyr
        simp only [hyx, if_false, errAt]
        exact ⟨this.1, sub _ this.2.1, this.2.2.1, sub _ this.2.2.2⟩
    · have inr : ∀ y ∈ x :: r, y.1 ≠ x.1 → y ∈ r := fun y hy hyx => by
        rcases List.mem_cons.1 hy with rfl | h
        · exact absurd rfl hyx
        · exact h
      by_cases hyx : y.1 = x.1
      · have hzx : z.1 ≠ x.1 := fun e => hyz (hyx.trans e.symm)
        simp only [hyx, hzx, if_true, if_false]
        exact fun e => notin z (inr z hz hzx) e.symm
      · by_cases hzx : z.1 = x.1
        · simp only [hyx, hzx, if_true, if_false]
          exact notin y (inr y hy hyx)
        · simp only [hyx, hzx, if_false]
          exact hne y (inr y hy hyx) z (inr z hz hzx) hyz

theorem eat_of_laid {W : World} (L : List (Nat × String × List UInt8)) (hok : (L.all fun x => Tryz.prog.globalNamed x.2.1 == some x.1 && (Tryz.prog.globals[x.1]?).map (·.type) == some 55) = true) (hpl : ((L.map sent).all fun x => x.2.handleName?.isNone) = true) (h : laidMetH Tryz.prog (L.map sent) W) :
    ∃ E, EAt (L.map (·.1)) E W := by
  rw [MakeChecks.laidMetH_plain _ _ _ hpl] at h
  obtain ⟨ps, hv, hnd, hrows⟩ := h
  obtain ⟨E, hE, hne⟩ := sents_read L hok ps hv hrows hnd
  have get : ∀ g, g ∈ L.map (·.1) → ∃ x ∈ L, x.1 = g := fun g hg => by simpa using hg
  have lt_of : ∀ b off, MemPlace.cell b off ∈ ps → b < W.heap.size := fun b off hm => by
    obtain ⟨c, t, e⟩ := (hrows b off hm).1
    exact (Array.getElem?_eq_some_iff.1 e).1
  refine ⟨E, ⟨fun g hg => ?_, fun g hg => ?_, fun g hg => ?_, fun g hg => ?_, fun g k hg hk hn => ?_⟩⟩
  · obtain ⟨x, hx, rfl⟩ := get g hg; exact lt_of _ _ (hE x hx).2.2.2
  · obtain ⟨x, hx, rfl⟩ := get g hg; exact lt_of _ _ (hE x hx).2.1
  · obtain ⟨x, hx, rfl⟩ := get g hg; exact (hE x hx).1
  · obtain ⟨x, hx, rfl⟩ := get g hg; exact (hrows _ _ (hE x hx).2.1).1
  · obtain ⟨x, hx, rfl⟩ := get g hg; obtain ⟨y, hy, rfl⟩ := get k hk; exact hne x hx y hy hn
section
variable {H : Type} {enc : TypeId × Value → H} {P : Program} {w : World} {base : Nat} {spare : Nat → Bool} {held : Bool}
theorem open_slice_fields {t e : TypeId} {fs : Array Field} {fuel : Nat} {cs : List Value} {x : DataW H × List MemPlace} (ht : P.underlying t = some (.slice e)) (he : P.underlying e = some (.struct fs))
    (hone : oneCellFields P fs = true) (hC : P.cellsOf e = fs.size) (h : DataW.trod enc P w base spare held fuel t cs = some x) :
    (cs = [.slice none 0 0] ∧ x = (.nil, [])) ∨
    ∃ (a : Addr) (len cap m : Nat) (D : Nat → DataW H) (Pl : Nat → List MemPlace), cs = [.slice (some a) len cap] ∧ base ≤ a.block ∧ len ≤ cap ∧ cap ≤ maxLen ∧ m = (if spare a.block then cap else len) ∧
      x = (.slice ((List.range len).map D) ((List.range (m - len)).map fun j => D (len + j)), MemPlace.row a (m * fs.size) ++ (List.range m).flatMap Pl) ∧
      ∀ i, i < m → ∃ (ys : List (DataW H × List MemPlace)) (n : Nat), D i = .agg (ys.map (·.1)) ∧ Pl i = ys.flatMap (·.2) ∧ ys.length = fs.size ∧
        ∀ (j : Nat) (f : Field), fs[j]? = some f → ∃ (v : Value) (y : DataW H × List MemPlace), w.cell? (a.add (i * fs.size + j)) = some v ∧ ys[j]? = some y ∧ DataW.trod enc P w base spare held n f.type [v] = some y := by
  rcases open_slice ht h with h0 | ⟨a, len, cap, m, n, D, Pl, hcs, hb, hl, hm, hmm, hx, hi⟩
  · exact .inl h0
  · refine .inr ⟨a, len, cap, m, D, Pl, hcs, hb, hl, hm, hmm, by rw [hC] at hx; exact hx, fun i him => ?_⟩
    obtain ⟨cs', hc, ht'⟩ := hi i him
    rw [hC] at hc
    obtain ⟨ys, n', hn', hy, hlen, hyl, hf⟩ := DataW.trod_struct he ht'
    obtain ⟨_, hcl, hat⟩ := World.cells?_some hc
    simp only [Prod.mk.injEq] at hy
    refine ⟨ys, n', hy.1, hy.2, hyl, fun j f hj => ?_⟩
    obtain ⟨ho, hk⟩ := hone_of hone j f hj
    have hjl : j < fs.size := (Array.getElem?_eq_some_iff.1 hj).1
    have hcell := hat j hjl
    have hv : cs'[j]? = some (cs'[j]'(by omega)) := List.getElem?_eq_getElem (by omega)
    have h1 := hf j f hj
    rw [ho, hk] at h1
    have hone' : (cs'.drop j).take 1 = [cs'[j]'(by omega)] := by
      rw [List.drop_eq_getElem_cons (by omega)]
      rfl
    rw [hone'] at h1
    have hys : ys[j]? = some (ys[j]'(by omega)) := List.getElem?_eq_getElem (by omega)
    refine ⟨_, _, ?_, hys, h1.trans hys⟩
    rw [← Go.Deep.add_add, hcell, hv]
end
end Go.Proofs.YtglfdnfojpdkjaaGreatDoor
/- Openers of entries, ballots, lists of entries, lists of numbers; a law's post. -/
namespace Go.Proofs.YtglfdnfojpdkjaaGreatDoor
open Go.ChangeShapes Go.WideShapes Go.ChangeAt Go.RowKit Go.Deep Go.Joins

def I64 (x : Int) : Prop := -9223372036854775808 ≤ x ∧ x ≤ 9223372036854775807
theorem i64_of_wf {x : Int} (h : (Lit.int .i64 x).wf = true) : I64 x := by
  simp [Lit.wf, IntKind.min, IntKind.max, IntKind.signed, IntKind.bits] at h
  exact ⟨by omega, by omega⟩
theorem cell_lt {W : World} {a : Addr} {v : Value} (h : W.cell? a = some v) : a.block < W.heap.size ∧ a = ⟨a.block, a.off, none⟩ := by
  unfold World.cell? at h
  split at h
  · rename_i c t f hb
    refine ⟨(Array.getElem?_eq_some_iff.1 hb).1, ?_⟩
    split at h
    · cases h
    · rename_i hs
      obtain ⟨b, o, s⟩ := a
      simp at hs
      simp [hs]
  · cases h

theorem add_plain {W : World} {a : Addr} {n : Nat} {v : Value} (h : W.cell? (a.add (0 * n)) = some v) : ∃ b o, a = ⟨b, o, none⟩ := by
  rw [Nat.zero_mul] at h
  have : a.add 0 = a := by simp [Addr.add]
  rw [this] at h
  exact ⟨_, _, (cell_lt h).2⟩
theorem add_mk (b o n : Nat) : (⟨b, o, none⟩ : Addr).add n = ⟨b, o + n, none⟩ := by
  unfold Addr.add
  by_cases h : n = 0 <;> simp [h]


theorem chosen {α : Type} {n : Nat} {p : Nat → α → Prop} (h : ∀ i, i < n → ∃ s, p i s) : ∃ l : List α, l.length = n ∧ ∀ i s, l[i]? = some s → p i s := by
  induction n with
  | zero => exact ⟨[], rfl, fun i s h => by simp at h⟩
  | succ n ih =>
    obtain ⟨l, hl, hp⟩ := ih (fun i hi => h i (by omega))
    obtain ⟨s, hs⟩ := h n (by omega)
    refine ⟨l ++ [s], by simp [hl], fun i x hx => ?_⟩
    by_cases hi : i < n
    · rw [List.getElem?_append_left (by omega)] at hx; exact hp i x hx
    · rw [List.getElem?_append_right (by omega)] at hx
      have h0 : i - l.length = 0 := by
        have := get_lt hx
        simpa using this
      rw [h0] at hx
      obtain rfl : s = x := by simpa using hx
      obtain rfl : i = n := by omega
      exact hs
section
variable {H : Type} {enc : TypeId × Value → H} {W : World}

theorem weightsAll_mem {e : TypeId} : ∀ (l : List (DataW H)) (d : DataW H), d ∈ l → (DataW.weightsAll Tryz.prog e l).all (· ≤ reachBytes) = true → (d.weights Tryz.prog e).all (· ≤ reachBytes) = true
  | x :: r, d, hd, h => by
    simp only [DataW.weightsAll, List.all_append, Bool.and_eq_true] at h
    rcases List.mem_cons.1 hd with rfl | hd
    · exact h.1
    · exact weightsAll_mem r d hd h.2

set_option maxRecDepth 100000 in
/-- A slice of records, each of which can be read. -/
theorem recs_of_trod {α : Type} {k bytes : Nat} {code : α → List Value} {Good Size : α → Prop} {t e : TypeId} (ht : Tryz.prog.underlying t = some (.slice e)) (hk : Tryz.prog.cellsOf e = k) (hb : Tryz.prog.bytesOf e = bytes) (hk0 : 0 < k) (hlen : ∀ s, (code s).length = k)
    (hdec : ∀ n cs y, DataW.trod enc Tryz.prog W 0 (fun _ => true) true n e cs = some y → ∃ s, cs = code s ∧ Good s ∧ ((y.1.weights Tryz.prog e).all (· ≤ reachBytes) = true → Size s))
    {fuel : Nat} {cs : List Value} {x : DataW H × List MemPlace} (h : DataW.trod enc Tryz.prog W 0 (fun _ => true) true fuel t cs = some x) :
    ∃ (a : Option Addr) (c : Nat) (l : List α), cs = [.slice a l.length c] ∧ RecsIn Any k code W a l ∧ (a = none → c = 0) ∧ l.length ≤ c ∧ c ≤ maxLen ∧ (∀ s ∈ l, Good s) ∧ ((x.1.weights Tryz.prog t).all (· ≤ reachBytes) = true → l.length * bytes ≤ reachBytes ∧ ∀ s ∈ l, Size s) := by
  rcases open_slice ht h with ⟨rfl, _⟩ | ⟨a, len, cap, m, n, D, Pl, rfl, _, hl, hm, hmm, hx, hi⟩
  · exact ⟨none, 0, [], rfl, RecsIn.nil _ _ _ _ _, (fun _ => rfl), Nat.le_refl _, Nat.zero_le _, (fun _ h => by cases h), fun _ => ⟨by simp, fun _ h => by cases h⟩⟩
  · simp only [if_true] at hmm
    subst hmm
    rw [hk] at hi
    have each : ∀ i, i < len → ∃ s : α, (∀ j u, (code s)[j]? = some u → W.cell? (a.add (i * k + j)) = some u) ∧ Good s ∧ (((D i).weights Tryz.prog e).all (· ≤ reachBytes) = true → Size s) := fun i h => by
      obtain ⟨cs', hc, htr⟩ := hi i (by omega)
      obtain ⟨s, rfl, hg, hz⟩ := hdec _ _ _ htr
      obtain ⟨_, _, hat⟩ := World.cells?_some hc
      refine ⟨s, fun j u hu => ?_, hg, hz⟩
      have hj : j < k := by rw [← hlen s]; exact (List.getElem?_eq_some_iff.1 hu).1
      rw [← hu, ← hat j hj]
      congr 1
      unfold Addr.add
      by_cases h1 : i * k = 0
      · by_cases h2 : j = 0 <;> simp [h1, h2]
      · by_cases h2 : j = 0
        · simp [h1, h2]
        · have h3 : ¬ (i * k + j = 0) := by omega
          simp [h1, h2, Nat.add_assoc]
    obtain ⟨l, hll, hp⟩ := chosen each
    refine ⟨some a, _, l, by rw [hll], ⟨fun i s hs => ?_, fun _ _ _ => trivial⟩, (fun h => by cases h), by omega, hm, fun s hs => ?_, fun hw => ?_⟩
    · have hi0 : i < len := by have := get_lt hs; omega
      obtain ⟨hc, _⟩ := hp i s hs
      have hne : code s ≠ [] := fun e => by have := hlen s; rw [e] at this; simp at this; omega
      -- the place is plain
      obtain ⟨s0, hs0⟩ := get_some l 0 (by omega)
      obtain ⟨hc0, _⟩ := hp 0 s0 hs0
      have hlen0 := hlen s0
      obtain ⟨u0, hu0⟩ : ∃ u, (code s0)[0]? = some u := ⟨(code s0)[0]'(by omega), List.getElem?_eq_getElem _⟩
      obtain ⟨b, o, rfl⟩ := add_plain (n := 0) (by simpa using hc0 0 u0 hu0)
      have hbl : b < W.heap.size := by have := (cell_lt (hc0 0 u0 hu0)).1; simpa [add_mk] using this
      refine ⟨b, o, rfl, hbl, fun j u hu => ?_⟩
      have := hc j u hu
      rw [add_mk] at this
      rw [Nat.add_assoc]
      exact this
    · obtain ⟨i, hi'⟩ := List.mem_iff_getElem?.1 hs
      exact (hp i s hi').2.1
    · subst hx
      simp only [DataW.weights, ht, List.all_cons, List.all_append, Bool.and_eq_true, List.length_map, List.length_range, hb] at hw
      refine ⟨Nat.le_trans (Nat.mul_le_mul_right _ (by omega)) (of_decide_eq_true hw.1), fun s hs => ?_⟩
      obtain ⟨i, hi'⟩ := List.mem_iff_getElem?.1 hs
      have hi0 : i < len := by have := get_lt hi'; omega
      refine (hp i s hi').2.2 (weightsAll_mem _ _ ?_ hw.2.1)
      exact List.mem_map.2 ⟨i, List.mem_range.2 hi0, rfl⟩

def TskI (s : Tsk) : Prop := I64 s.c ∧ I64 s.p ∧ I64 s.d ∧ I64 s.s
set_option maxRecDepth 100000 in
theorem tsk_of_trod (n : Nat) (cs : List Value) (y : DataW H × List MemPlace) (h : DataW.trod enc Tryz.prog W 0 (fun _ => true) true n 115 cs = some y) : ∃ s : Tsk, cs = s.cells ∧ TskI s ∧ ((y.1.weights Tryz.prog 115).all (· ≤ reachBytes) = true → True) := by
  obtain ⟨y0, y1, y2, y3, m, _, hlen, t0, t1, t2, t3⟩ := trod_struct4 Tryz.underlying115 h
  have hc : Tryz.prog.cellsOf 115 = 4 := by kernel_rfl
  have hci : Tryz.prog.cellsOf 3 = 1 := by kernel_rfl
  rw [hc] at hlen
  match cs, hlen with
  | [c0, c1, c2, c3], _ =>
    simp only [hci] at t0 t1 t2 t3
    obtain ⟨k, e0, _, w0⟩ := DataW.trod_int Tryz.underlying3 t0
    obtain ⟨q, e1, _, w1⟩ := DataW.trod_int Tryz.underlying3 t1
    obtain ⟨t, e2, _, w2⟩ := DataW.trod_int Tryz.underlying3 t2
    obtain ⟨u, e3, _, w3⟩ := DataW.trod_int Tryz.underlying3 t3
    simp at e0 e1 e2 e3
    subst e0 e1 e2 e3
    exact ⟨⟨k, q, t, u⟩, rfl, ⟨i64_of_wf w0, i64_of_wf w1, i64_of_wf w2, i64_of_wf w3⟩, fun _ => trivial⟩

/-- A ballot's, an entry's numbers are i64's. -/
def BalI (b : Bal) : Prop := I64 b.r ∧ I64 b.n
abbrev Bal.cells (b : Bal) : List Value := [.int .i64 b.r, .int .i64 b.n]
theorem int_of_trod (n : Nat) (cs : List Value) (y : DataW H × List MemPlace) (h : DataW.trod enc Tryz.prog W 0 (fun _ => true) true n 3 cs = some y) : ∃ d : Int, cs = [.int .i64 d] ∧ I64 d ∧ ((y.1.weights Tryz.prog 3).all (· ≤ reachBytes) = true → True) := by
  obtain ⟨k, e0, _, w0⟩ := DataW.trod_int Tryz.underlying3 h
  exact ⟨k, e0, i64_of_wf w0, fun _ => trivial⟩

def EntI (e : Ent) : Prop := I64 e.cl ∧ I64 e.nu ∧ I64 e.kd ∧ I64 e.id ∧ I64 e.srv.k ∧ I64 e.srv.q ∧ I64 e.srv.t ∧ I64 e.po ∧ I64 e.at_ ∧ ∀ s ∈ e.tasks, TskI s
/-- An entry as it came in: its tasks' size apart. -/
def EntG (W : World) (x : EntM) : Prop := EntI x.e ∧ RecsIn Any 4 Tsk.cells W x.a x.e.tasks ∧ (x.a = none → x.c = 0) ∧ x.e.tasks.length ≤ x.c ∧ x.c ≤ maxLen
theorem EntG.ok {W : World} {x : EntM} (h : EntG W x) (hs : x.e.tasks.length * 32 ≤ reachBytes) : x.ok Any W := ⟨h.2.1, h.2.2.1, h.2.2.2.1, h.2.2.2.2, by unfold reachBytes at hs; omega⟩
set_option maxRecDepth 100000 in
theorem ent_of_trod (n : Nat) (cs : List Value) (y : DataW H × List MemPlace) (h : DataW.trod enc Tryz.prog W 0 (fun _ => true) true n 60 cs = some y) : ∃ s : EntM, cs = s.cells ∧ EntG W s ∧ ((y.1.weights Tryz.prog 60).all (· ≤ reachBytes) = true → s.e.tasks.length * 32 ≤ reachBytes) := by
  obtain ⟨y0, y1, y2, m, hy, hlen, t0, t1, t2⟩ := trod_struct3 Tryz.underlying60 h
  have hc : Tryz.prog.cellsOf 60 = 10 := by kernel_rfl
  have hci : Tryz.prog.cellsOf 3 = 1 := by kernel_rfl
  have hcs : Tryz.prog.cellsOf 24 = 3 := by kernel_rfl
  have hct : Tryz.prog.cellsOf 25 = 1 := by kernel_rfl
  have hco : Tryz.prog.cellsOf 27 = 8 := by kernel_rfl
  rw [hc] at hlen
  match cs, hlen with
  | [c0, c1, c2, c3, c4, c5, c6, c7, c8, c9], _ =>
    simp only [hci, hco] at t0 t1 t2
    obtain ⟨cl, e0, _, w0⟩ := DataW.trod_int Tryz.underlying3 t0
    obtain ⟨nu, e1, _, w1⟩ := DataW.trod_int Tryz.underlying3 t1
    obtain ⟨xs, m2, _, hy2, _, hxl, hf⟩ := DataW.trod_struct Tryz.underlying27 t2
    match xs, hxl with
    | [z0, z1, z2, z3, z4, z5], _ =>
      have u0 : DataW.trod enc Tryz.prog W 0 (fun _ => true) true m2 3 (List.take (Tryz.prog.cellsOf 3) (List.drop 0 [c2, c3, c4, c5, c6, c7, c8, c9])) = some z0 := hf 0 _ rfl
      rw [hci] at u0
      have u1 : DataW.trod enc Tryz.prog W 0 (fun _ => true) true m2 3 (List.take (Tryz.prog.cellsOf 3) (List.drop 1 [c2, c3, c4, c5, c6, c7, c8, c9])) = some z1 := hf 1 _ rfl
      rw [hci] at u1
      have u2 : DataW.trod enc Tryz.prog W 0 (fun _ => true) true m2 24 (List.take (Tryz.prog.cellsOf 24) (List.drop 2 [c2, c3, c4, c5, c6, c7, c8, c9])) = some z2 := hf 2 _ rfl
      rw [hcs] at u2
      have u3 : DataW.trod enc Tryz.prog W 0 (fun _ => true) true m2 3 (List.take (Tryz.prog.cellsOf 3) (List.drop 5 [c2, c3, c4, c5, c6, c7, c8, c9])) = some z3 := hf 3 _ rfl
      rw [hci] at u3
      have u4 : DataW.trod enc Tryz.prog W 0 (fun _ => true) true m2 25 (List.take (Tryz.prog.cellsOf 25) (List.drop 6 [c2, c3, c4, c5, c6, c7, c8, c9])) = some z4 := hf 4 _ rfl
      rw [hct] at u4
      have u5 : DataW.trod enc Tryz.prog W 0 (fun _ => true) true m2 3 (List.take (Tryz.prog.cellsOf 3) (List.drop 7 [c2, c3, c4, c5, c6, c7, c8, c9])) = some z5 := hf 5 _ rfl
      rw [hci] at u5
      obtain ⟨kd, e2, _, w2⟩ := DataW.trod_int Tryz.underlying3 u0
      obtain ⟨id, e3, _, w3⟩ := DataW.trod_int Tryz.underlying3 u1
      obtain ⟨v0, v1, v2, m3, _, _, k0, k1, k2⟩ := trod_struct3 Tryz.underlying24 u2
      simp only [hci] at k0 k1 k2
      obtain ⟨s1, e4, _, w4⟩ := DataW.trod_int Tryz.underlying3 k0
      obtain ⟨s2, e5, _, w5⟩ := DataW.trod_int Tryz.underlying3 k1
      obtain ⟨s3, e6, _, w6⟩ := DataW.trod_int Tryz.underlying3 k2
      obtain ⟨po, e7, _, w7⟩ := DataW.trod_int Tryz.underlying3 u3
      obtain ⟨ta, tc, tl, e8, r1, r2, r3, r4, r5, r6⟩ := recs_of_trod (k := 4) (bytes := 32) (code := Tsk.cells) Tryz.underlying25 (by kernel_rfl) (by kernel_rfl) (by omega) Tsk.cells_len (tsk_of_trod (enc := enc) (W := W)) u4
      obtain ⟨at_, e9, _, w9⟩ := DataW.trod_int Tryz.underlying3 u5
      simp at e0 e1 e2 e3 e4 e5 e6 e7 e8 e9
      subst e0 e1 e2 e3 e4 e5 e6 e7 e8 e9
      refine ⟨⟨⟨cl, nu, kd, id, ⟨s1, s2, s3⟩, po, tl, at_⟩, ta, tc⟩, rfl, ⟨⟨i64_of_wf w0, i64_of_wf w1, i64_of_wf w2, i64_of_wf w3, i64_of_wf w4, i64_of_wf w5, i64_of_wf w6, i64_of_wf w7, i64_of_wf w9, r5⟩, r1, r2, r3, r4⟩, fun hw => ?_⟩
      rw [hy] at hw
      simp only [DataW.weights, Tryz.underlying60, List.map_cons, List.map_nil, DataW.weightsEach, List.all_append, Bool.and_eq_true] at hw
      have hw2 := hw.2.2.1
      rw [hy2] at hw2
      simp only [DataW.weights, Tryz.underlying27, List.map_cons, List.map_nil, DataW.weightsEach, List.all_append, Bool.and_eq_true] at hw2
      exact (r6 hw2.2.2.2.2.1).1

set_option maxRecDepth 100000 in
theorem open_ents {base : Nat} {v : Value} {d : DataW H} {p : List MemPlace} (hval : Value.okWide Tryz.prog W .any base 22 v) (h : DataW.Trod enc Tryz.prog W 0 (fun _ => true) true 22 v d p) :
    ∃ (a : Option Addr) (c : Nat) (L : List EntM), v = .slice a L.length c ∧ (a = none → c = 0) ∧ (∀ x ∈ L, EntI x.e) ∧ ((d.weights Tryz.prog 22).all (· ≤ reachBytes) = true → LedM Any W a L ∧ L.length * 96 ≤ reachBytes) := by
  obtain ⟨a0, len, cap, rfl⟩ := okWide_slice Tryz.underlying22 hval
  obtain ⟨fuel, hf⟩ := h
  obtain ⟨a, c, L, hcs, r1, r2, r3, r4, r5, r6⟩ := recs_of_trod (k := 10) (bytes := 96) (code := EntM.cells) Tryz.underlying22 (by kernel_rfl) (by kernel_rfl) (by omega) EntM.cells_len (ent_of_trod (enc := enc) (W := W)) hf
  simp [Value.cells] at hcs
  obtain ⟨rfl, rfl, rfl⟩ := hcs
  exact ⟨_, _, L, rfl, r2, fun x hx => (r5 x hx).1, fun hw => ⟨⟨r1, fun x hx => (r5 x hx).ok ((r6 hw).2 x hx)⟩, (r6 hw).1⟩⟩
set_option maxRecDepth 100000 in
theorem open_ints {base : Nat} {v : Value} {d : DataW H} {p : List MemPlace} (hval : Value.okWide Tryz.prog W .any base 106 v) (h : DataW.Trod enc Tryz.prog W 0 (fun _ => true) true 106 v d p) :
    ∃ (a : Option Addr) (c : Nat) (L : List Int), v = .slice a L.length c ∧ RecsIn Any 1 (fun d => [Value.int .i64 d]) W a L ∧ (a = none → c = 0) ∧ L.length ≤ maxLen ∧ (∀ x ∈ L, I64 x) := by
  obtain ⟨a0, len, cap, rfl⟩ := okWide_slice Tryz.underlying106 hval
  obtain ⟨fuel, hf⟩ := h
  obtain ⟨a, c, L, hcs, r1, r2, r3, r4, r5, r6⟩ := recs_of_trod (k := 1) (bytes := 8) (code := fun d => [Value.int .i64 d]) Tryz.underlying106 (by kernel_rfl) (by kernel_rfl) (by omega) (fun _ => rfl) (int_of_trod (enc := enc) (W := W)) hf
  simp [Value.cells] at hcs
  obtain ⟨rfl, rfl, rfl⟩ := hcs
  exact ⟨_, _, L, rfl, r1, r2, by omega, r5⟩
set_option maxRecDepth 100000 in
theorem open_ent {base : Nat} {v : Value} {d : DataW H} {p : List MemPlace} (hval : Value.okWide Tryz.prog W .any base 60 v) (h : DataW.Trod enc Tryz.prog W 0 (fun _ => true) true 60 v d p) :
    ∃ x : EntM, v = .agg #[.int .i64 x.e.cl, .int .i64 x.e.nu, .int .i64 x.e.kd, .int .i64 x.e.id, .int .i64 x.e.srv.k, .int .i64 x.e.srv.q, .int .i64 x.e.srv.t, .int .i64 x.e.po, .slice x.a x.e.tasks.length x.c, .int .i64 x.e.at_] ∧ EntI x.e ∧ ((d.weights Tryz.prog 60).all (· ≤ reachBytes) = true → x.ok Any W) := by
  obtain ⟨cs, rfl, hsz⟩ := okWide_struct Tryz.underlying60 hval
  obtain ⟨fuel, hf⟩ := h
  obtain ⟨s, hcs, hs, hz⟩ := ent_of_trod _ _ _ hf
  simp [Value.cells] at hcs
  exact ⟨s, congrArg Value.agg (Array.ext' hcs), hs.1, fun hw => hs.ok (hz hw)⟩
set_option maxRecDepth 100000 in
theorem open_i64 {base : Nat} {v : Value} {d : DataW H} {p : List MemPlace} (hval : Value.okWide Tryz.prog W .any base 3 v) (h : DataW.Trod enc Tryz.prog W 0 (fun _ => true) true 3 v d p) : ∃ n, v = .int .i64 n ∧ I64 n := by
  obtain ⟨n, rfl, _, _, hw⟩ := open_int Tryz.underlying3 hval h
  exact ⟨n, rfl, i64_of_wf hw⟩

/-- The arguments read again. -/
theorem all_again {W' : World} (hb : Gr W W') : ∀ (ts : List TypeId) (vs : List Value) (ds : List (DataW H)) (p : List MemPlace),
    (ts.all fun t => Tryz.prog.readableRec t && decide (t < Tryz.prog.types.size)) = true → (∀ x ∈ p, x.block < W.heap.size) →
    DataW.TrodAll enc Tryz.prog W 0 (fun _ => true) true ts vs ds p → DataW.TrodAll enc Tryz.prog W' 0 (fun b => decide (b < W.heap.size)) true ts vs ds p := by
  intro ts
  induction ts with
  | nil =>
    intro vs ds p _ _ h
    obtain ⟨rfl, rfl, rfl⟩ := trodAll_nil h
    exact rfl
  | cons t ts ih =>
    intro vs ds p hts hp h
    simp only [List.all_cons, Bool.and_eq_true, decide_eq_true_eq] at hts
    obtain ⟨v, vs', d, ds', p1, q, rfl, rfl, rfl, h1, h2⟩ := trodAll_cons h
    exact trodAll_cons_mk (Below.trod laidOut hts.1.1 hts.1.2 h1 hb (fun x hx => hp x (List.mem_append_left _ hx))) (ih vs' ds' q (by simpa using hts.2) (fun x hx => hp x (List.mem_append_right _ hx)) h2)

/-- A LAW's POST: it returned true, and what was there is there as it was. -/
theorem post_law {f : Func} {s : ChangeSpec} {W' : World} {args : Array Value} {ds gs : List (DataW H)} {before : List MemPlace}
    (hps : (f.params.toList.all fun t => Tryz.prog.readableRec t && decide (t < Tryz.prog.types.size)) = true) (hrt : f.resultTypes = #[4]) (hvs : s.vars = [])
    (hfn : (s.fn H ds).results = [.lit (.bool true)] ∧ (s.fn H ds).args = ds ∧ (s.fn H ds).vars = [])
    (hW : DataW.Whole enc Tryz.prog f.params.toList s.vars false W args.toList ds gs before) (hb : Gr W W') :
    s.post enc Tryz.prog f false true false false W args (.bool true) W' := by
  have hlt := hW.lt
  have hW' := hW
  obtain ⟨p, q, hA, hV, rfl, hfz, hnd⟩ := hW
  rw [hvs] at hV
  obtain ⟨rfl, rfl⟩ := trodVars_none hV
  refine ⟨ds, [], p ++ [], [], p, [], hW', ?_, ?_, ?_, hb.frame _, fun h => by cases h⟩
  · rw [List.append_nil, hfn.1, hrt]
    exact trodAll_mk1 (shut_bool Tryz.underlying4 _)
  · rw [List.append_nil, hfn.2.1]
    exact all_again hb _ _ _ _ hps (fun x hx => hlt x (by simpa using hx)) hA
  · rw [List.append_nil, hfn.2.2, hvs]
    rfl
end
end Go.Proofs.YtglfdnfojpdkjaaGreatDoor
/- Openers of questions, answers, bytes. -/
namespace Go.Proofs.YtglfdnfojpdkjaaGreatDoor
open Go.ChangeShapes Go.WideShapes Go.ChangeAt Go.RowKit Go.Deep Go.Joins
section
variable {H : Type} {enc : TypeId × Value → H} {W : World}

theorem u8_of_wf {x : Int} (h : (Lit.int .u8 x).wf = true) : 0 ≤ x ∧ x ≤ 255 := by
  simp [Lit.wf, IntKind.min, IntKind.max, IntKind.signed, IntKind.bits] at h
  exact ⟨by omega, by omega⟩
theorem u8_val {x : Int} (h0 : 0 ≤ x) (h1 : x ≤ 255) : ((UInt8.ofNat x.toNat).toNat : Int) = x := by
  rw [UInt8.toNat_ofNat']
  omega
theorem byte_of_trod (n : Nat) (cs : List Value) (y : DataW H × List MemPlace) (h : DataW.trod enc Tryz.prog W 0 (fun _ => true) true n 5 cs = some y) : ∃ d : UInt8, cs = byteC d ∧ True ∧ ((y.1.weights Tryz.prog 5).all (· ≤ reachBytes) = true → True) := by
  obtain ⟨k, e0, _, w0⟩ := DataW.trod_int Tryz.underlying5 h
  obtain ⟨h0, h1⟩ := u8_of_wf w0
  refine ⟨UInt8.ofNat k.toNat, ?_, trivial, fun _ => trivial⟩
  subst e0
  show [Value.int .u8 k] = [Value.int .u8 _]
  rw [u8_val h0 h1]
/-- Bytes as they came in. -/
def BytG (W : World) (a : Option Addr) (c : Nat) (l : List UInt8) : Prop := BytesAt W a l ∧ (a = none → c = 0) ∧ l.length ≤ c ∧ c ≤ maxLen
set_option maxRecDepth 100000 in
theorem bytes_of_trod {fuel : Nat} {cs : List Value} {x : DataW H × List MemPlace} (h : DataW.trod enc Tryz.prog W 0 (fun _ => true) true fuel 44 cs = some x) :
    ∃ (a : Option Addr) (c : Nat) (l : List UInt8), cs = [.slice a l.length c] ∧ BytG W a c l ∧ ((x.1.weights Tryz.prog 44).all (· ≤ reachBytes) = true → l.length ≤ reachBytes) := by
  obtain ⟨a, c, l, e, r1, r2, r3, r4, _, r6⟩ := recs_of_trod (k := 1) (bytes := 1) (code := byteC) Tryz.underlying44 (by kernel_rfl) (by kernel_rfl) (by omega) byteC_len (byte_of_trod (enc := enc) (W := W)) h
  exact ⟨a, c, l, e, ⟨r1.1, r2, r3, r4⟩, fun hw => by have := (r6 hw).1; omega⟩
set_option maxRecDepth 100000 in
theorem open_bytes {base : Nat} {v : Value} {d : DataW H} {p : List MemPlace} (hval : Value.okWide Tryz.prog W .any base 44 v) (h : DataW.Trod enc Tryz.prog W 0 (fun _ => true) true 44 v d p) :
    ∃ (a : Option Addr) (c : Nat) (l : List UInt8), v = .slice a l.length c ∧ BytG W a c l ∧ ((d.weights Tryz.prog 44).all (· ≤ reachBytes) = true → l.length ≤ reachBytes) := by
  obtain ⟨a0, len, cap, rfl⟩ := okWide_slice Tryz.underlying44 hval
  obtain ⟨fuel, hf⟩ := h
  obtain ⟨a, c, l, hcs, r1, r2⟩ := bytes_of_trod hf
  simp [Value.cells] at hcs
  obtain ⟨rfl, rfl, rfl⟩ := hcs
  exact ⟨_, _, l, rfl, r1, r2⟩

/-- A question as it lies. -/
abbrev askC (k : Int) (x : EntM) : List Value := [.int .i64 k, .int .i64 x.e.cl, .int .i64 x.e.nu, .int .i64 x.e.kd, .int .i64 x.e.id, .int .i64 x.e.srv.k, .int .i64 x.e.srv.q, .int .i64 x.e.srv.t, .int .i64 x.e.po, .slice x.a x.e.tasks.length x.c, .int .i64 x.e.at_]
set_option maxRecDepth 100000 in
theorem ask_of_trod (n : Nat) (cs : List Value) (y : DataW H × List MemPlace) (h : DataW.trod enc Tryz.prog W 0 (fun _ => true) true n 29 cs = some y) : ∃ (k : Int) (s : EntM), cs = askC k s ∧ I64 k ∧ EntG W s ∧ ((y.1.weights Tryz.prog 29).all (· ≤ reachBytes) = true → s.e.tasks.length * 32 ≤ reachBytes) := by
  obtain ⟨y0, y1, y2, y3, m, hy, hlen, t0, t1, t2, t3⟩ := trod_struct4 Tryz.underlying29 h
  have hc : Tryz.prog.cellsOf 29 = 11 := by kernel_rfl
  have hci : Tryz.prog.cellsOf 3 = 1 := by kernel_rfl
  have hcs : Tryz.prog.cellsOf 24 = 3 := by kernel_rfl
  have hct : Tryz.prog.cellsOf 25 = 1 := by kernel_rfl
  have hco : Tryz.prog.cellsOf 27 = 8 := by kernel_rfl
  rw [hc] at hlen
  match cs, hlen with
  | [c, c0, c1, c2, c3, c4, c5, c6, c7, c8, c9], _ =>
    simp only [hci, hco] at t0 t1 t2 t3
    obtain ⟨kk, e, _, w⟩ := DataW.trod_int Tryz.underlying3 t0
    obtain ⟨cl, e0, _, w0⟩ := DataW.trod_int Tryz.underlying3 t1
    obtain ⟨nu, e1, _, w1⟩ := DataW.trod_int Tryz.underlying3 t2
    obtain ⟨xs, m2, _, hy2, _, hxl, hf⟩ := DataW.trod_struct Tryz.underlying27 t3
    match xs, hxl with
    | [z0, z1, z2, z3, z4, z5], _ =>
      have u0 : DataW.trod enc Tryz.prog W 0 (fun _ => true) true m2 3 (List.take (Tryz.prog.cellsOf 3) (List.drop 0 [c2, c3, c4, c5, c6, c7, c8, c9])) = some z0 := hf 0 _ rfl
      rw [hci] at u0
      have u1 : DataW.trod enc Tryz.prog W 0 (fun _ => true) true m2 3 (List.take (Tryz.prog.cellsOf 3) (List.drop 1 [c2, c3, c4, c5, c6, c7, c8, c9])) = some z1 := hf 1 _ rfl
      rw [hci] at u1
      have u2 : DataW.trod enc Tryz.prog W 0 (fun _ => true) true m2 24 (List.take (Tryz.prog.cellsOf 24) (List.drop 2 [c2, c3, c4, c5, c6, c7, c8, c9])) = some z2 := hf 2 _ rfl
      rw [hcs] at u2
      have u3 : DataW.trod enc Tryz.prog W 0 (fun _ => true) true m2 3 (List.take (Tryz.prog.cellsOf 3) (List.drop 5 [c2, c3, c4, c5, c6, c7, c8, c9])) = some z3 := hf 3 _ rfl
      rw [hci] at u3
      have u4 : DataW.trod enc Tryz.prog W 0 (fun _ => true) true m2 25 (List.take (Tryz.prog.cellsOf 25) (List.drop 6 [c2, c3, c4, c5, c6, c7, c8, c9])) = some z4 := hf 4 _ rfl
      rw [hct] at u4
      have u5 : DataW.trod enc Tryz.prog W 0 (fun _ => true) true m2 3 (List.take (Tryz.prog.cellsOf 3) (List.drop 7 [c2, c3, c4, c5, c6, c7, c8, c9])) = some z5 := hf 5 _ rfl
      rw [hci] at u5
      obtain ⟨kd, e2, _, w2⟩ := DataW.trod_int Tryz.underlying3 u0
      obtain ⟨id, e3, _, w3⟩ := DataW.trod_int Tryz.underlying3 u1
      obtain ⟨v0, v1, v2, m3, _, _, k0, k1, k2⟩ := trod_struct3 Tryz.underlying24 u2
      simp only [hci] at k0 k1 k2
      obtain ⟨s1, e4, _, w4⟩ := DataW.trod_int Tryz.underlying3 k0
      obtain ⟨s2, e5, _, w5⟩ := DataW.trod_int Tryz.underlying3 k1
      obtain ⟨s3, e6, _, w6⟩ := DataW.trod_int Tryz.underlying3 k2
      obtain ⟨po, e7, _, w7⟩ := DataW.trod_int Tryz.underlying3 u3
      obtain ⟨ta, tc, tl, e8, r1, r2, r3, r4, r5, r6⟩ := recs_of_trod (k := 4) (bytes := 32) (code := Tsk.cells) Tryz.underlying25 (by kernel_rfl) (by kernel_rfl) (by omega) Tsk.cells_len (tsk_of_trod (enc := enc) (W := W)) u4
      obtain ⟨at_, e9, _, w9⟩ := DataW.trod_int Tryz.underlying3 u5
      simp at e e0 e1 e2 e3 e4 e5 e6 e7 e8 e9
      subst e e0 e1 e2 e3 e4 e5 e6 e7 e8 e9
      refine ⟨kk, ⟨⟨cl, nu, kd, id, ⟨s1, s2, s3⟩, po, tl, at_⟩, ta, tc⟩, rfl, i64_of_wf w, ⟨⟨i64_of_wf w0, i64_of_wf w1, i64_of_wf w2, i64_of_wf w3, i64_of_wf w4, i64_of_wf w5, i64_of_wf w6, i64_of_wf w7, i64_of_wf w9, r5⟩, r1, r2, r3, r4⟩, fun hw => ?_⟩
      rw [hy] at hw
      simp only [DataW.weights, Tryz.underlying29, List.map_cons, List.map_nil, DataW.weightsEach, List.all_append, Bool.and_eq_true] at hw
      have hw2 := hw.2.2.2.1
      rw [hy2] at hw2
      simp only [DataW.weights, Tryz.underlying27, List.map_cons, List.map_nil, DataW.weightsEach, List.all_append, Bool.and_eq_true] at hw2
      exact (r6 hw2.2.2.2.2.1).1
set_option maxRecDepth 100000 in
theorem open_q {base : Nat} {v : Value} {d : DataW H} {p : List MemPlace} (hval : Value.okWide Tryz.prog W .any base 29 v) (h : DataW.Trod enc Tryz.prog W 0 (fun _ => true) true 29 v d p) :
    ∃ (k : Int) (x : EntM), v = .agg #[.int .i64 k, .int .i64 x.e.cl, .int .i64 x.e.nu, .int .i64 x.e.kd, .int .i64 x.e.id, .int .i64 x.e.srv.k, .int .i64 x.e.srv.q, .int .i64 x.e.srv.t, .int .i64 x.e.po, .slice x.a x.e.tasks.length x.c, .int .i64 x.e.at_] ∧ I64 k ∧ EntI x.e ∧ ((d.weights Tryz.prog 29).all (· ≤ reachBytes) = true → x.ok Any W) := by
  obtain ⟨cs, rfl, hsz⟩ := okWide_struct Tryz.underlying29 hval
  obtain ⟨fuel, hf⟩ := h
  obtain ⟨k, s, hcs, hk, hs, hz⟩ := ask_of_trod _ _ _ hf
  simp [Value.cells] at hcs
  exact ⟨k, s, congrArg Value.agg (Array.ext' hcs), hk, hs.1, fun hw => hs.ok (hz hw)⟩

/-- An answer as it lies. -/
structure Rep where
  cl : Int
  nu : Int
  co : Int
  id : Int
  tree : List UInt8
def RepI (r : Rep) : Prop := I64 r.cl ∧ I64 r.nu ∧ I64 r.co ∧ I64 r.id
set_option maxRecDepth 100000 in
theorem open_rep {base : Nat} {v : Value} {d : DataW H} {p : List MemPlace} (hval : Value.okWide Tryz.prog W .any base 46 v) (h : DataW.Trod enc Tryz.prog W 0 (fun _ => true) true 46 v d p) :
    ∃ (r : Rep) (a : Option Addr) (c : Nat), v = .agg #[.int .i64 r.cl, .int .i64 r.nu, .int .i64 r.co, .int .i64 r.id, .slice a r.tree.length c] ∧ RepI r ∧ BytG W a c r.tree ∧ ((d.weights Tryz.prog 46).all (· ≤ reachBytes) = true → r.tree.length ≤ reachBytes) := by
  obtain ⟨cs, rfl, hsz⟩ := okWide_struct Tryz.underlying46 hval
  obtain ⟨fuel, hf⟩ := h
  obtain ⟨xs, m2, _, hy2, hlen, hxl, hf⟩ := DataW.trod_struct Tryz.underlying46 hf
  have hc : Tryz.prog.cellsOf 46 = 5 := by kernel_rfl
  have hci : Tryz.prog.cellsOf 3 = 1 := by kernel_rfl
  have hct : Tryz.prog.cellsOf 44 = 1 := by kernel_rfl
  rw [hc] at hlen
  obtain ⟨cl⟩ := cs
  simp only [Value.cells] at hlen hf
  match cl, hlen, xs, hxl with
  | [c0, c1, c2, c3, c4], _, [z0, z1, z2, z3, z4], _ =>
    have u0 : DataW.trod enc Tryz.prog W 0 (fun _ => true) true m2 3 (List.take (Tryz.prog.cellsOf 3) (List.drop 0 [c0, c1, c2, c3, c4])) = some z0 := hf 0 _ rfl
    have u1 : DataW.trod enc Tryz.prog W 0 (fun _ => true) true m2 3 (List.take (Tryz.prog.cellsOf 3) (List.drop 1 [c0, c1, c2, c3, c4])) = some z1 := hf 1 _ rfl
    have u2 : DataW.trod enc Tryz.prog W 0 (fun _ => true) true m2 3 (List.take (Tryz.prog.cellsOf 3) (List.drop 2 [c0, c1, c2, c3, c4])) = some z2 := hf 2 _ rfl
    have u3 : DataW.trod enc Tryz.prog W 0 (fun _ => true) true m2 3 (List.take (Tryz.prog.cellsOf 3) (List.drop 3 [c0, c1, c2, c3, c4])) = some z3 := hf 3 _ rfl
    have u4 : DataW.trod enc Tryz.prog W 0 (fun _ => true) true m2 44 (List.take (Tryz.prog.cellsOf 44) (List.drop 4 [c0, c1, c2, c3, c4])) = some z4 := hf 4 _ rfl
    rw [hci] at u0 u1 u2 u3
    rw [hct] at u4
    obtain ⟨k0, e0, _, w0⟩ := DataW.trod_int Tryz.underlying3 u0
    obtain ⟨k1, e1, _, w1⟩ := DataW.trod_int Tryz.underlying3 u1
    obtain ⟨k2, e2, _, w2⟩ := DataW.trod_int Tryz.underlying3 u2
    obtain ⟨k3, e3, _, w3⟩ := DataW.trod_int Tryz.underlying3 u3
    obtain ⟨a, c, l, e4, r1, r2⟩ := bytes_of_trod u4
    simp at e0 e1 e2 e3 e4
    subst e0 e1 e2 e3 e4
    refine ⟨⟨k0, k1, k2, k3, l⟩, a, c, rfl, ⟨i64_of_wf w0, i64_of_wf w1, i64_of_wf w2, i64_of_wf w3⟩, r1, fun hw => ?_⟩
    have hd := congrArg Prod.fst hy2
    dsimp only at hd
    rw [hd] at hw
    simp only [DataW.weights, Tryz.underlying46, List.map_cons, List.map_nil, DataW.weightsEach, List.all_append, Bool.and_eq_true] at hw
    exact r2 hw.2.2.2.2.1
end
end Go.Proofs.YtglfdnfojpdkjaaGreatDoor
