/- From what a row's list of sentinels gives to the walks' premise; openers of arguments; a law's post. -/
import Derived.Test.YtblfljpmkgmjaaaDoorS0
import Derived.ProofKit
import Derived.OpenShut
import Derived.Deep.DeepHandedRow
import Derived.Deep.DeepWitnessRowRef
import Derived.LaidLaws
import Derived.LaidMore
import Derived.MakeChecks
import Derived.Deep.Slices
import Derived.Deep.Fields
import Derived.Lib.SmallJoins
namespace Go.Proofs.YtblfljpmkgmjaaaDoor
open Go.ChangeShapes Go.WideShapes Go.ChangeAt Go.RowKit Go.Deep

theorem own : ownKnob Tryd.prog.godebug = none := by kernel_rfl
theorem laidOut : laidOutB Tryd.prog = true := by kernel_rfl
theorem star : "*" ++ "errors.errorString" = "*errors.errorString" := by decide
theorem rowErr (u : TypeId) (h : Tryd.prog.typeName? 3 u = some "*errors.errorString") : u = 194 :=
  typeName_ptr_named (nm := "errors.errorString") (by rw [star]; kernel_rfl) (by kernel_rfl) (by decide) u (by rw [star]; exact h)
theorem cellsErr : Tryd.prog.cellsOf 210 = 1 := by kernel_rfl
theorem cellsStr : Tryd.prog.cellsOf 9 = 1 := by kernel_rfl

/-- A listed sentinel. -/
def sent (x : Nat × String × List UInt8) : String × DataW Unit := (x.2.1, .iface "*errors.errorString" (.ptr (.agg [.lit (.string x.2.2)])))
set_option maxRecDepth 100000 in
theorem sents_read {W : World} (L : List (Nat × String × List UInt8)) (hok : (L.all fun x => Tryd.prog.globalNamed x.2.1 == some x.1 && (Tryd.prog.globals[x.1]?).map (·.type) == some 27) = true) : ∀ ps, DataW.LaidVars Tryd.prog W (L.map sent) ps →
    (∀ b off, MemPlace.cell b off ∈ ps → (∃ c t, W.heap[b]? = some (.cells c t (0, 0))) ∧ ∀ u v, W.cell? ⟨b, off, none⟩ = some (.iface u v) → Value.okWide Tryd.prog W .any 0 u v) →
    ps.Nodup → ∃ E : Nat → Addr, (∀ x ∈ L, W.cell? ⟨x.1, 0, none⟩ = some (errAt E x.1) ∧ MemPlace.cell (E x.1).block (E x.1).off ∈ ps ∧ (E x.1).spot = none ∧ MemPlace.cell x.1 0 ∈ ps) ∧ ∀ x ∈ L, ∀ y ∈ L, x.1 ≠ y.1 → E x.1 ≠ E y.1 := by
  induction L with
  | nil => intro ps _ _ _; exact ⟨fun _ => ⟨0, 0, none⟩, (fun _ h => by cases h), (fun _ h => by cases h)⟩
  | cons x r ih =>
    intro ps h hrows hnd
    simp only [List.all_cons, Bool.and_eq_true] at hok
    obtain ⟨hx, hr⟩ := hok
    simp only [beq_iff_eq] at hx
    obtain ⟨g0, t0, cs0, f0, p0, q0, hg0, ht0, hv0, hd0, hq, e0⟩ := h
    obtain rfl := Option.some.inj (hx.1.symm.trans hg0)
    obtain rfl := Option.some.inj (hx.2.symm.trans ht0)
    obtain ⟨l0⟩ := cs0
    have ok0 : ∀ u v, l0 = [.iface u v] → Value.okWide Tryd.prog W .any 0 u v := fun u v e => by
      subst e
      subst e0
      exact (hrows x.1 0 (by simp [MemPlace.row])).2 u v (by simpa using World.var?_cell hg0 hv0 0)
    obtain ⟨a0, s0, rfl, hc0, hs0, hz0, rfl⟩ := errorString_of_trod Tryd.underlying27 rowErr Tryd.underlying194 Tryd.underlying210 rfl rfl Tryd.underlying9 cellsErr cellsStr hd0 ok0
    have hspot : a0.spot = none := by
      unfold World.cell? at hc0
      split at hc0
      · split at hc0
        · cases hc0
        · rename_i hh; simpa using hh
      · cases hc0
    subst e0
    have m0 : MemPlace.cell a0.block a0.off ∈ MemPlace.row ⟨x.1, 0, none⟩ 1 ++ MemPlace.row a0 1 ++ q0 := by simp [MemPlace.row]
    have m1 : MemPlace.cell x.1 0 ∈ MemPlace.row ⟨x.1, 0, none⟩ 1 ++ MemPlace.row a0 1 ++ q0 := by simp [MemPlace.row]
    have sub : ∀ p ∈ q0, p ∈ MemPlace.row ⟨x.1, 0, none⟩ 1 ++ MemPlace.row a0 1 ++ q0 := fun p hp => List.mem_append_right _ hp
    have ndq : q0.Nodup := List.Nodup.sublist (List.sublist_append_right _ _) hnd
    obtain ⟨E, hE, hne⟩ := ih hr q0 hq (fun b off hm => hrows b off (sub _ hm)) ndq
    have notin : ∀ y ∈ r, E y.1 ≠ a0 := fun y hy e => by
      have hm := (hE y hy).2.1
      rw [e] at hm
      rw [List.append_assoc, List.nodup_append, List.nodup_append] at hnd
      exact hnd.2.1.2.2 _ (by simp [MemPlace.row]) _ hm rfl
    refine ⟨fun g => if g = x.1 then a0 else E g, fun y hy => ?_, fun y hy z hz hyz => ?_⟩
    · by_cases hyx : y.1 = x.1
      · simp only [hyx, if_true, errAt]
        exact ⟨by simpa using World.var?_cell hg0 hv0 0, m0, hspot, m1⟩
      · have hyr : y ∈ r := by
          rcases List.mem_cons.1 hy with rfl | h
          · exact absurd rfl hyx
          · exact h
        have := hE y hyr
        simp only [hyx, if_false, errAt]
        exact ⟨this.1, sub _ this.2.1, this.2.2.1, sub _ this.2.2.2⟩
    · have inr : ∀ y ∈ x :: r, y.1 ≠ x.1 → y ∈ r := fun y hy hyx => by
        rcases List.mem_cons.1 hy with rfl | h
        · exact absurd rfl hyx
        · exact h
      by_cases hyx : y.1 = x.1
      · have hzx : z.1 ≠ x.1 := fun e => hyz (hyx.trans e.symm)
        simp only [hyx, hzx, if_true, if_false]
        exact fun e => notin z (inr z hz hzx) e.symm
      · by_cases hzx : z.1 = x.1
        · simp only [hyx, hzx, if_true, if_false]
          exact notin y (inr y hy hyx)
        · simp only [hyx, hzx, if_false]
          exact hne y (inr y hy hyx) z (inr z hz hzx) hyz

theorem eat_of_laid {W : World} (L : List (Nat × String × List UInt8)) (hok : (L.all fun x => Tryd.prog.globalNamed x.2.1 == some x.1 && (Tryd.prog.globals[x.1]?).map (·.type) == some 27) = true) (hpl : ((L.map sent).all fun x => x.2.handleName?.isNone) = true) (h : laidMetH Tryd.prog (L.map sent) W) :
    ∃ E, EAt (L.map (·.1)) E W := by
  rw [MakeChecks.laidMetH_plain _ _ _ hpl] at h
  obtain ⟨ps, hv, hnd, hrows⟩ := h
  obtain ⟨E, hE, hne⟩ := sents_read L hok ps hv hrows hnd
  have get : ∀ g, g ∈ L.map (·.1) → ∃ x ∈ L, x.1 = g := fun g hg => by simpa using hg
  have lt_of : ∀ b off, MemPlace.cell b off ∈ ps → b < W.heap.size := fun b off hm => by
    obtain ⟨c, t, e⟩ := (hrows b off hm).1
    exact (Array.getElem?_eq_some_iff.1 e).1
  refine ⟨E, ⟨fun g hg => ?_, fun g hg => ?_, fun g hg => ?_, fun g hg => ?_, fun g k hg hk hn => ?_⟩⟩
  · obtain ⟨x, hx, rfl⟩ := get g hg; exact lt_of _ _ (hE x hx).2.2.2
  · obtain ⟨x, hx, rfl⟩ := get g hg; exact lt_of _ _ (hE x hx).2.1
  · obtain ⟨x, hx, rfl⟩ := get g hg; exact (hE x hx).1
  · obtain ⟨x, hx, rfl⟩ := get g hg; exact (hrows _ _ (hE x hx).2.1).1
  · obtain ⟨x, hx, rfl⟩ := get g hg; obtain ⟨y, hy, rfl⟩ := get k hk; exact hne x hx y hy hn
section
variable {H : Type} {enc : TypeId × Value → H} {P : Program} {w : World} {base : Nat} {spare : Nat → Bool} {held : Bool}
theorem open_slice_fields {t e : TypeId} {fs : Array Field} {fuel : Nat} {cs : List Value} {x : DataW H × List MemPlace} (ht : P.underlying t = some (.slice e)) (he : P.underlying e = some (.struct fs))
    (hone : oneCellFields P fs = true) (hC : P.cellsOf e = fs.size) (h : DataW.trod enc P w base spare held fuel t cs = some x) :
    (cs = [.slice none 0 0] ∧ x = (.nil, [])) ∨
    ∃ (a : Addr) (len cap m : Nat) (D : Nat → DataW H) (Pl : Nat → List MemPlace), cs = [.slice (some a) len cap] ∧ base ≤ a.block ∧ len ≤ cap ∧ cap ≤ maxLen ∧ m = (if spare a.block then cap else len) ∧
      x = (.slice ((List.range len).map D) ((List.range (m - len)).map fun j => D (len + j)), MemPlace.row a (m * fs.size) ++ (List.range m).flatMap Pl) ∧
      ∀ i, i < m → ∃ (ys : List (DataW H × List MemPlace)) (n : Nat), D i = .agg (ys.map (·.1)) ∧ Pl i = ys.flatMap (·.2) ∧ ys.length = fs.size ∧
        ∀ (j : Nat) (f : Field), fs[j]? = some f → ∃ (v : Value) (y : DataW H × List MemPlace), w.cell? (a.add (i * fs.size + j)) = some v ∧ ys[j]? = some y ∧ DataW.trod enc P w base spare held n f.type [v] = some y := by
  rcases open_slice ht h with h0 | ⟨a, len, cap, m, n, D, Pl, hcs, hb, hl, hm, hmm, hx, hi⟩
  · exact .inl h0
  · refine .inr ⟨a, len, cap, m, D, Pl, hcs, hb, hl, hm, hmm, by rw [hC] at hx; exact hx, fun i him => ?_⟩
    obtain ⟨cs', hc, ht'⟩ := hi i him
    rw [hC] at hc
    obtain ⟨ys, n', hn', hy, hlen, hyl, hf⟩ := DataW.trod_struct he ht'
    obtain ⟨_, hcl, hat⟩ := World.cells?_some hc
    simp only [Prod.mk.injEq] at hy
    refine ⟨ys, n', hy.1, hy.2, hyl, fun j f hj => ?_⟩
    obtain ⟨ho, hk⟩ := hone_of hone j f hj
    have hjl : j < fs.size := (Array.getElem?_eq_some_iff.1 hj).1
    have hcell := hat j hjl
    have hv : cs'[j]? = some (cs'[j]'(by omega)) := List.getElem?_eq_getElem (by omega)
    have h1 := hf j f hj
    rw [ho, hk] at h1
    have hone' : (cs'.drop j).take 1 = [cs'[j]'(by omega)] := by
      rw [List.drop_eq_getElem_cons (by omega)]
      rfl
    rw [hone'] at h1
    have hys : ys[j]? = some (ys[j]'(by omega)) := List.getElem?_eq_getElem (by omega)
    refine ⟨_, _, ?_, hys, h1.trans hys⟩
    rw [← Go.Deep.add_add, hcell, hv]
end
end Go.Proofs.YtblfljpmkgmjaaaDoor
