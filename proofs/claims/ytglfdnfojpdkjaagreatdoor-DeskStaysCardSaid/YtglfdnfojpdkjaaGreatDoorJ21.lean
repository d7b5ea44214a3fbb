/- AdmitBeyond: the walk. -/
import Derived.Test.YtglfdnfojpdkjaaGreatDoorJ19
import Derived.Test.YtglfdnfojpdkjaaGreatDoorJ15
import Derived.Test.YtglfdnfojpdkjaaGreatDoorJ14
import Derived.Test.YtglfdnfojpdkjaaGreatDoorJ16
import Derived.Deep.RegionLaw
namespace Go.Proofs.YtglfdnfojpdkjaaGreatDoor
open Go.RowKit

theorem mask38 (n : Int) : 0 ≤ bits .and .i64 n 274877906943 ∧ bits .and .i64 n 274877906943 ≤ 274877906943 := by
  have e : bits .and .i64 n 274877906943 = n % 274877906944 := by
    have h38 : (BitVec.ofInt 64 274877906943).toNat = 2 ^ 38 - 1 := by decide
    have key : (BitVec.ofInt 64 n &&& BitVec.ofInt 64 274877906943).toNat = (n % ((2 ^ 64 : Nat) : Int)).toNat % 2 ^ 38 := by
      rw [BitVec.toNat_and, BitVec.toNat_ofInt, h38, Nat.and_two_pow_sub_one_eq_mod]
    show IntKind.i64.wrap ((BitVec.ofInt 64 n &&& BitVec.ofInt 64 274877906943).toNat : Nat) = n % 274877906944
    rw [key, IntKind.wrap_i64]
    omega
  rw [e]
  omega

/-- Guest under PolicyDeadline: an error, or the guest fits. -/
theorem guest1_any {G : List Nat} {E : Nat → Addr} (W : World) (hE : EAt G E W) (i0 : 4 ∈ G) (i1 : 5 ∈ G) (i4 : 6 ∈ G) (s : Srv) (a : Option Addr) (t : List Tsk) (c : Nat) (ht : TsksAt W a t) (hm : t.length ≤ maxLen) :
    ∃ o : Option Nat, (∀ w, Gr W w → Calls Tryz.prog 123 #[.agg #[.int .i64 s.k, .int .i64 s.q, .int .i64 s.t], .int .i64 1, .slice a t.length c] w fun e w' => e = .returned (errV E o) ∧ Gr w w') ∧ (o = none → parOk s = true ∧ tasksOk t = true ∧ ∀ n : Nat, tasksI t n ≤ givI (rowI s) n) := by
  cases hp : parOk s with
  | false => exact ⟨some 4, fun w g => guest_par s 1 a t c w (hE.gr g) i0 hp, fun h => by cases h⟩
  | true =>
    cases hg : guestOk 1 t with
    | false => exact ⟨some 6, fun w g => guest_bad s 1 a t c w (hE.gr g) i4 hp (ht.gr g) hm hg, fun h => by cases h⟩
    | true =>
      cases hb1 : lineB s (shareT t) (sumC t + maxS t) with
      | false => exact ⟨some 5, fun w g => guestD_line s a t c w (hE.gr g) i0 i1 hp (ht.gr g) hg hb1, fun h => by cases h⟩
      | true =>
        cases hb2 : fitsD s t with
        | false => exact ⟨some 5, fun w g => guestD_over s a t c w (hE.gr g) i0 i1 hp (ht.gr g) hg hb1 hb2, fun h => by cases h⟩
        | true =>
          refine ⟨none, fun w g => guestD_yes s a t c w (hE.gr g) i0 hp (ht.gr g) hg hb1 hb2, fun _ => ?_⟩
          obtain ⟨_, _, hok⟩ := (guestOk_iff 1 t).1 hg
          refine ⟨rfl, hok, fun n => tasks_beyond hp hok hb1 (fun x x1 x2 hd => ?_) n⟩
          have e : ((x.toNat : Nat) : Int) = x := by omega
          have := fitsD_iff.1 hb2 x.toNat (by omega) (by rw [e]; exact hd)
          rwa [e] at this

end Go.Proofs.YtglfdnfojpdkjaaGreatDoor
/- AdmitFewer: the walk. -/
namespace Go.Proofs.YtglfdnfojpdkjaaGreatDoor
open Go.RowKit

/-- At a step of a region that draws its order: append(own, src...), the source read as records. -/
theorem step_append_recs {α : Type} {k : Nat} {enc : α → List Value} {P : Program} {ops : Array Oper} {o : Oper} {a : Act} {w : World} {K : Act → World → Prop} {Q : Exit → Act → World → Prop} {E : Prop} (hgd : o.guard = none) (s x : Operand) (t : TypeId)
    (ho : o.op = .call { callee := .builtin .append, args := #[s, x], argTypes := #[t, t] })
    (base : Nat) (e : TypeId) (i : TypeInfo) (z : Value) (bytes : Nat) (ht : P.underlying t = some (.slice e)) (hi : P.info? e = some i) (hz : i.zero = some z)
    (hsize : i.size = k) (hby : i.bytes = bytes) (hzs : z.cells.size = k) (hsz : 0 < k)
    (hk : ∀ s, (enc s).length = k) (h1 : ∀ s, ∀ u ∈ enc s, u.oneCell' = true)
    (v : Value) (l0 : List α) (hs : a.eval s = v) (hown : w.ownsRow base e k v l0.length (l0.flatMap enc))
    (ad : Addr) (m c : Nat) (l : List α) (hm : l.length = m) (hx : a.eval x = .slice (some ad) m c) (hl : RecsAt k enc w (some ad) l)
    (h63 : l0.length + m ≤ maxLen) (hbytes : (l0.length + m) * bytes ≤ 140737488355328) (hbase : base ≤ w.heap.size)
    (h : ∀ v' w', w'.ownsRow base e k v' (l0 ++ l).length ((l0 ++ l).flatMap enc) → w.grownBy w' v.ownBlock → K (a.put o.dst v') w') :
    if Region.wanted o (yielded ops a.tmps) = true then Oper.wp P o a w K Q else E := by
  subst hm
  have hw : Region.wanted o (yielded ops a.tmps) = true := by simp [Region.wanted, hgd]
  rw [if_pos hw]
  refine wp_append_own w s x t ho base e i z k bytes ht hi hz hsize hby hzs hsz v l0.length (l0.flatMap enc) hs hown ad l.length c (l.flatMap enc) hx (flat_len hk l) ?_ ?_ h63 hbytes hbase ?_
  · intro j u hj
    obtain ⟨y, hy, hu⟩ := flat_at hk hsz l j u hj
    obtain ⟨b, off, hh, _, hcell⟩ := hl _ y hy
    obtain rfl := Option.some.inj hh
    have := hcell _ u hu
    have e1 : off + j / k * k + j % k = off + j := by rw [Nat.add_assoc, Nat.mul_comm, Nat.div_add_mod]
    rw [e1] at this
    unfold Addr.add
    by_cases hj0 : j = 0
    · subst hj0; simpa using this
    · simpa [hj0] using this
  · intro u hu
    obtain ⟨y, _, hy⟩ := List.mem_flatMap.1 hu
    exact h1 y u hy
  · intro v' w' ho' hg' _
    exact h v' w' (by simpa using ho') hg'

theorem recs_drop {α : Type} {k : Nat} {enc : α → List Value} {w : World} {b off : Nat} {l : List α} (h : RecsAt k enc w (some ⟨b, off, none⟩) l) (n : Nat) : RecsAt k enc w (some ⟨b, off + n * k, none⟩) (l.drop n) := by
  intro i s hi
  rw [List.getElem?_drop] at hi
  obtain ⟨b', off', ha, hb, hc⟩ := h _ s hi
  cases ha
  refine ⟨_, _, rfl, hb, fun j u hu => ?_⟩
  have := hc j u hu
  rw [Nat.add_mul] at this
  rw [show off + n * k + i * k + j = off + (n * k + i * k) + j by omega]
  exact this

theorem from_ok (d : Int) (N : Nat) (h : 1 ≤ N) : ∃ f : Nat, (d.tmod N + N).tmod N = (f : Int) ∧ f < N := by
  have t1 : -(N : Int) < d.tmod N := by have := Int.lt_tmod_of_pos d (b := (N : Int)) (by omega); omega
  have h1 : 0 ≤ (d.tmod N + N).tmod N := Int.tmod_nonneg _ (by omega)
  have h2 : (d.tmod N + N).tmod N < N := Int.tmod_lt_of_pos _ (by omega)
  exact ⟨((d.tmod N + N).tmod N).toNat, by omega, by omega⟩

/-- Guest under PolicyOrder: an error, or the guest fits. -/
theorem guest2_any {G : List Nat} {E : Nat → Addr} (W : World) (hE : EAt G E W) (i0 : 4 ∈ G) (i1 : 5 ∈ G) (i4 : 6 ∈ G) (s : Srv) (a : Option Addr) (t : List Tsk) (c : Nat) (ht : TsksAt W a t) (hm : t.length ≤ maxLen) :
    ∃ o : Option Nat, (∀ w, Gr W w → Calls Tryz.prog 123 #[.agg #[.int .i64 s.k, .int .i64 s.q, .int .i64 s.t], .int .i64 2, .slice a t.length c] w fun e w' => e = .returned (errV E o) ∧ Gr w w') ∧ (o = none → parOk s = true ∧ guestOk 2 t = true ∧ fitsO s t = true) := by
  cases hp : parOk s with
  | false => exact ⟨some 4, fun w g => guest_par s 2 a t c w (hE.gr g) i0 hp, fun h => by cases h⟩
  | true =>
    cases hg : guestOk 2 t with
    | false => exact ⟨some 6, fun w g => guest_bad s 2 a t c w (hE.gr g) i4 hp (ht.gr g) hm hg, fun h => by cases h⟩
    | true =>
      cases hf : fitsO s t with
      | false =>
        refine ⟨some 5, fun w g => ?_, fun h => by cases h⟩
        have := guestO_any s a t c w (hE.gr g) i1 hp (ht.gr g) hg
        rw [hf] at this
        exact this
      | true =>
        refine ⟨none, fun w g => ?_, fun _ => ⟨rfl, rfl, rfl⟩⟩
        have := guestO_any s a t c w (hE.gr g) i1 hp (ht.gr g) hg
        rw [hf] at this
        exact this

end Go.Proofs.YtglfdnfojpdkjaaGreatDoor
