/- The opener of a list of numbers. -/
import Derived.Test.YtmookdgeblcjnaaDoorL2
import Derived.Test.YtmookdgeblcjnaaDoorE2
import Derived.Lib.SmallJoins
namespace Go.Proofs.YtmookdgeblcjnaaDoor
open Go.ChangeShapes Go.WideShapes Go.ChangeAt Go.RowKit Go.Deep Go.Joins

theorem chosen {α : Type} {n : Nat} {p : Nat → α → Prop} (h : ∀ i, i < n → ∃ s, p i s) : ∃ l : List α, l.length = n ∧ ∀ i s, l[i]? = some s → p i s := by
  induction n with
  | zero => exact ⟨[], rfl, fun i s h => by simp at h⟩
  | succ n ih =>
    obtain ⟨l, hl, hp⟩ := ih (fun i hi => h i (by omega))
    obtain ⟨s, hs⟩ := h n (by omega)
    refine ⟨l ++ [s], by simp [hl], fun i x hx => ?_⟩
    by_cases hi : i < n
    · rw [List.getElem?_append_left (by omega)] at hx; exact hp i x hx
    · rw [List.getElem?_append_right (by omega)] at hx
      have h0 : i - l.length = 0 := by
        have := get_lt hx
        simpa using this
      rw [h0] at hx
      obtain rfl : s = x := by simpa using hx
      obtain rfl : i = n := by omega
      exact hs
section
variable {H : Type} {enc : TypeId × Value → H} {W : World}

theorem weightsAll_mem {e : TypeId} : ∀ (l : List (DataW H)) (d : DataW H), d ∈ l → (DataW.weightsAll Tryd.prog e l).all (· ≤ reachBytes) = true → (d.weights Tryd.prog e).all (· ≤ reachBytes) = true
  | x :: r, d, hd, h => by
    simp only [DataW.weightsAll, List.all_append, Bool.and_eq_true] at h
    rcases List.mem_cons.1 hd with rfl | hd
    · exact h.1
    · exact weightsAll_mem r d hd h.2

set_option maxRecDepth 100000 in
/-- A slice of records, each of which can be read. -/
theorem recs_of_trod {α : Type} {k bytes : Nat} {code : α → List Value} {Good Size : α → Prop} {t e : TypeId} (ht : Tryd.prog.underlying t = some (.slice e)) (hk : Tryd.prog.cellsOf e = k) (hb : Tryd.prog.bytesOf e = bytes) (hk0 : 0 < k) (hlen : ∀ s, (code s).length = k)
    (hdec : ∀ n cs y, DataW.trod enc Tryd.prog W 0 (fun _ => true) true n e cs = some y → ∃ s, cs = code s ∧ Good s ∧ ((y.1.weights Tryd.prog e).all (· ≤ reachBytes) = true → Size s))
    {fuel : Nat} {cs : List Value} {x : DataW H × List MemPlace} (h : DataW.trod enc Tryd.prog W 0 (fun _ => true) true fuel t cs = some x) :
    ∃ (a : Option Addr) (c : Nat) (l : List α), cs = [.slice a l.length c] ∧ RecsAt k code W a l ∧ (a = none → c = 0) ∧ l.length ≤ c ∧ c ≤ maxLen ∧ (∀ s ∈ l, Good s) ∧ ((x.1.weights Tryd.prog t).all (· ≤ reachBytes) = true → l.length * bytes ≤ reachBytes ∧ ∀ s ∈ l, Size s) := by
  rcases open_slice ht h with ⟨rfl, _⟩ | ⟨a, len, cap, m, n, D, Pl, rfl, _, hl, hm, hmm, hx, hi⟩
  · exact ⟨none, 0, [], rfl, (fun i s hs => by simp at hs), (fun _ => rfl), Nat.le_refl _, Nat.zero_le _, (fun _ h => by cases h), fun _ => ⟨by simp, fun _ h => by cases h⟩⟩
  · simp only [if_true] at hmm
    subst hmm
    rw [hk] at hi
    have each : ∀ i, i < len → ∃ s : α, (∀ j u, (code s)[j]? = some u → W.cell? (a.add (i * k + j)) = some u) ∧ Good s ∧ (((D i).weights Tryd.prog e).all (· ≤ reachBytes) = true → Size s) := fun i h => by
      obtain ⟨cs', hc, htr⟩ := hi i (by omega)
      obtain ⟨s, rfl, hg, hz⟩ := hdec _ _ _ htr
      obtain ⟨_, _, hat⟩ := World.cells?_some hc
      refine ⟨s, fun j u hu => ?_, hg, hz⟩
      have hj : j < k := by rw [← hlen s]; exact (List.getElem?_eq_some_iff.1 hu).1
      rw [← hu, ← hat j hj]
      congr 1
      unfold Addr.add
      by_cases h1 : i * k = 0
      · by_cases h2 : j = 0 <;> simp [h1, h2]
      · by_cases h2 : j = 0
        · simp [h1, h2]
        · have h3 : ¬ (i * k + j = 0) := by omega
          simp [h1, h2, Nat.add_assoc]
    obtain ⟨l, hll, hp⟩ := chosen each
    refine ⟨some a, _, l, by rw [hll], fun i s hs => ?_, (fun h => by cases h), by omega, hm, fun s hs => ?_, fun hw => ?_⟩
    · have hi0 : i < len := by have := get_lt hs; omega
      obtain ⟨hc, _⟩ := hp i s hs
      have hne : code s ≠ [] := fun e => by have := hlen s; rw [e] at this; simp at this; omega
      -- the place is plain
      obtain ⟨s0, hs0⟩ := get_some l 0 (by omega)
      obtain ⟨hc0, _⟩ := hp 0 s0 hs0
      have hlen0 := hlen s0
      obtain ⟨u0, hu0⟩ : ∃ u, (code s0)[0]? = some u := ⟨(code s0)[0]'(by omega), List.getElem?_eq_getElem _⟩
      obtain ⟨b, o, rfl⟩ := add_plain (n := 0) (by simpa using hc0 0 u0 hu0)
      have hbl : b < W.heap.size := by have := (cell_lt (hc0 0 u0 hu0)).1; simpa [add_mk] using this
      refine ⟨b, o, rfl, hbl, fun j u hu => ?_⟩
      have := hc j u hu
      rw [add_mk] at this
      rw [Nat.add_assoc]
      exact this
    · obtain ⟨i, hi'⟩ := List.mem_iff_getElem?.1 hs
      exact (hp i s hi').2.1
    · subst hx
      simp only [DataW.weights, ht, List.all_cons, List.all_append, Bool.and_eq_true, List.length_map, List.length_range, hb] at hw
      refine ⟨Nat.le_trans (Nat.mul_le_mul_right _ (by omega)) (of_decide_eq_true hw.1), fun s hs => ?_⟩
      obtain ⟨i, hi'⟩ := List.mem_iff_getElem?.1 hs
      have hi0 : i < len := by have := get_lt hi'; omega
      refine (hp i s hi').2.2 (weightsAll_mem _ _ ?_ hw.2.1)
      exact List.mem_map.2 ⟨i, List.mem_range.2 hi0, rfl⟩

theorem int_of_trod (n : Nat) (cs : List Value) (y : DataW H × List MemPlace) (h : DataW.trod enc Tryd.prog W 0 (fun _ => true) true n 3 cs = some y) : ∃ d : Int, cs = intC d ∧ I64 d ∧ ((y.1.weights Tryd.prog 3).all (· ≤ reachBytes) = true → True) := by
  obtain ⟨k, e0, _, w0⟩ := DataW.trod_int Tryd.underlying3 h
  exact ⟨k, e0, i64_of_wf w0, fun _ => trivial⟩
set_option maxRecDepth 100000 in
theorem open_ints {base : Nat} {v : Value} {d : DataW H} {p : List MemPlace} (hval : Value.okWide Tryd.prog W .any base 40 v) (h : DataW.Trod enc Tryd.prog W 0 (fun _ => true) true 40 v d p) :
    ∃ (a : Option Addr) (c : Nat) (L : List Int), v = .slice a L.length c ∧ IntsAt W a L ∧ (a = none → c = 0) ∧ L.length ≤ maxLen ∧ (∀ x ∈ L, I64 x) := by
  obtain ⟨a0, len, cap, rfl⟩ := okWide_slice Tryd.underlying40 hval
  obtain ⟨fuel, hf⟩ := h
  obtain ⟨a, c, L, hcs, r1, r2, r3, r4, r5, r6⟩ := recs_of_trod (k := 1) (bytes := 8) (code := intC) Tryd.underlying40 (by kernel_rfl) (by kernel_rfl) (by omega) (fun _ => rfl) (int_of_trod (enc := enc) (W := W)) hf
  simp [Value.cells] at hcs
  obtain ⟨rfl, rfl, rfl⟩ := hcs
  exact ⟨_, _, L, rfl, r1, r2, by omega, r5⟩
end
end Go.Proofs.YtmookdgeblcjnaaDoor
