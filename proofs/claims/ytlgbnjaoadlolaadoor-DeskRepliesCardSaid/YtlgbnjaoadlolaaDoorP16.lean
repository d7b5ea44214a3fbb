/- wire.Reader: a number, as it is read. -/
import Derived.Test.YtlgbnjaoadlolaaDoorP14
import Derived.IntWalk
namespace Go.Proofs.YtlgbnjaoadlolaaDoor
open Go.RowKit

/-- A number's value and how many bytes it has, at most f of them. -/
def rdN : Nat → List UInt8 → Option (Nat × Nat)
  | 0, _ => none
  | _ + 1, [] => none
  | f + 1, c :: l => if c.toNat < 128 then some (c.toNat, 1) else (rdN f l).map fun q => (c.toNat - 128 + 128 * q.1, q.2 + 1)
/-- In its shortest form. -/
def numR (l : List UInt8) : Option (Nat × Nat) := match rdN 9 l with
  | none => none
  | some q => if l[q.2 - 1]? = some 0 ∧ q.2 ≠ 1 then none else some q

theorem rdN_bd : ∀ (f : Nat) (l : List UInt8) (q : Nat × Nat), rdN f l = some q → q.1 < 128 ^ f ∧ 1 ≤ q.2 ∧ q.2 ≤ f ∧ q.2 ≤ l.length
  | 0, _, _, h => by cases h
  | f + 1, [], _, h => by cases h
  | f + 1, c :: l, q, h => by
    unfold rdN at h
    have hp : 0 < 128 ^ f := Nat.pow_pos (by decide)
    split at h
    · cases h
      rw [Nat.pow_succ]
      refine ⟨by show c.toNat < _; omega, Nat.le_refl _, by omega, by simp⟩
    · obtain ⟨x, hx, rfl⟩ := Option.map_eq_some_iff.1 h
      obtain ⟨h1, h2, h3, h4⟩ := rdN_bd f l x hx
      have := c.toNat_lt
      rw [Nat.pow_succ]
      refine ⟨by show c.toNat - 128 + 128 * x.1 < _; omega, by show 1 ≤ x.2 + 1; omega, by show x.2 + 1 ≤ _; omega, by simp only [List.length_cons]; omega⟩
theorem numB_fuel : ∀ (f n : Nat) (r : List UInt8), n < 128 ^ f → 0 < f → rdN f (numB n ++ r) = some (n, (numB n).length)
  | 0, _, _, _, h => by omega
  | f + 1, n, r, h, _ => by
    by_cases hs : n < 128
    · have ht : (UInt8.ofNat n).toNat = n := by rw [UInt8.toNat_ofNat']; omega
      rw [numB_small hs]
      show (if (UInt8.ofNat n).toNat < 128 then _ else _) = _
      rw [ht, if_pos hs]
      rfl
    · have ht : (UInt8.ofNat (n % 128 + 128)).toNat = n % 128 + 128 := by rw [UInt8.toNat_ofNat']; omega
      rw [numB_great hs]
      show (if (UInt8.ofNat (n % 128 + 128)).toNat < 128 then _ else (rdN f (numB (n / 128) ++ r)).map fun q => ((UInt8.ofNat (n % 128 + 128)).toNat - 128 + 128 * q.1, q.2 + 1)) = _
      have hf : 0 < f := by
        rcases Nat.eq_zero_or_pos f with h0 | h0
        · subst h0; rw [Nat.pow_succ] at h; simp at h; omega
        · exact h0
      have hd : n / 128 < 128 ^ f := by rw [Nat.pow_succ] at h; omega
      rw [ht, if_neg (by omega), numB_fuel f (n / 128) r hd hf]
      show some (_, _) = _
      congr 2
      · omega
theorem numB_last : ∀ (k n : Nat), n < 128 ^ (k + 1) → (numB n)[(numB n).length - 1]? = some 0 → n = 0
  | k, n, hk, h => by
    by_cases hs : n < 128
    · rw [numB_small hs] at h
      have hq : UInt8.ofNat n = 0 := by simpa using h
      have ht : (UInt8.ofNat n).toNat = n := by rw [UInt8.toNat_ofNat']; omega
      rw [hq] at ht
      simpa using ht.symm
    · have hl : 1 ≤ (numB (n / 128)).length := by
        by_cases hs2 : n / 128 < 128
        · rw [numB_small hs2]; simp
        · rw [numB_great hs2]; simp
      rw [numB_great hs] at h
      simp only [List.length_cons, Nat.add_sub_cancel] at h
      rw [List.getElem?_cons] at h
      rw [if_neg (by omega)] at h
      cases k with
      | zero => simp at hk; omega
      | succ k =>
        have := numB_last k (n / 128) (by rw [Nat.pow_succ] at hk; omega) h
        omega
/-- What was put is read. -/
theorem numR_put {n : Nat} (h : n < 9223372036854775808) (r : List UInt8) : numR (numB n ++ r) = some (n, (numB n).length) := by
  unfold numR
  rw [numB_fuel 9 n r (by omega) (by decide)]
  have hl : 1 ≤ (numB n).length := by
    by_cases hs2 : n < 128
    · rw [numB_small hs2]; simp
    · rw [numB_great hs2]; simp
  show (if _ ∧ _ then _ else _) = _
  rw [if_neg]
  rintro ⟨h0, h1⟩
  dsimp only at h0 h1
  rw [List.getElem?_append_left (by omega)] at h0
  have := numB_last 9 n (by omega) h0
  subst this
  rw [numB_small (by decide)] at h1
  exact h1 rfl
theorem rdN_put : ∀ (f : Nat) (l : List UInt8) (q : Nat × Nat), rdN f l = some q → ¬ (l[q.2 - 1]? = some 0 ∧ q.2 ≠ 1) → l = numB q.1 ++ l.drop q.2 ∧ q.2 = (numB q.1).length
  | 0, _, _, h, _ => by cases h
  | f + 1, [], _, h, _ => by cases h
  | f + 1, c :: l, q, h, hn => by
    unfold rdN at h
    split at h
    · rename_i hc
      cases h
      rw [numB_small hc]
      have : UInt8.ofNat c.toNat = c := by simp
      rw [this]
      exact ⟨rfl, rfl⟩
    · rename_i hc
      obtain ⟨x, hx, rfl⟩ := Option.map_eq_some_iff.1 h
      obtain ⟨h1, h2, h3, h4⟩ := rdN_bd f l x hx
      dsimp only at hn ⊢
      have hn2 : ¬ (l[x.2 - 1]? = some 0) := by
        intro h0
        apply hn
        refine ⟨?_, by omega⟩
        rw [show x.2 + 1 - 1 = (x.2 - 1) + 1 by omega, List.getElem?_cons_succ]
        exact h0
      obtain ⟨i1, i2⟩ := rdN_put f l x hx (fun hh => hn2 hh.1)
      have hx1 : x.1 ≠ 0 := by
        intro h0
        rw [h0, numB_small (by decide)] at i1 i2
        apply hn2
        rw [i2, i1]
        simp
      have hct := c.toNat_lt
      have hg : ¬ c.toNat - 128 + 128 * x.1 < 128 := by omega
      rw [numB_great hg]
      have e1 : (c.toNat - 128 + 128 * x.1) % 128 + 128 = c.toNat := by omega
      have e2 : (c.toNat - 128 + 128 * x.1) / 128 = x.1 := by omega
      rw [e1, e2]
      have : UInt8.ofNat c.toNat = c := by simp
      rw [this, List.drop_succ_cons, List.cons_append, ← i1]
      exact ⟨rfl, by rw [List.length_cons, ← i2]⟩
/-- What is read was put. -/
theorem numR_get {l : List UInt8} {v k : Nat} (h : numR l = some (v, k)) : l = numB v ++ l.drop k ∧ k = (numB v).length ∧ v < 9223372036854775808 := by
  unfold numR at h
  split at h
  · cases h
  · rename_i q hq
    split at h
    · cases h
    · rename_i hn
      cases h
      obtain ⟨h1, h2⟩ := rdN_put 9 l _ hq hn
      have := (rdN_bd 9 l _ hq).1
      exact ⟨h1, h2, by dsimp only at this; omega⟩
end Go.Proofs.YtlgbnjaoadlolaaDoor
