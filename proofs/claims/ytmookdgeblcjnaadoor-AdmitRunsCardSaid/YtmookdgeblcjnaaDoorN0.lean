/- Numbers as digits of base 65536, lowest first, in plain numbers. Nothing of the program is named here. -/
import Derived.Test.YtmookdgeblcjnaaDoorR
namespace Go.Proofs.YtmookdgeblcjnaaDoor
open Go.RowKit

def valD : List Int → Int
  | [] => 0
  | d :: r => d + 65536 * valD r
def Dig (l : List Int) : Prop := ∀ d ∈ l, 0 ≤ d ∧ d < 65536
def P64 (i : Nat) : Int := ((65536 ^ i : Nat) : Int)
theorem P64_zero : P64 0 = 1 := rfl
theorem P64_succ (i : Nat) : P64 (i + 1) = P64 i * 65536 := by unfold P64; rw [Nat.pow_succ]; simp
theorem P64_pos (i : Nat) : 1 ≤ P64 i := by unfold P64; have := Nat.pow_pos (n := i) (show 0 < 65536 by decide); omega
theorem P64_add (i j : Nat) : P64 (i + j) = P64 i * P64 j := by unfold P64; rw [Nat.pow_add]; simp
theorem valD_append (a b : List Int) : valD (a ++ b) = valD a + P64 a.length * valD b := by
  induction a with
  | nil => simp [valD, P64_zero]
  | cons d r ih =>
    rw [List.cons_append, valD, valD, ih, List.length_cons, P64_succ, Int.mul_add, Int.mul_comm (P64 r.length) 65536, Int.mul_assoc, Int.add_assoc]
theorem valD_one (d : Int) : valD [d] = d := by simp [valD]
theorem valD_zeros (n : Nat) : valD (List.replicate n 0) = 0 := by
  induction n with
  | zero => rfl
  | succ n ih => rw [List.replicate_succ, valD, ih]; rfl
theorem Dig.append {a b : List Int} (ha : Dig a) (hb : Dig b) : Dig (a ++ b) := fun d h => (List.mem_append.1 h).elim (ha d) (hb d)
theorem Dig.one {d : Int} (h : 0 ≤ d ∧ d < 65536) : Dig [d] := fun x hx => by rw [List.mem_singleton.1 hx]; exact h
theorem Dig.take {a : List Int} (h : Dig a) (n : Nat) : Dig (a.take n) := fun d hd => h d (List.mem_of_mem_take hd)
theorem Dig.zeros (n : Nat) : Dig (List.replicate n 0) := fun d hd => by rw [(List.mem_replicate.1 hd).2]; decide
theorem Dig.get {a : List Int} (h : Dig a) {i : Nat} {d : Int} (hd : a[i]? = some d) : 0 ≤ d ∧ d < 65536 := h d (List.mem_of_getElem? hd)
theorem valD_bd {a : List Int} (h : Dig a) : 0 ≤ valD a ∧ valD a < P64 a.length := by
  induction a with
  | nil => exact ⟨by decide, by decide⟩
  | cons d r ih =>
    have h1 := h d (List.mem_cons_self ..)
    have h2 := ih (fun x hx => h x (List.mem_cons_of_mem _ hx))
    rw [valD, List.length_cons, P64_succ]
    omega
theorem take_some {a : List Int} {i : Nat} {d : Int} (h : a[i]? = some d) : valD (a.take (i + 1)) = valD (a.take i) + P64 i * d := by
  have hi : i < a.length := (List.getElem?_eq_some_iff.1 h).1
  rw [List.take_add_one, h, Option.toList_some, valD_append, valD_one, List.length_take, Nat.min_eq_left (by omega)]
theorem take_none {a : List Int} {i : Nat} (h : a.length ≤ i) : valD (a.take (i + 1)) = valD (a.take i) := by
  rw [List.take_of_length_le h, List.take_of_length_le (by omega)]

/-- One round of an addition: the digits so far, the carry, and the next two digits. -/
theorem plus_round {v p c x y A B : Int} (h : v + p * c = A + B) :
    (v + p * ((c + x + y) % 65536)) + (p * 65536) * ((c + x + y) / 65536) = (A + p * x) + (B + p * y) := by
  have e := Int.emod_add_mul_ediv (c + x + y) 65536
  have e2 : p * (c + x + y) = p * c + p * x + p * y := by rw [Int.mul_add, Int.mul_add]
  have e3 : p * ((c + x + y) % 65536) + (p * 65536) * ((c + x + y) / 65536) = p * (c + x + y) := by
    rw [Int.mul_assoc, ← Int.mul_add, e]
  omega

/-- One round of a product with a digit. -/
theorem mul_round {v p c x y A : Int} (h : v + p * c = x * A) :
    (v + p * ((x * y + c) % 65536)) + (p * 65536) * ((x * y + c) / 65536) = x * (A + p * y) := by
  have e := Int.emod_add_mul_ediv (x * y + c) 65536
  have e3 : p * ((x * y + c) % 65536) + (p * 65536) * ((x * y + c) / 65536) = p * (x * y + c) := by
    rw [Int.mul_assoc, ← Int.mul_add, e]
  have e4 : p * (x * y + c) = x * (p * y) + p * c := by rw [Int.mul_add, ← Int.mul_assoc, ← Int.mul_assoc, Int.mul_comm p x]
  rw [Int.mul_add]
  omega

/-- The four digits of a word. -/
def digs4 (n : Int) : List Int := [n % 65536, n / 65536 % 65536, n / 4294967296 % 65536, n / 281474976710656]
theorem digs4_val (n : Int) : valD (digs4 n) = n := by simp only [digs4, valD]; omega
theorem digs4_dig {n : Int} (h0 : 0 ≤ n) (h1 : n < 18446744073709551616) : Dig (digs4 n) := by
  intro d hd
  simp only [digs4, List.mem_cons, List.not_mem_nil, or_false] at hd
  omega

abbrev digC (d : Int) : List Value := [.int .u32 d]
theorem digC_len (d : Int) : (digC d).length = 1 := rfl
theorem digC_one (d : Int) : ∀ u ∈ digC d, u.oneCell' = true := by intro u hu; simp at hu; subst hu; rfl
def BigAt (w : World) (a : Option Addr) (l : List Int) : Prop := RecsAt 1 digC w a l
theorem BigAt.gr {w w' : World} {a : Option Addr} {l : List Int} (h : BigAt w a l) (g : Gr w w') : BigAt w' a l := by
  intro i s hi
  obtain ⟨b, off, ha, hb, hc⟩ := h i s hi
  exact ⟨b, off, ha, Nat.lt_of_lt_of_le hb g.size, fun j u hu => by rw [g.cells.1 _ _ hb]; exact hc j u hu⟩
theorem BigAt.get {w : World} {a : Option Addr} {l : List Int} (h : BigAt w a l) {i : Nat} {d : Int} (hd : l[i]? = some d) : ∃ b off, a = some ⟨b, off, none⟩ ∧ b < w.heap.size ∧ w.cell? ⟨b, off + i, none⟩ = some (.int .u32 d) := by
  obtain ⟨b, off, ha, hb, hc⟩ := h i d hd
  exact ⟨b, off, ha, hb, by simpa using hc 0 _ rfl⟩
def Cap (n c : Nat) : Prop := n ≤ c ∧ c ≤ maxLen
theorem own_cap {w : World} {base : Nat} {e : TypeId} {size : Nat} {v : Value} {n : Nat} {xs : List Value} {a : Option Addr} {m c : Nat} (h : w.ownsRow base e size v n xs) (hv : v = .slice a m c) : Cap n c := by
  obtain ⟨_, ⟨h1, h2⟩ | ⟨g, cap, cur, h1, _, _, h2, h3, _⟩⟩ := h
  · rw [hv] at h1; cases h1; exact ⟨by omega, Nat.zero_le _⟩
  · rw [hv] at h1; cases h1; exact ⟨h2, h3⟩
/-- What a function of digits hands back: the digits of x, at least n of them, at most m. -/
def BigP (x : Int) (n m : Nat) (w : World) (e : Ending) (w' : World) : Prop :=
  ∃ (ds : List Int) (a : Option Addr) (c : Nat), e = .returned (.slice a ds.length c) ∧ valD ds = x ∧ Dig ds ∧ n ≤ ds.length ∧ ds.length ≤ m ∧ BigAt w' a ds ∧ (a = none → c = 0) ∧ Cap ds.length c ∧ Gr w w'
end Go.Proofs.YtmookdgeblcjnaaDoor
