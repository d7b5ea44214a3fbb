/- Numbers as digits of base 65536, lowest first, in plain numbers. Nothing of the program is named here. -/
import Derived.Test.YtanfgipanfjcoaaDoorJ1
import Derived.Test.YtanfgipanfjcoaaDoorJ3
import Derived.Test.YtanfgipanfjcoaaDoorJ4
import Derived.Laws.BitsLemmas
import Derived.Deep.AppendLies
import Derived.Outline
namespace Go.Proofs.YtanfgipanfjcoaaDoor
open Go.RowKit

def valD : List Int → Int
  | [] => 0
  | d :: r => d + 65536 * valD r
def Dig (l : List Int) : Prop := ∀ d ∈ l, 0 ≤ d ∧ d < 65536
def P64 (i : Nat) : Int := ((65536 ^ i : Nat) : Int)
theorem P64_zero : P64 0 = 1 := rfl
theorem P64_succ (i : Nat) : P64 (i + 1) = P64 i * 65536 := by unfold P64; rw [Nat.pow_succ]; simp
theorem P64_pos (i : Nat) : 1 ≤ P64 i := by unfold P64; have := Nat.pow_pos (n := i) (show 0 < 65536 by decide); omega
theorem P64_add (i j : Nat) : P64 (i + j) = P64 i * P64 j := by unfold P64; rw [Nat.pow_add]; simp
theorem valD_append (a b : List Int) : valD (a ++ b) = valD a + P64 a.length * valD b := by
  induction a with
  | nil => simp [valD, P64_zero]
  | cons d r ih =>
    rw [List.cons_append, valD, valD, ih, List.length_cons, P64_succ, Int.mul_add, Int.mul_comm (P64 r.length) 65536, Int.mul_assoc, Int.add_assoc]
theorem valD_one (d : Int) : valD [d] = d := by simp [valD]
theorem valD_zeros (n : Nat) : valD (List.replicate n 0) = 0 := by
  induction n with
  | zero => rfl
  | succ n ih => rw [List.replicate_succ, valD, ih]; rfl
theorem Dig.append {a b : List Int} (ha : Dig a) (hb : Dig b) : Dig (a ++ b) := fun d h => (List.mem_append.1 h).elim (ha d) (hb d)
theorem Dig.one {d : Int} (h : 0 ≤ d ∧ d < 65536) : Dig [d] := fun x hx => by rw [List.mem_singleton.1 hx]; exact h
theorem Dig.take {a : List Int} (h : Dig a) (n : Nat) : Dig (a.take n) := fun d hd => h d (List.mem_of_mem_take hd)
theorem Dig.zeros (n : Nat) : Dig (List.replicate n 0) := fun d hd => by rw [(List.mem_replicate.1 hd).2]; decide
theorem Dig.get {a : List Int} (h : Dig a) {i : Nat} {d : Int} (hd : a[i]? = some d) : 0 ≤ d ∧ d < 65536 := h d (List.mem_of_getElem? hd)
theorem valD_bd {a : List Int} (h : Dig a) : 0 ≤ valD a ∧ valD a < P64 a.length := by
  induction a with
  | nil => exact ⟨by decide, by decide⟩
  | cons d r ih =>
    have h1 := h d (List.mem_cons_self ..)
    have h2 := ih (fun x hx => h x (List.mem_cons_of_mem _ hx))
    rw [valD, List.length_cons, P64_succ]
    omega
theorem take_some {a : List Int} {i : Nat} {d : Int} (h : a[i]? = some d) : valD (a.take (i + 1)) = valD (a.take i) + P64 i * d := by
  have hi : i < a.length := (List.getElem?_eq_some_iff.1 h).1
  rw [List.take_add_one, h, Option.toList_some, valD_append, valD_one, List.length_take, Nat.min_eq_left (by omega)]
theorem take_none {a : List Int} {i : Nat} (h : a.length ≤ i) : valD (a.take (i + 1)) = valD (a.take i) := by
  rw [List.take_of_length_le h, List.take_of_length_le (by omega)]

/-- One round of an addition: the digits so far, the carry, and the next two digits. -/
theorem plus_round {v p c x y A B : Int} (h : v + p * c = A + B) :
    (v + p * ((c + x + y) % 65536)) + (p * 65536) * ((c + x + y) / 65536) = (A + p * x) + (B + p * y) := by
  have e := Int.emod_add_mul_ediv (c + x + y) 65536
  have e2 : p * (c + x + y) = p * c + p * x + p * y := by rw [Int.mul_add, Int.mul_add]
  have e3 : p * ((c + x + y) % 65536) + (p * 65536) * ((c + x + y) / 65536) = p * (c + x + y) := by
    rw [Int.mul_assoc, ← Int.mul_add, e]
  omega

/-- One round of a product with a digit. -/
theorem mul_round {v p c x y A : Int} (h : v + p * c = x * A) :
    (v + p * ((x * y + c) % 65536)) + (p * 65536) * ((x * y + c) / 65536) = x * (A + p * y) := by
  have e := Int.emod_add_mul_ediv (x * y + c) 65536
  have e3 : p * ((x * y + c) % 65536) + (p * 65536) * ((x * y + c) / 65536) = p * (x * y + c) := by
    rw [Int.mul_assoc, ← Int.mul_add, e]
  have e4 : p * (x * y + c) = x * (p * y) + p * c := by rw [Int.mul_add, ← Int.mul_assoc, ← Int.mul_assoc, Int.mul_comm p x]
  rw [Int.mul_add]
  omega

/-- The four digits of a word. -/
def digs4 (n : Int) : List Int := [n % 65536, n / 65536 % 65536, n / 4294967296 % 65536, n / 281474976710656]
theorem digs4_val (n : Int) : valD (digs4 n) = n := by simp only [digs4, valD]; omega
theorem digs4_dig {n : Int} (h0 : 0 ≤ n) (h1 : n < 18446744073709551616) : Dig (digs4 n) := by
  intro d hd
  simp only [digs4, List.mem_cons, List.not_mem_nil, or_false] at hd
  omega

abbrev digC (d : Int) : List Value := [.int .u32 d]
theorem digC_len (d : Int) : (digC d).length = 1 := rfl
theorem digC_one (d : Int) : ∀ u ∈ digC d, u.oneCell' = true := by intro u hu; simp at hu; subst hu; rfl
def BigAt (w : World) (a : Option Addr) (l : List Int) : Prop := RecsAt 1 digC w a l
theorem BigAt.gr {w w' : World} {a : Option Addr} {l : List Int} (h : BigAt w a l) (g : Gr w w') : BigAt w' a l := by
  intro i s hi
  obtain ⟨b, off, ha, hb, hc⟩ := h i s hi
  exact ⟨b, off, ha, Nat.lt_of_lt_of_le hb g.size, fun j u hu => by rw [g.cells.1 _ _ hb]; exact hc j u hu⟩
theorem BigAt.get {w : World} {a : Option Addr} {l : List Int} (h : BigAt w a l) {i : Nat} {d : Int} (hd : l[i]? = some d) : ∃ b off, a = some ⟨b, off, none⟩ ∧ b < w.heap.size ∧ w.cell? ⟨b, off + i, none⟩ = some (.int .u32 d) := by
  obtain ⟨b, off, ha, hb, hc⟩ := h i d hd
  exact ⟨b, off, ha, hb, by simpa using hc 0 _ rfl⟩
def Cap (n c : Nat) : Prop := n ≤ c ∧ c ≤ maxLen
theorem own_cap {w : World} {base : Nat} {e : TypeId} {size : Nat} {v : Value} {n : Nat} {xs : List Value} {a : Option Addr} {m c : Nat} (h : w.ownsRow base e size v n xs) (hv : v = .slice a m c) : Cap n c := by
  obtain ⟨_, ⟨h1, h2⟩ | ⟨g, cap, cur, h1, _, _, h2, h3, _⟩⟩ := h
  · rw [hv] at h1; cases h1; exact ⟨by omega, Nat.zero_le _⟩
  · rw [hv] at h1; cases h1; exact ⟨h2, h3⟩
/-- What a function of digits hands back: the digits of x, at least n of them, at most m. -/
def BigP (x : Int) (n m : Nat) (w : World) (e : Ending) (w' : World) : Prop :=
  ∃ (ds : List Int) (a : Option Addr) (c : Nat), e = .returned (.slice a ds.length c) ∧ valD ds = x ∧ Dig ds ∧ n ≤ ds.length ∧ ds.length ≤ m ∧ BigAt w' a ds ∧ (a = none → c = 0) ∧ Cap ds.length c ∧ Gr w w'
end Go.Proofs.YtanfgipanfjcoaaDoor
/- almonerref01: Of, Plus. -/
namespace Go.Proofs.YtanfgipanfjcoaaDoor
open Go.RowKit

theorem Tryd.infoU32 : (Tryd.prog.info? 154).map (fun i => (i.zero, i.size, i.bytes)) = some (some (.int .u32 0), 1, 4) := by kernel_rfl

theorem and_low16 (z : Int) (h0 : 0 ≤ z) (h1 : z < 18446744073709551616) : bits .and .u64 z 65535 = z % 65536 := by go_bits2
theorem and_low16_32 (z : Int) (h0 : 0 ≤ z) (h1 : z < 4294967296) : bits .and .u32 z 65535 = z % 65536 := by
  have h16 : (BitVec.ofInt 32 65535).toNat = 2 ^ 16 - 1 := by decide
  have key : (BitVec.ofInt 32 z &&& BitVec.ofInt 32 65535).toNat = (z % ((2 ^ 32 : Nat) : Int)).toNat % 2 ^ 16 := by
    rw [BitVec.toNat_and, BitVec.toNat_ofInt, h16, Nat.and_two_pow_sub_one_eq_mod]
  show IntKind.u32.wrap ((BitVec.ofInt 32 z &&& BitVec.ofInt 32 65535).toNat : Nat) = z % 65536
  rw [key, IntKind.wrap_u32]
  omega

/-- What a round of Plus knows. -/
def PlusInv (da db ds : List Int) (i : Nat) (c : Int) : Prop :=
  ds.length = i ∧ Dig ds ∧ 0 ≤ c ∧ c ≤ 1 ∧ valD ds + P64 i * c = valD (da.take i) + valD (db.take i) ∧ i ≤ max da.length db.length + 1 ∧ (i = max da.length db.length + 1 → c = 0)

theorem plusInv_step {da db ds : List Int} {i : Nat} {c x y : Int} (h : PlusInv da db ds i c) (hx : da[i]? = some x ∨ (da.length ≤ i ∧ x = 0)) (hy : db[i]? = some y ∨ (db.length ≤ i ∧ y = 0)) (bx : 0 ≤ x ∧ x < 65536) (by' : 0 ≤ y ∧ y < 65536) (hlt : i < max da.length db.length ∨ 0 < c) :
    PlusInv da db (ds ++ [(c + x + y) % 65536]) (i + 1) ((c + x + y) / 65536) := by
  obtain ⟨h1, h2, h3, h4, h5, h6, h7⟩ := h
  have ex : valD (da.take (i + 1)) = valD (da.take i) + P64 i * x := by
    rcases hx with hx | ⟨hx, rfl⟩
    · exact take_some hx
    · rw [take_none hx]; simp
  have ey : valD (db.take (i + 1)) = valD (db.take i) + P64 i * y := by
    rcases hy with hy | ⟨hy, rfl⟩
    · exact take_some hy
    · rw [take_none hy]; simp
  refine ⟨by simp [h1], h2.append (Dig.one ⟨by omega, by omega⟩), by omega, by omega, ?_, by omega, ?_⟩
  · rw [valD_append, valD_one, h1, ex, ey, P64_succ]
    exact plus_round h5
  · intro hi
    have hx0 : x = 0 := by
      rcases hx with hx | ⟨_, hx⟩
      · have := (List.getElem?_eq_some_iff.1 hx).1; omega
      · exact hx
    have hy0 : y = 0 := by
      rcases hy with hy | ⟨_, hy⟩
      · have := (List.getElem?_eq_some_iff.1 hy).1; omega
      · exact hy
    omega

end Go.Proofs.YtanfgipanfjcoaaDoor
/- almonerref01: Times. -/
namespace Go.Proofs.YtanfgipanfjcoaaDoor
open Go.RowKit

theorem made_digs (n : Nat) : (madeCells (Value.int .u32 0).cells (n * 1)).toList = (List.replicate n (0 : Int)).flatMap digC := by
  have e : (List.replicate n (0 : Int)).flatMap digC = List.replicate n (.int .u32 0) := by
    induction n with
    | zero => rfl
    | succ n ih => rw [List.replicate_succ, List.flatMap_cons, ih, List.replicate_succ]; rfl
  rw [e]
  simp [madeCells, Value.cells, Nat.mod_one, List.map_const']

/-- What a round of the inner loop knows: the row so far, the carry. -/
def RowInv (da rs : List Int) (i j : Nat) (x c : Int) : Prop :=
  rs.length = i + j ∧ Dig rs ∧ 0 ≤ c ∧ c < 65536 ∧ valD rs + P64 (i + j) * c = x * (P64 i * valD (da.take j))
theorem rowInv_start (da : List Int) (i : Nat) (x : Int) : RowInv da (List.replicate i 0) i 0 x 0 :=
  ⟨by simp, Dig.zeros i, by decide, by decide, by rw [valD_zeros]; simp [valD]⟩
theorem rowInv_step {da rs : List Int} {i j : Nat} {x c y : Int} (h : RowInv da rs i j x c) (hy : da[j]? = some y) (bx : 0 ≤ x ∧ x < 65536) (by' : 0 ≤ y ∧ y < 65536) :
    RowInv da (rs ++ [(x * y + c) % 65536]) i (j + 1) x ((x * y + c) / 65536) ∧ 0 ≤ x * y ∧ x * y ≤ 4294836225 := by
  obtain ⟨h1, h2, h3, h4, h5⟩ := h
  have m := mul_bd bx.1 (show x ≤ 65535 by omega) by'.1 (show y ≤ 65535 by omega)
  refine ⟨⟨by simp [h1]; omega, h2.append (Dig.one ⟨by omega, by omega⟩), by omega, by omega, ?_⟩, m.1, by omega⟩
  rw [valD_append, valD_one, h1, take_some hy, show i + (j + 1) = i + j + 1 from rfl, P64_succ, Int.mul_add (P64 i), ← Int.mul_assoc (P64 i), ← P64_add]
  exact mul_round h5
theorem rowInv_end {da rs : List Int} {i : Nat} {x c : Int} (h : RowInv da rs i da.length x c) : valD (rs ++ [c]) = x * (P64 i * valD da) ∧ Dig (rs ++ [c]) ∧ (rs ++ [c]).length = i + da.length + 1 := by
  obtain ⟨h1, h2, h3, h4, h5⟩ := h
  rw [List.take_length] at h5
  refine ⟨?_, h2.append (Dig.one ⟨h3, h4⟩), by simp [h1]⟩
  rw [valD_append, valD_one, h1]
  exact h5

/-- What a round of the outer loop knows. -/
def TimesInv (da db ds : List Int) (k : Nat) : Prop :=
  valD ds = valD da * valD (db.take k) ∧ Dig ds ∧ ds.length ≤ da.length + k + 1 ∧ (1 ≤ k → da.length + k ≤ ds.length)
theorem timesInv_step {da db ds os : List Int} {k : Nat} {x : Int} (h : TimesInv da db ds k) (hx : db[k]? = some x) (hv : valD os = valD ds + x * (P64 k * valD da)) (hd : Dig os)
    (h1 : max ds.length (k + da.length + 1) ≤ os.length) (h2 : os.length ≤ max ds.length (k + da.length + 1) + 1) : TimesInv da db os (k + 1) := by
  obtain ⟨g1, g2, g3, g4⟩ := h
  refine ⟨?_, hd, by omega, by omega⟩
  rw [hv, g1, take_some hx, Int.mul_add]
  congr 1
  rw [Int.mul_comm x, Int.mul_comm (P64 k) (valD da), Int.mul_assoc]

end Go.Proofs.YtanfgipanfjcoaaDoor
/- almonerref01: at, Less, Fits. -/
namespace Go.Proofs.YtanfgipanfjcoaaDoor
open Go.RowKit

def dig (ds : List Int) (i : Nat) : Int := ds.getD i 0
theorem dig_some {ds : List Int} {i : Nat} {x : Int} (h : ds[i]? = some x) : dig ds i = x := by unfold dig; rw [List.getD_eq_getElem?_getD, h]; rfl
theorem dig_none {ds : List Int} {i : Nat} (h : ds.length ≤ i) : dig ds i = 0 := by unfold dig; rw [List.getD_eq_getElem?_getD, List.getElem?_eq_none h]; rfl
theorem dig_bd {ds : List Int} (h : Dig ds) (i : Nat) : 0 ≤ dig ds i ∧ dig ds i < 65536 := by
  by_cases hi : i < ds.length
  · obtain ⟨x, hx⟩ := get_some ds i hi
    rw [dig_some hx]; exact h.get hx
  · rw [dig_none (by omega)]; decide
theorem take_dig (ds : List Int) (i : Nat) : valD (ds.take (i + 1)) = valD (ds.take i) + P64 i * dig ds i := by
  by_cases hi : i < ds.length
  · obtain ⟨x, hx⟩ := get_some ds i hi
    rw [dig_some hx]; exact take_some hx
  · rw [dig_none (by omega), take_none (by omega)]; simp
theorem take_bd {ds : List Int} (h : Dig ds) (i : Nat) : 0 ≤ valD (ds.take i) ∧ valD (ds.take i) < P64 i := by
  have h1 := valD_bd (h.take i)
  refine ⟨h1.1, Int.lt_of_lt_of_le h1.2 ?_⟩
  rw [List.length_take]
  unfold P64
  have := Nat.pow_le_pow_right (show 0 < 65536 by decide) (Nat.min_le_left i ds.length)
  omega

theorem less_digs {P A B x y : Int} (hA : 0 ≤ A ∧ A < P) (hB : 0 ≤ B ∧ B < P) (h : x < y) : A + P * x < B + P * y := by
  have h1 : P * (x + 1) ≤ P * y := Int.mul_le_mul_of_nonneg_left (by omega) (by omega)
  rw [Int.mul_add] at h1
  omega
theorem less_step {da db : List Int} (ga : Dig da) (gb : Dig db) {i : Nat} (h : valD da + valD (db.take (i + 1)) = valD db + valD (da.take (i + 1))) (hne : dig da i ≠ dig db i) :
    (decide (valD da < valD db)) = decide (dig da i < dig db i) := by
  rw [take_dig, take_dig] at h
  have h1 := take_bd ga i
  have h2 := take_bd gb i
  rcases Int.lt_or_gt_of_ne hne with hl | hl
  · have := less_digs h1 h2 hl
    rw [decide_eq_true hl, decide_eq_true (by omega)]
  · have := less_digs h2 h1 hl
    rw [decide_eq_false (by omega), decide_eq_false (by omega)]

end Go.Proofs.YtanfgipanfjcoaaDoor
/- almonerref01: Fits (four digits); almonerref02: Of. -/
namespace Go.Proofs.YtanfgipanfjcoaaDoor
open Go.RowKit

theorem or_join (i : Nat) (x y : Int) (hx0 : 0 ≤ x) (hx : x % 2 ^ i = 0) (hx1 : x < 18446744073709551616) (hy0 : 0 ≤ y) (hy : y < 2 ^ i) (hi : y < 18446744073709551616) : bits .or .u64 y x = y + x := by
  have := bits_join .u64 64 (by decide) (fun n h0 h1 => by rw [IntKind.wrap_u64]; omega) i x y hx0 hx hx1 hy0 hy hi
  rw [Int.add_comm, ← this]
  show IntKind.u64.wrap _ = IntKind.u64.wrap _
  rw [BitVec.or_comm]

theorem fits_val (a b c d : Int) (ha : 0 ≤ a ∧ a < 65536) (hb : 0 ≤ b ∧ b < 65536) (hc : 0 ≤ c ∧ c < 65536) (hd : 0 ≤ d ∧ d < 65536) :
    bits .or .u64 (bits .or .u64 (bits .or .u64 (IntKind.u64.wrap (dig [a, b, c, d] 0)) (IntKind.u64.wrap (IntKind.u64.wrap (dig [a, b, c, d] 1) * 65536))) (IntKind.u64.wrap (IntKind.u64.wrap (dig [a, b, c, d] 2) * 4294967296))) (IntKind.u64.wrap (IntKind.u64.wrap (dig [a, b, c, d] 3) * 281474976710656)) = valD [a, b, c, d] := by
  have e0 : dig [a, b, c, d] 0 = a := rfl
  have e1 : dig [a, b, c, d] 1 = b := rfl
  have e2 : dig [a, b, c, d] 2 = c := rfl
  have e3 : dig [a, b, c, d] 3 = d := rfl
  have w0 : IntKind.u64.wrap a = a := by rw [IntKind.wrap_u64]; omega
  have w1 : IntKind.u64.wrap (IntKind.u64.wrap b * 65536) = b * 65536 := by rw [IntKind.wrap_u64, IntKind.wrap_u64]; omega
  have w2 : IntKind.u64.wrap (IntKind.u64.wrap c * 4294967296) = c * 4294967296 := by rw [IntKind.wrap_u64, IntKind.wrap_u64]; omega
  have w3 : IntKind.u64.wrap (IntKind.u64.wrap d * 281474976710656) = d * 281474976710656 := by rw [IntKind.wrap_u64, IntKind.wrap_u64]; omega
  rw [e0, e1, e2, e3, w0, w1, w2, w3]
  rw [or_join 16 (b * 65536) a (by omega) (by omega) (by omega) (by omega) (by omega) (by omega), or_join 32 (c * 4294967296) (a + b * 65536) (by omega) (by omega) (by omega) (by omega) (by omega) (by omega)]
  rw [or_join 48 (d * 281474976710656) _ (by omega) (by omega) (by omega) (by omega) (by omega) (by omega)]
  simp [valD]; omega

/-- The digits of a word in a block. -/
def BB (w : World) (b : Nat) (x : Int) : Prop :=
  w.heap[b]? = some (.cells #[.int .u32 (x % 65536), .int .u32 (x / 65536 % 65536), .int .u32 (x / 4294967296 % 65536), .int .u32 (x / 281474976710656)] 154 (0, 0))
theorem BB.gr {w w' : World} {b : Nat} {x : Int} (h : BB w b x) (g : Gr w w') : BB w' b x := by
  unfold BB at *
  rw [Below.block g _ (Array.getElem?_eq_some_iff.1 h).1]; exact h
theorem BB.own {base : Nat} {w : World} {b : Nat} {x : Int} (h : BB w b x) (hb : base ≤ b) : w.ownsRow base 154 1 (.slice (some ⟨b, 0, none⟩) 4 4) 4 ((digs4 x).flatMap digC) :=
  ⟨rfl, .inr ⟨b, 4, _, rfl, hb, h, Nat.le_refl _, by unfold maxLen; decide, rfl, rfl⟩⟩
theorem BB.news {w : World} {b : Nat} {x : Int} (h : BB w b x) : ∀ j u, ((digs4 x).flatMap digC)[j]? = some u → w.cell? ((⟨b, 0, none⟩ : Addr).add j) = some u :=
  World.news_of_block h
theorem BB.big {w : World} {b : Nat} {x : Int} (h : BB w b x) : BigAt w (some ⟨b, 0, none⟩) (digs4 x) := by
  intro i s hi
  refine ⟨b, 0, rfl, (Array.getElem?_eq_some_iff.1 h).1, fun j u hu => ?_⟩
  have h1 := flat_get digC_len (digs4 x) i s j u hi hu
  have := h.news _ _ h1
  unfold Addr.add at this
  rw [Nat.zero_add]
  split at this
  · rename_i h0; rw [h0]; exact this
  · simpa using this

theorem digs8_val (n : Int) : valD (digs4 (loW n) ++ digs4 (hiW n)) = n := by
  rw [valD_append, digs4_val, digs4_val]
  have : P64 (digs4 (loW n)).length = 18446744073709551616 := by show P64 4 = _; decide
  rw [this]
  have := word_eq n
  omega

theorem digC_ones (l : List Int) : ∀ u ∈ l.flatMap digC, u.oneCell' = true := by
  intro u hu
  obtain ⟨y, _, hy⟩ := List.mem_flatMap.1 hu
  exact digC_one y u hy

end Go.Proofs.YtanfgipanfjcoaaDoor
/- almonerref02: Back, Mul, Plus. -/
namespace Go.Proofs.YtanfgipanfjcoaaDoor
open Go.RowKit

theorem P64_4 : P64 4 = 18446744073709551616 := by decide
theorem valD_zero {l : List Int} (hd : Dig l) (h : valD l = 0) : ∀ d ∈ l, d = 0 := by
  induction l with
  | nil => intro d h; cases h
  | cons x r ih =>
    intro d hm
    have h1 := hd x (List.mem_cons_self ..)
    have h2 : Dig r := fun y hy => hd y (List.mem_cons_of_mem _ hy)
    have h3 := (valD_bd h2).1
    rw [valD] at h
    rcases List.mem_cons.1 hm with rfl | hm
    · omega
    · exact ih h2 (by omega) d hm
theorem Dig.drop {a : List Int} (h : Dig a) (n : Nat) : Dig (a.drop n) := fun d hd => h d (List.mem_of_mem_drop hd)
theorem parts8 {ds : List Int} (hd : Dig ds) (h8 : 8 ≤ ds.length) (hw : valD ds < 340282366920938463463374607431768211456) :
    valD (ds.take 4) = loW (valD ds) ∧ valD ((ds.drop 4).take 4) = hiW (valD ds) ∧ ∀ i d, 8 ≤ i → ds[i]? = some d → d = 0 := by
  have e1 := valD_append (ds.take 4) (ds.drop 4)
  rw [List.take_append_drop, List.length_take, Nat.min_eq_left (by omega), P64_4] at e1
  have e2 := valD_append ((ds.drop 4).take 4) ((ds.drop 4).drop 4)
  rw [List.take_append_drop, List.length_take, List.length_drop, Nat.min_eq_left (by omega), P64_4] at e2
  have b1 := valD_bd (hd.take 4)
  rw [List.length_take, Nat.min_eq_left (by omega), P64_4] at b1
  have b2 := valD_bd ((hd.drop 4).take 4)
  rw [List.length_take, List.length_drop, Nat.min_eq_left (by omega), P64_4] at b2
  have b3 := (valD_bd ((hd.drop 4).drop 4)).1
  have hz : valD ((ds.drop 4).drop 4) = 0 := by omega
  rw [hz] at e2
  unfold loW hiW
  refine ⟨by omega, by omega, fun i d hi hid => valD_zero ((hd.drop 4).drop 4) hz d ?_⟩
  rw [List.drop_drop]
  refine List.mem_of_getElem? (i := i - 8) ?_
  rw [List.getElem?_drop, ← hid]
  congr 1; omega
theorem BigAt.take {w : World} {a : Option Addr} {l : List Int} (h : BigAt w a l) (n : Nat) : BigAt w a (l.take n) := recs_take h n
theorem BigAt.drop {w : World} {b off : Nat} {l : List Int} (h : BigAt w (some ⟨b, off, none⟩) l) (n : Nat) : BigAt w (some ⟨b, off + n, none⟩) (l.drop n) := by
  intro i s hi
  rw [List.getElem?_drop] at hi
  obtain ⟨b', o', ha, hb, hc⟩ := h _ s hi
  cases ha
  exact ⟨b, off + n, rfl, hb, fun j u hu => by have := hc j u hu; rw [Nat.mul_one] at this ⊢; rw [Nat.add_assoc off]; exact this⟩

end Go.Proofs.YtanfgipanfjcoaaDoor
