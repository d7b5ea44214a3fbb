/- wire.Reader: a number, as it is read. wire.Reader in memory; its number. wire.Reader: Num, Bytes, Left, End, NewReader. -/
import Derived.Test.YtlgbnjaoadlolaaDoorP14
import Derived.IntWalk
import Derived.Deep.RegionWith
namespace Go.Proofs.YtlgbnjaoadlolaaDoor
open Go.RowKit

/-- A number's value and how many bytes it has, at most f of them. -/
def rdN : Nat → List UInt8 → Option (Nat × Nat)
  | 0, _ => none
  | _ + 1, [] => none
  | f + 1, c :: l => if c.toNat < 128 then some (c.toNat, 1) else (rdN f l).map fun q => (c.toNat - 128 + 128 * q.1, q.2 + 1)
/-- In its shortest form. -/
def numR (l : List UInt8) : Option (Nat × Nat) := match rdN 9 l with
  | none => none
  | some q => if l[q.2 - 1]? = some 0 ∧ q.2 ≠ 1 then none else some q

theorem rdN_bd : ∀ (f : Nat) (l : List UInt8) (q : Nat × Nat), rdN f l = some q → q.1 < 128 ^ f ∧ 1 ≤ q.2 ∧ q.2 ≤ f ∧ q.2 ≤ l.length
  | 0, _, _, h => by cases h
  | f + 1, [], _, h => by cases h
  | f + 1, c :: l, q, h => by
    unfold rdN at h
    have hp : 0 < 128 ^ f := Nat.pow_pos (by decide)
    split at h
    · cases h
      rw [Nat.pow_succ]
      refine ⟨by show c.toNat < _; omega, Nat.le_refl _, by omega, by simp⟩
    · obtain ⟨x, hx, rfl⟩ := Option.map_eq_some_iff.1 h
      obtain ⟨h1, h2, h3, h4⟩ := rdN_bd f l x hx
      have := c.toNat_lt
      rw [Nat.pow_succ]
      refine ⟨by show c.toNat - 128 + 128 * x.1 < _; omega, by show 1 ≤ x.2 + 1; omega, by show x.2 + 1 ≤ _; omega, by simp only [List.length_cons]; omega⟩
theorem numB_fuel : ∀ (f n : Nat) (r : List UInt8), n < 128 ^ f → 0 < f → rdN f (numB n ++ r) = some (n, (numB n).length)
  | 0, _, _, _, h => by omega
  | f + 1, n, r, h, _ => by
    by_cases hs : n < 128
    · have ht : (UInt8.ofNat n).toNat = n := by rw [UInt8.toNat_ofNat']; omega
      rw [numB_small hs]
      show (if (UInt8.ofNat n).toNat < 128 then _ else _) = _
      rw [ht, if_pos hs]
      rfl
    · have ht : (UInt8.ofNat (n % 128 + 128)).toNat = n % 128 + 128 := by rw [UInt8.toNat_ofNat']; omega
      rw [numB_great hs]
      show (if (UInt8.ofNat (n % 128 + 128)).toNat < 128 then _ else (rdN f (numB (n / 128) ++ r)).map fun q => ((UInt8.ofNat (n % 128 + 128)).toNat - 128 + 128 * q.1, q.2 + 1)) = _
      have hf : 0 < f := by
        rcases Nat.eq_zero_or_pos f with h0 | h0
        · subst h0; rw [Nat.pow_succ] at h; simp at h; omega
        · exact h0
      have hd : n / 128 < 128 ^ f := by rw [Nat.pow_succ] at h; omega
      rw [ht, if_neg (by omega), numB_fuel f (n / 128) r hd hf]
      show some (_, _) = _
      congr 2
      · omega
theorem numB_last : ∀ (k n : Nat), n < 128 ^ (k + 1) → (numB n)[(numB n).length - 1]? = some 0 → n = 0
  | k, n, hk, h => by
    by_cases hs : n < 128
    · rw [numB_small hs] at h
      have hq : UInt8.ofNat n = 0 := by simpa using h
      have ht : (UInt8.ofNat n).toNat = n := by rw [UInt8.toNat_ofNat']; omega
      rw [hq] at ht
      simpa using ht.symm
    · have hl : 1 ≤ (numB (n / 128)).length := by
        by_cases hs2 : n / 128 < 128
        · rw [numB_small hs2]; simp
        · rw [numB_great hs2]; simp
      rw [numB_great hs] at h
      simp only [List.length_cons, Nat.add_sub_cancel] at h
      rw [List.getElem?_cons] at h
      rw [if_neg (by omega)] at h
      cases k with
      | zero => simp at hk; omega
      | succ k =>
        have := numB_last k (n / 128) (by rw [Nat.pow_succ] at hk; omega) h
        omega
/-- What was put is read. -/
theorem numR_put {n : Nat} (h : n < 9223372036854775808) (r : List UInt8) : numR (numB n ++ r) = some (n, (numB n).length) := by
  unfold numR
  rw [numB_fuel 9 n r (by omega) (by decide)]
  have hl : 1 ≤ (numB n).length := by
    by_cases hs2 : n < 128
    · rw [numB_small hs2]; simp
    · rw [numB_great hs2]; simp
  show (if _ ∧ _ then _ else _) = _
  rw [if_neg]
  rintro ⟨h0, h1⟩
  dsimp only at h0 h1
  rw [List.getElem?_append_left (by omega)] at h0
  have := numB_last 9 n (by omega) h0
  subst this
  rw [numB_small (by decide)] at h1
  exact h1 rfl
theorem rdN_put : ∀ (f : Nat) (l : List UInt8) (q : Nat × Nat), rdN f l = some q → ¬ (l[q.2 - 1]? = some 0 ∧ q.2 ≠ 1) → l = numB q.1 ++ l.drop q.2 ∧ q.2 = (numB q.1).length
  | 0, _, _, h, _ => by cases h
  | f + 1, [], _, h, _ => by cases h
  | f + 1, c :: l, q, h, hn => by
    unfold rdN at h
    split at h
    · rename_i hc
      cases h
      rw [numB_small hc]
      have : UInt8.ofNat c.toNat = c := by simp
      rw [this]
      exact ⟨rfl, rfl⟩
    · rename_i hc
      obtain ⟨x, hx, rfl⟩ := Option.map_eq_some_iff.1 h
      obtain ⟨h1, h2, h3, h4⟩ := rdN_bd f l x hx
      dsimp only at hn ⊢
      have hn2 : ¬ (l[x.2 - 1]? = some 0) := by
        intro h0
        apply hn
        refine ⟨?_, by omega⟩
        rw [show x.2 + 1 - 1 = (x.2 - 1) + 1 by omega, List.getElem?_cons_succ]
        exact h0
      obtain ⟨i1, i2⟩ := rdN_put f l x hx (fun hh => hn2 hh.1)
      have hx1 : x.1 ≠ 0 := by
        intro h0
        rw [h0, numB_small (by decide)] at i1 i2
        apply hn2
        rw [i2, i1]
        simp
      have hct := c.toNat_lt
      have hg : ¬ c.toNat - 128 + 128 * x.1 < 128 := by omega
      rw [numB_great hg]
      have e1 : (c.toNat - 128 + 128 * x.1) % 128 + 128 = c.toNat := by omega
      have e2 : (c.toNat - 128 + 128 * x.1) / 128 = x.1 := by omega
      rw [e1, e2]
      have : UInt8.ofNat c.toNat = c := by simp
      rw [this, List.drop_succ_cons, List.cons_append, ← i1]
      exact ⟨rfl, by rw [List.length_cons, ← i2]⟩
/-- What is read was put. -/
theorem numR_get {l : List UInt8} {v k : Nat} (h : numR l = some (v, k)) : l = numB v ++ l.drop k ∧ k = (numB v).length ∧ v < 9223372036854775808 := by
  unfold numR at h
  split at h
  · cases h
  · rename_i q hq
    split at h
    · cases h
    · rename_i hn
      cases h
      obtain ⟨h1, h2⟩ := rdN_put 9 l _ hq hn
      have := (rdN_bd 9 l _ hq).1
      exact ⟨h1, h2, by dsimp only at this; omega⟩


/-- A reader: its bytes, and where it is. -/
def RdAt (K : Nat → Prop) (w : World) (rb : Nat) (p : List UInt8) (at_ : Nat) : Prop := ∃ a c, Blk w rb #[.slice a p.length c, .int .i64 at_] 111 ∧ BytesAt w a p ∧ (a = none → c = 0) ∧ (∀ x, a = some x → x.block ≠ rb ∧ K x.block) ∧ at_ ≤ p.length ∧ p.length ≤ c ∧ p.length ≤ 100000
theorem RdAt.gr {K : Nat → Prop} {w w' : World} {rb : Nat} {p : List UInt8} {at_ : Nat} (h : RdAt K w rb p at_) (g : Gr w w') : RdAt K w' rb p at_ := by
  obtain ⟨a, c, h1, h2, h3⟩ := h
  exact ⟨a, c, h1.gr g, h2.gr g, h3⟩
theorem RdAt.mono {K K' : Nat → Prop} {w : World} {rb : Nat} {p : List UInt8} {at_ : Nat} (h : RdAt K w rb p at_) (hk : ∀ b, K b → K' b) : RdAt K' w rb p at_ := by
  obtain ⟨a, c, h1, h2, h3, h4, h5⟩ := h
  exact ⟨a, c, h1, h2, h3, fun x hx => ⟨(h4 x hx).1, hk _ (h4 x hx).2⟩, h5⟩
theorem RdAt.grx {K : Nat → Prop} {S : List Nat} {w w' : World} {rb : Nat} {p : List UInt8} {at_ : Nat} (h : RdAt K w rb p at_) (g : GrX S w w') (h1 : rb ∉ S) (h2 : ∀ b, K b → b ∉ S) : RdAt K w' rb p at_ := by
  obtain ⟨a, c, e1, e2, e3, e4, e5⟩ := h
  exact ⟨a, c, e1.grx g h1, e2.same g.size (fun x hx hl => g.block _ (RecsAt.lt e2 hx hl) (h2 _ (e4 x hx).2)), e3, e4, e5⟩
/-- What reading a number answers. -/
def NumP (l : List UInt8) (at_ : Nat) (w : World) (e : Ending) (w' : World) : Prop := w = w' ∧ match numR l with
  | some q => e = .returned (.tuple #[.int .i64 q.1, .int .i64 ((at_ + q.2 : Nat) : Int), .bool true])
  | none => ∃ a b : Int, e = .returned (.tuple #[.int .i64 a, .int .i64 b, .bool false])
theorem wraps_i64 (n : Int) (h₀ : 0 ≤ n) (h₁ : n < 2 ^ 63) : IntKind.i64.wrap n = n := by rw [IntKind.wrap_i64]; omega
theorem or64 (i : Nat) (hi : i ≤ 63) {x y : Nat} (hx : x < 2 ^ i) (hy : y * 2 ^ i < 2 ^ 63) : bits .or .i64 (x : Int) ((y * 2 ^ i : Nat) : Int) = ((x + y * 2 ^ i : Nat) : Int) := by
  have h1 : 2 ^ i ≤ 2 ^ 63 := Nat.pow_le_pow_right (by decide) hi
  rw [(bits_nat .i64 63 (by decide) wraps_i64 x (y * 2 ^ i) (Nat.lt_of_lt_of_le hx h1) hy).2, Nat.or_comm, Nat.mul_comm, ← Nat.two_pow_add_eq_or_of_lt hx y, Nat.add_comm]
theorem p128 (k : Nat) : 128 ^ k = 2 ^ (7 * k) := by rw [Nat.pow_mul]
/-- One byte more. -/
theorem acc_step {k acc m : Nat} (hk : k < 9) (ha : acc < 128 ^ k) (hm : m < 128) : bits .or .i64 (acc : Int) (wrap64 ((m : Int) * 2 ^ (7 * k))) = ((acc + 128 ^ k * m : Nat) : Int) ∧ acc + 128 ^ k * m < 128 ^ (k + 1) := by
  have h1 : 128 ^ k * (m + 1) ≤ 128 ^ k * 128 := Nat.mul_le_mul_left _ hm
  have h2 : 128 ^ (k + 1) = 128 ^ k * 128 := Nat.pow_succ ..
  have h3 : 128 ^ (k + 1) ≤ 128 ^ 9 := Nat.pow_le_pow_right (by decide) hk
  have h4 : (128 : Nat) ^ 9 = 2 ^ 63 := by decide
  have h5 : 128 ^ k * (m + 1) = 128 ^ k * m + 128 ^ k := by rw [Nat.mul_add, Nat.mul_one]
  refine ⟨?_, by omega⟩
  have hc : (m : Int) * 2 ^ (7 * k) = ((m * 2 ^ (7 * k) : Nat) : Int) := by push_cast; rfl
  have hlt : m * 2 ^ (7 * k) < 2 ^ 63 := by rw [Nat.mul_comm, ← p128]; omega
  have hw : wrap64 ((m * 2 ^ (7 * k) : Nat) : Int) = ((m * 2 ^ (7 * k) : Nat) : Int) := by
    generalize m * 2 ^ (7 * k) = z at *
    unfold wrap64
    have : (2 : Nat) ^ 63 = 9223372036854775808 := by decide
    omega
  rw [hc, hw, or64 (7 * k) (by omega) (by rw [← p128]; exact ha) hlt, ← p128, Nat.mul_comm]
theorem and127b (d : UInt8) : bits .and .u8 (d.toNat : Int) 127 = ((d.toNat % 128 : Nat) : Int) := by
  have := bits_mask .u8 8 (by decide) wraps_u8 7 (by decide) (d.toNat : Int) (by omega) (by have := d.toNat_lt; omega)
  exact this
theorem rdN_at {l : List UInt8} {k acc : Nat} {d : UInt8} (hk : k < 9) (hd : l[k]? = some d) (h : rdN 9 l = (rdN (9 - k) (l.drop k)).map fun q => (acc + 128 ^ k * q.1, q.2 + k)) :
    (d.toNat < 128 → rdN 9 l = some (acc + 128 ^ k * d.toNat, k + 1)) ∧ (¬ d.toNat < 128 → rdN 9 l = (rdN (9 - (k + 1)) (l.drop (k + 1))).map fun q => (acc + 128 ^ k * (d.toNat % 128) + 128 ^ (k + 1) * q.1, q.2 + (k + 1))) := by
  have hdr : l.drop k = d :: l.drop (k + 1) := by
    have hlt := get_lt hd
    have he : l[k] = d := by have := List.getElem?_eq_getElem hlt; rw [hd] at this; exact (Option.some.inj this).symm
    rw [List.drop_eq_getElem_cons hlt, he]
  have hf : 9 - k = (9 - (k + 1)) + 1 := by omega
  rw [hdr, hf] at h
  have hdl := d.toNat_lt
  constructor
  · intro h1
    rw [h]
    show ((if d.toNat < 128 then some (d.toNat, 1) else _).map _) = _
    rw [if_pos h1]
    show some (_, _) = _
    rw [Nat.add_comm 1 k]
  · intro h1
    rw [h]
    show ((if d.toNat < 128 then some (d.toNat, 1) else (rdN (9 - (k + 1)) (l.drop (k + 1))).map fun q => (d.toNat - 128 + 128 * q.1, q.2 + 1)).map _) = _
    rw [if_neg h1, Option.map_map]
    congr 1
    funext q
    show (_, _) = (_, _)
    rw [show d.toNat % 128 = d.toNat - 128 by omega, Nat.pow_succ, Nat.mul_add, Nat.mul_assoc, Nat.add_assoc, Nat.add_assoc]
    rw [Nat.add_comm 1 k]
theorem rdN_end {l : List UInt8} {k acc : Nat} (hd : l[k]? = none) (h : rdN 9 l = (rdN (9 - k) (l.drop k)).map fun q => (acc + 128 ^ k * q.1, q.2 + k)) : numR l = none := by
  have h0 : l.drop k = [] := List.drop_eq_nil_of_le (List.getElem?_eq_none_iff.1 hd)
  rw [h0] at h
  unfold numR
  rw [h]
  cases hk : 9 - k <;> rfl
theorem rdN_nine {l : List UInt8} {acc : Nat} (h : rdN 9 l = (rdN (9 - 9) (l.drop 9)).map fun q => (acc + 128 ^ 9 * q.1, q.2 + 9)) : numR l = none := by
  unfold numR
  rw [h]
  rfl
theorem numR_at {l : List UInt8} {k s : Nat} {d : UInt8} (hd : l[k]? = some d) (h : rdN 9 l = some (s, k + 1)) : numR l = if d.toNat = 0 ∧ k ≠ 0 then none else some (s, k + 1) := by
  unfold numR
  rw [h]
  show (if l[k]? = some 0 ∧ k + 1 ≠ 1 then none else some (s, k + 1)) = _
  rw [hd]
  have : (some d = some (0 : UInt8) ∧ k + 1 ≠ 1) ↔ (d.toNat = 0 ∧ k ≠ 0) := by
    constructor
    · rintro ⟨h1, h2⟩; cases h1; exact ⟨rfl, by omega⟩
    · rintro ⟨h1, h2⟩; exact ⟨by congr 1; exact UInt8.toNat.inj h1, by omega⟩
  by_cases hh : d.toNat = 0 ∧ k ≠ 0
  · rw [if_pos hh, if_pos (this.2 hh)]
  · rw [if_neg hh, if_neg (fun e => hh (this.1 e))]
set_option maxRecDepth 100000 in
set_option maxHeartbeats 3200000 in
theorem number_any {K : Nat → Prop} (w : World) (rb : Nat) (p : List UInt8) (at_ : Nat) (h : RdAt K w rb p at_) :
    Calls Tryd.prog 54 #[.pointer (some ⟨rb, 0, none⟩), .int .i64 at_] w (NumP (p.drop at_) at_ w) := by
  obtain ⟨a, c, hb, hr, hcn, hax, hat, hpc, hpm⟩ := h
  have c0 := hb.cell (i := 0) (v := .slice a p.length c) rfl
  have hz := hb.lt
  have h0 : rdN 9 (p.drop at_) = (rdN (9 - 0) ((p.drop at_).drop 0)).map fun q => (0 + 128 ^ 0 * q.1, q.2 + 0) := by simp
  replace hb := Lib.hid hb
  replace hax := Lib.hid hax
  replace hcn := Lib.hid hcn
  go_enter Tryd.func54, Tryd.ntmps54
  go_wp2_with fail
  go_loop [7, 10] (fun nv iv => ∃ (k acc : Nat), nv = .int .i64 acc ∧ iv = .int .i64 k ∧ k ≤ 9 ∧ Hid (acc < 128 ^ k) ∧ Hid (rdN 9 (p.drop at_) = (rdN (9 - k) ((p.drop at_).drop k)).map fun q => (acc + 128 ^ k * q.1, q.2 + k))) (fun _ iv => 9 - (intOf iv).toNat)
  case atStart => exact ⟨0, 0, rfl, rfl, by omega, Lib.hid (by decide), Lib.hid h0⟩
  case round =>
    obtain ⟨k, acc, rfl, rfl, hk9, hacc, heq⟩ := hrel
    by_cases hk : k < 9
    · cases hc : p[at_ + k]? with
      | none =>
        have hlen : p.length ≤ at_ + k := List.getElem?_eq_none_iff.1 hc
        have hnum := rdN_end (l := p.drop at_) (k := k) (by rw [List.getElem?_drop]; exact hc) heq.out
        replace hnum := Lib.hid hnum
        replace hc := Lib.hid hc
        go_wp2_with fail
        go_ret3
        exact ⟨rfl, by rw [hnum.out]; exact ⟨_, _, rfl⟩⟩
      | some d =>
        have hlen := get_lt hc
        obtain ⟨b, off, rfl, hbl, hcell⟩ := hr.get hc
        have hdb := d.toNat_lt
        have hdl : (p.drop at_)[k]? = some d := by rw [List.getElem?_drop]; exact hc
        obtain ⟨m, hm⟩ : ∃ m, d.toNat % 128 = m := ⟨_, rfl⟩
        have hm1 : m ≤ 127 := by omega
        have hand : bits .and .u8 (d.toNat : Int) 127 = (m : Int) := by rw [and127b, hm]
        obtain ⟨hor, hs9⟩ := acc_step (m := m) hk hacc.out (by omega)
        obtain ⟨s, hs⟩ : ∃ s, acc + 128 ^ k * m = s := ⟨_, rfl⟩
        rw [hs] at hor hs9
        obtain ⟨r1, r2⟩ := rdN_at hk hdl heq.out
        by_cases hd : d.toNat < 128
        · have hmd : m = d.toNat := by omega
          have r3 := numR_at hdl (r1 hd)
          rw [← hmd, hs] at r3
          clear r1 r2 hs9
          have hd7 : (d.toNat : Int) < 128 := by omega
          obtain ⟨n, hn⟩ : ∃ n, d.toNat = n := ⟨_, rfl⟩
          rw [hn] at hcell hand hd7 hdb
          rw [hmd, hn] at r3
          replace hs := Lib.hid hs
          replace hm := Lib.hid hm
          replace hmd := Lib.hid hmd
          replace hn := Lib.hid hn
          replace hdl := Lib.hid hdl
          replace hc := Lib.hid hc
          by_cases hz : n = 0
          · have hz1 : ((n : Int) != 0) = false := by rw [hz]; rfl
            by_cases hk0 : k = 0
            · rw [if_neg (by omega)] at r3
              have hk1 : ((k : Int) == 0) = true := beq_iff_eq.2 (by omega)
              replace r3 := Lib.hid r3
              replace hk0 := Lib.hid hk0
              replace hz := Lib.hid hz
              go_wp2_with fail
              go_ret3
              exact ⟨rfl, by rw [r3.out]; rfl⟩
            · rw [if_pos ⟨hz, hk0⟩] at r3
              replace r3 := Lib.hid r3
              have hk1 : ((k : Int) == 0) = false := beq_eq_false_iff_ne.2 (by omega)
              replace hz := Lib.hid hz
              go_wp2_with fail
              go_ret3
              exact ⟨rfl, by rw [r3.out]; exact ⟨_, _, rfl⟩⟩
          · rw [if_neg (by omega)] at r3
            replace r3 := Lib.hid r3
            have hz1 : ((n : Int) != 0) = true := bne_iff_ne.2 (by omega)
            go_wp2_with fail
            go_ret3
            exact ⟨rfl, by rw [r3.out]; rfl⟩
        · have r3 := r2 hd
          rw [hm, hs] at r3
          have hd7 : ¬ (d.toNat : Int) < 128 := by omega
          replace r3 := Lib.hid r3
          clear r1 r2
          replace hs9 := Lib.hid hs9
          replace hs := Lib.hid hs
          replace hm := Lib.hid hm
          replace hdl := Lib.hid hdl
          replace hc := Lib.hid hc
          go_wp2_with fail
          go_round
          case rel => exact ⟨k + 1, s, rfl, by go_num, by omega, hs9, r3⟩
          case measure => simp [intOf]; omega
    · obtain rfl : k = 9 := by omega
      have hnum := rdN_nine heq.out
      replace hnum := Lib.hid hnum
      go_wp2_with fail
      go_ret3
      exact ⟨rfl, by rw [hnum.out]; exact ⟨_, _, rfl⟩⟩


theorem numR_bd {l : List UInt8} {q : Nat × Nat} (h : numR l = some q) : q.1 < 9223372036854775808 ∧ 1 ≤ q.2 ∧ q.2 ≤ 9 ∧ q.2 ≤ l.length := by
  unfold numR at h
  split at h
  · cases h
  · rename_i x hx
    split at h
    · cases h
    · cases h
      obtain ⟨h1, h2, h3, h4⟩ := rdN_bd 9 l _ hx
      exact ⟨h1, h2, h3, h4⟩
theorem number_yes {K : Nat → Prop} (w : World) (rb : Nat) (p : List UInt8) (at_ : Nat) (h : RdAt K w rb p at_) {v k : Nat} (hq : numR (p.drop at_) = some (v, k)) :
    Calls Tryd.prog 54 #[.pointer (some ⟨rb, 0, none⟩), .int .i64 at_] w fun e w' => e = .returned (.tuple #[.int .i64 v, .int .i64 ((at_ + k : Nat) : Int), .bool true]) ∧ w = w' :=
  (number_any w rb p at_ h).mono fun e w' ⟨h1, h2⟩ => by rw [hq] at h2; exact ⟨h2, h1⟩
theorem number_no {K : Nat → Prop} (w : World) (rb : Nat) (p : List UInt8) (at_ : Nat) (h : RdAt K w rb p at_) (hq : numR (p.drop at_) = none) :
    Calls Tryd.prog 54 #[.pointer (some ⟨rb, 0, none⟩), .int .i64 at_] w fun e w' => ∃ a b : Int, e = .returned (.tuple #[.int .i64 a, .int .i64 b, .bool false]) ∧ w = w' :=
  (number_any w rb p at_ h).mono fun e w' ⟨h1, h2⟩ => by rw [hq] at h2; obtain ⟨a, b, h3⟩ := h2; exact ⟨a, b, h3, h1⟩

set_option maxRecDepth 100000 in
set_option maxHeartbeats 1600000 in
theorem rnum_yes {K : Nat → Prop} (w : World) (rb : Nat) (p : List UInt8) (at_ : Nat) (most : Int) (h : RdAt K w rb p at_) {v k : Nat} (hq : numR (p.drop at_) = some (v, k)) (hm : (v : Int) ≤ most) :
    Calls Tryd.prog 53 #[.pointer (some ⟨rb, 0, none⟩), .int .i64 most] w fun e w' => e = .returned (.tuple #[.int .i64 v, .nilIface]) ∧ RdAt K w' rb p (at_ + k) ∧ GrX [rb] w w' := by
  have hn := number_yes w rb p at_ h hq
  have hkb := (numR_bd hq).2.2.2
  rw [List.length_drop] at hkb
  obtain ⟨a, c, hb, hr, hcn, hax, hat, hpc, hpm⟩ := h
  have c1 := hb.cell (i := 1) (v := .int .i64 at_) rfl
  have f1 := hb.free 1
  have hz := hb.lt
  dsimp only at hkb
  replace hn := Lib.hid hn
  replace hb := Lib.hid hb
  replace hax := Lib.hid hax
  replace hcn := Lib.hid hcn
  replace hr := Lib.hid hr
  replace hq := Lib.hid hq
  obtain ⟨t, ht⟩ : ∃ t : Int, ((at_ + k : Nat) : Int) = t := ⟨_, rfl⟩
  rw [ht] at hn
  replace ht := Lib.hid ht
  go_enter Tryd.func53, Tryd.ntmps53
  go_wp2_with fail
  refine (hn.out).mono ?_
  rintro e wa ⟨rfl, rfl⟩
  go_wp2_with fail
  go_ret2
  refine ⟨rfl, ⟨a, c, ?_, hr.out.set (fun x hx => (hax.out x hx).1) _, hcn.out, hax.out, by omega, hpc, hpm⟩, (GrX.refl _ _).set (.inl (by simp)) _⟩
  have := hb.out.set 1 (.int .i64 t)
  rw [ht.out]
  exact this
set_option maxRecDepth 100000 in
set_option maxHeartbeats 1600000 in
theorem rnum_no {K : Nat → Prop} {G : List Nat} {E : Nat → Addr} (w : World) (rb : Nat) (p : List UInt8) (at_ : Nat) (most : Int) (h : RdAt K w rb p at_) (hE : EAt G E w) (i1 : 1 ∈ G) (hq : ∀ v k, numR (p.drop at_) = some (v, k) → most < v) :
    Calls Tryd.prog 53 #[.pointer (some ⟨rb, 0, none⟩), .int .i64 most] w fun e w' => e = .returned (.tuple #[.int .i64 0, (Value.iface 137 (.pointer (some (E 1))))]) ∧ Gr w w' := by
  have he := hE.c0 i1
  have h0 := h
  obtain ⟨a, c, hb, hr, hcn, hax, hat, hpc, hpm⟩ := h
  have c1 := hb.cell (i := 1) (v := .int .i64 at_) rfl
  have hz := hb.lt
  replace hb := Lib.hid hb
  replace hax := Lib.hid hax
  replace hcn := Lib.hid hcn
  replace hr := Lib.hid hr
  cases hn : numR (p.drop at_) with
  | none =>
    have hc := number_no w rb p at_ h0 hn
    replace hc := Lib.hid hc
    replace hn := Lib.hid hn
    replace hq := Lib.hid hq
    go_enter Tryd.func53, Tryd.ntmps53
    go_wp2_with fail
    refine hc.out.mono ?_
    rintro e w1 ⟨x, y, rfl, rfl⟩
    go_upto_region 3 with fail
    go_region
    go_wp2_with fail
    go_ret2
    exact ⟨rfl, (by repeat (first | exact Gr.refl _ | apply Gr.alloc | apply Gr.drew | apply Gr.drewN | (refine Gr.setCell ?_ (by first | (simp; done) | (simp; omega)) _) | (refine Gr.trans ?_ (by assumption))))⟩
  | some q =>
    obtain ⟨v, k⟩ := q
    have hm := hq v k hn
    have hc := number_yes w rb p at_ h0 hn
    obtain ⟨t, ht⟩ : ∃ t : Int, ((at_ + k : Nat) : Int) = t := ⟨_, rfl⟩
    rw [ht] at hc
    replace ht := Lib.hid ht
    replace hc := Lib.hid hc
    replace hn := Lib.hid hn
    replace hq := Lib.hid hq
    go_enter Tryd.func53, Tryd.ntmps53
    go_wp2_with fail
    refine (hc.out).mono ?_
    rintro e wa ⟨rfl, rfl⟩
    go_upto_region 3 with fail
    go_region
    go_wp2_with fail
    go_ret2
    exact ⟨rfl, (by repeat (first | exact Gr.refl _ | apply Gr.alloc | apply Gr.drew | apply Gr.drewN | (refine Gr.setCell ?_ (by first | (simp; done) | (simp; omega)) _) | (refine Gr.trans ?_ (by assumption))))⟩
set_option maxHeartbeats 1600000 in
theorem left_any {K : Nat → Prop} (w : World) (rb : Nat) (p : List UInt8) (at_ : Nat) (h : RdAt K w rb p at_) :
    Calls Tryd.prog 56 #[.pointer (some ⟨rb, 0, none⟩)] w fun e w' => e = .returned (.int .i64 ((p.length : Int) - at_)) ∧ Gr w w' := by
  obtain ⟨a, c, hb, hr, hcn, hax, hat, hpc, hpm⟩ := h
  have c0 := GrW.cell (hb.cell (i := 0) (v := .slice a p.length c) rfl)
  have c1 := GrW.cell (hb.cell (i := 1) (v := .int .i64 at_) rfl)
  have hz := hb.lt
  replace hb := Lib.hid hb
  replace hax := Lib.hid hax
  replace hcn := Lib.hid hcn
  replace hr := Lib.hid hr
  go_enter Tryd.func56, Tryd.ntmps56
  go_upto_region 1 with fail
  refine wp_region_grows (by kernel_rfl) (by kernel_rfl) ?_
  repeat (any_goals (first | go_big_quiet_step (first | fail) | quiet_step (first | fail)))
  refine wpQuiet_nil ?_
  intro wz hwq
  have gz := GrW.of hwq
  clear hwq
  obtain ⟨cz, fz, sz⟩ := gz.cells
  try simp only [size_drewN] at cz fz sz
  try simp only [World.size_alloc] at cz fz sz
  try simp only [World.size_drew] at cz fz sz
  try simp only [World.size_setCell] at cz fz sz
  go_wp2_with fail
  go_ret
  exact ⟨ret1 (by first | rfl | (rw [IntWalk.i64_in _ (by omega)])), gz⟩
set_option maxHeartbeats 1600000 in
theorem rend_yes {K : Nat → Prop} (w : World) (rb : Nat) (p : List UInt8) (h : RdAt K w rb p p.length) :
    Calls Tryd.prog 33 #[.pointer (some ⟨rb, 0, none⟩)] w fun e w' => e = .returned .nilIface ∧ Gr w w' := by
  have hl := left_any w rb p p.length h
  rw [Int.sub_self] at hl
  replace hl := Lib.hid hl
  replace h := Lib.hid h
  go_enter Tryd.func33, Tryd.ntmps33
  go_wp2_with fail
  refine (hl.out).mono ?_
  rintro e wa ⟨rfl, ga⟩
  obtain ⟨ca, fa, sa⟩ := ga.cells
  try simp only [size_drewN] at ca fa sa
  try simp only [World.size_alloc] at ca fa sa
  try simp only [World.size_drew] at ca fa sa
  try simp only [World.size_setCell] at ca fa sa
  go_wp2_with fail
  go_ret
  exact ⟨rfl, ga⟩
set_option maxHeartbeats 1600000 in
theorem rend_no {K : Nat → Prop} {G : List Nat} {E : Nat → Addr} (w : World) (rb : Nat) (p : List UInt8) (at_ : Nat) (h : RdAt K w rb p at_) (hlt : at_ < p.length) (hE : EAt G E w) (i1 : 1 ∈ G) :
    Calls Tryd.prog 33 #[.pointer (some ⟨rb, 0, none⟩)] w fun e w' => e = .returned (Value.iface 137 (.pointer (some (E 1)))) ∧ Gr w w' := by
  have hl := left_any w rb p at_ h
  have hlt2 : decide ((0 : Int) < (p.length : Int) - at_) = true := decide_eq_true (by omega)
  obtain ⟨d, hd⟩ : ∃ d : Int, (p.length : Int) - at_ = d := ⟨_, rfl⟩
  rw [hd] at hl hlt2
  replace hd := Lib.hid hd
  replace hl := Lib.hid hl
  replace h := Lib.hid h
  go_enter Tryd.func33, Tryd.ntmps33
  go_wp2_with fail
  refine (hl.out).mono ?_
  rintro e wa ⟨rfl, ga⟩
  obtain ⟨ca, fa, sa⟩ := ga.cells
  try simp only [size_drewN] at ca fa sa
  try simp only [World.size_alloc] at ca fa sa
  try simp only [World.size_drew] at ca fa sa
  try simp only [World.size_setCell] at ca fa sa
  have he := (hE.gr ga).c0 i1
  clear ca fa
  go_wp2_with fail
  go_ret
  exact ⟨rfl, ga⟩
end Go.Proofs.YtlgbnjaoadlolaaDoor
