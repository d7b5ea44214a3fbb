/- almonerref03.Read: a number, by its definition. almonerref03.Reader: Num, Bytes. almonerref03.Reader.Bytes. almonerref20.numbers. -/
import Derived.Test.YtlgbnjaoadlolaaDoorP39
import Derived.Test.YtlgbnjaoadlolaaDoorP31
import Derived.Test.YtlgbnjaoadlolaaDoorP33
namespace Go.Proofs.YtlgbnjaoadlolaaDoor
open Go.RowKit

/-- A number's value, its lowest seven bits first. -/
def valN : List UInt8 → Nat
  | [] => 0
  | c :: l => c.toNat % 128 + 128 * valN l
theorem valN_lt : ∀ l : List UInt8, valN l < 128 ^ l.length
  | [] => by decide
  | c :: l => by
    have := valN_lt l
    show c.toNat % 128 + 128 * valN l < 128 ^ (l.length + 1)
    rw [Nat.pow_succ]
    omega
theorem rdN_val : ∀ (k f : Nat) (l : List UInt8) (d : UInt8), k < f → (∀ (j : Nat) (x : UInt8), j < k → l[j]? = some x → 128 ≤ x.toNat) → l[k]? = some d → d.toNat < 128 → rdN f l = some (valN (l.take (k + 1)), k + 1)
  | _, 0, _, _, h, _, _, _ => by omega
  | 0, f + 1, l, d, _, _, hd, h1 => by
    cases l with
    | nil => simp at hd
    | cons c l =>
      obtain rfl : c = d := by simpa using hd
      show (if c.toNat < 128 then some (c.toNat, 1) else _) = _
      rw [if_pos h1]
      show some (_, _) = some (c.toNat % 128 + 128 * 0, _)
      rw [Nat.mod_eq_of_lt h1]
      rfl
  | k + 1, f + 1, l, d, hk, ha, hd, h1 => by
    cases l with
    | nil => simp at hd
    | cons c l =>
      have hc := ha 0 c (by omega) rfl
      show (if c.toNat < 128 then _ else (rdN f l).map fun q => (c.toNat - 128 + 128 * q.1, q.2 + 1)) = _
      rw [if_neg (by omega), rdN_val k f l d (by omega) (fun j x hj hx => ha (j + 1) x (by omega) (by simpa using hx)) (by simpa using hd) h1]
      show some (_, _) = some (c.toNat % 128 + 128 * valN (l.take (k + 1)), _)
      have := c.toNat_lt
      rw [show c.toNat % 128 = c.toNat - 128 by omega]
theorem rdN_none : ∀ (k f : Nat) (l : List UInt8), (∀ (j : Nat) (x : UInt8), j < k → l[j]? = some x → 128 ≤ x.toNat) → (k = f ∨ l.length ≤ k) → rdN f l = none
  | _, 0, _, _, _ => rfl
  | k, f + 1, [], _, _ => rfl
  | 0, f + 1, c :: l, _, h => by simp at h
  | k + 1, f + 1, c :: l, ha, h => by
    have hc := ha 0 c (by omega) rfl
    show (if c.toNat < 128 then _ else (rdN f l).map _) = none
    rw [if_neg (by omega), rdN_none k f l (fun j x hj hx => ha (j + 1) x (by omega) (by simpa using hx)) (by simp at h; omega)]
    rfl
theorem valN_step {l : List UInt8} {r : Nat} {d : UInt8} (h : l[r]? = some d) : valN (l.drop r) = valN (l.drop (r + 1)) * 128 + d.toNat % 128 := by
  have hlt := get_lt h
  have he : l[r] = d := by have := List.getElem?_eq_getElem hlt; rw [h] at this; exact (Option.some.inj this).symm
  rw [List.drop_eq_getElem_cons hlt, he]
  show d.toNat % 128 + 128 * valN (l.drop (r + 1)) = _
  omega
/-- The shortest form, as the reference asks it. -/
theorem numR_beq {l : List UInt8} {k : Nat} {v : Nat} (h : rdN 9 l = some (v, k + 1)) : (numB v == l.take (k + 1)) = (numR l).isSome ∧ ∀ q, numR l = some q → q = (v, k + 1) := by
  have hb := rdN_bd 9 l _ h
  dsimp only at hb
  have hq : ∀ q, numR l = some q → q = (v, k + 1) := fun q hq => by
    unfold numR at hq
    rw [h] at hq
    dsimp only at hq
    split at hq
    · cases hq
    · exact (Option.some.inj hq).symm
  refine ⟨?_, hq⟩
  cases hn : numR l with
  | some q =>
    obtain rfl := hq q hn
    obtain ⟨g1, g2, g3⟩ := numR_get hn
    have : l.take (k + 1) = numB v := by rw [g1, g2]; exact List.take_left
    rw [this]
    simp
  | none =>
    show _ = false
    rw [beq_eq_false_iff_ne]
    intro he
    have h1 := numR_put (n := v) (by omega) (l.drop (k + 1))
    rw [he, List.take_append_drop] at h1
    rw [hn] at h1
    cases h1
/-- What the reference's reading answers. -/
def RNumP (l : List UInt8) (at_ : Nat) (w : World) (e : Ending) (w' : World) : Prop := Gr w w' ∧ match numR l with
  | some q => e = .returned (.tuple #[.int .i64 q.1, .int .i64 ((at_ + q.2 : Nat) : Int), .bool true])
  | none => e = .returned (.tuple #[.int .i64 0, .int .i64 0, .bool false])
set_option maxRecDepth 100000 in
set_option maxHeartbeats 6400000 in
theorem rRead_any (w : World) (a : Option Addr) (c : Nat) (p : List UInt8) (at_ : Nat) (hB : BytesAt w a p) (hpc : p.length ≤ c) (hm : p.length ≤ 100000) (hat : at_ ≤ p.length) :
    Calls Tryd.prog 62 #[.slice a p.length c, .int .i64 at_] w (RNumP (p.drop at_) at_ w) := by
  go_enter Tryd.func62, Tryd.ntmps62
  go_wp2_with fail
  go_loop [7] (fun iv => ∃ k : Nat, iv = .int .i64 ((at_ + k : Nat) : Int) ∧ k ≤ 9 ∧ at_ + k ≤ p.length ∧ Hid (∀ (j : Nat) (x : UInt8), j < k → (p.drop at_)[j]? = some x → 128 ≤ x.toNat)) (fun iv => at_ + 9 - (intOf iv).toNat)
  case atStart => exact ⟨0, rfl, by omega, by omega, Lib.hid (fun j x h => by omega)⟩
  case round =>
    obtain ⟨k, rfl, hk9, hkl, hall⟩ := hrel
    obtain ⟨i, hi⟩ : ∃ i, at_ + k = i := ⟨_, rfl⟩
    rw [hi] at hkl ⊢
    by_cases hlen : i < p.length
    · by_cases hk : k < 9
      · obtain ⟨d, hd⟩ := get_some p i hlen
        have hdl : (p.drop at_)[k]? = some d := by rw [List.getElem?_drop, hi]; exact hd
        obtain ⟨b, off, rfl, hbl, hcell⟩ := hB.get hd
        have h1 : (i : Int) < p.length := by omega
        have h2 : (i : Int) < (at_ : Int) + 9 := by omega
        have hdt := d.toNat_lt
        by_cases hd7 : d.toNat < 128
        · have hval := rdN_val k 9 _ d hk hall.out hdl hd7
          have hbd := (rdN_bd 9 _ _ hval).1
          dsimp only at hbd
          obtain ⟨l1, hl1⟩ : ∃ l1, l1 = (p.drop at_).take (k + 1) := ⟨_, rfl⟩
          have hl1l : l1.length = k + 1 := by rw [hl1, List.length_take, List.length_drop]; omega
          rw [← hl1] at hval hbd
          obtain ⟨hbq, hqq⟩ := numR_beq hval
          rw [← hl1] at hbq
          have h3 : (d.toNat : Int) < 128 := by omega
          have h3' : ¬ (128 : Int) ≤ (d.toNat : Int) := by omega
          have hcv : ∀ w1, Gr w w1 → (convert 22 9 (.slice (some ⟨b, off + at_, none⟩) (k + 1) (c - at_))).run Tryd.prog w1 = .ok (strB l1) w1 := fun w1 g => by
            have h := conv_any (c - at_) (((hB.drop at_).take (k + 1)).gr g)
            rw [← hl1, hl1l] at h
            exact h
          have hrel1 : ∀ (j : Nat) (x : UInt8), l1[j]? = some x → w.cell? ⟨b, off + (at_ + j), none⟩ = some (.int .u8 (x.toNat : Int)) := fun j x hj => by
            have h := ((hB.drop at_).take (k + 1)).at' (i := j) (d := x) (by rw [← hl1]; exact hj)
            rw [← Nat.add_assoc]
            exact h.2
          replace hd := Lib.hid hd
          replace hdl := Lib.hid hdl
          replace hval := Lib.hid hval
          replace hl1 := Lib.hid hl1
          replace hl1l := Lib.hid hl1l
          replace hbq := Lib.hid hbq
          replace hqq := Lib.hid hqq
          replace hcv := Lib.hid hcv
          replace hrel1 := Lib.hid hrel1
          go_wp2_with fail
          go_loop [8, 9] (fun nv jv => ∃ (r n : Nat), r ≤ k + 1 ∧ jv = .int .i64 ((at_ : Int) + r - 1) ∧ nv = .int .i64 n ∧ Hid (n = valN (l1.drop r))) (fun _ jv => (intOf jv + 1).toNat)
          case atStart => exact ⟨k + 1, 0, by omega, by rw [show (i : Int) = (at_ : Int) + ((k + 1 : Nat) : Int) - 1 by omega], rfl, Lib.hid (by rw [List.drop_of_length_le (by rw [hl1l.out]; omega)]; rfl)⟩
          case round =>
            obtain ⟨r, n, hr, rfl, rfl, hnv⟩ := hrel
            by_cases hr0 : r = 0
            · subst hr0
              rw [List.drop_zero] at hnv
              have hj : ¬ (at_ : Int) ≤ (at_ : Int) + ((0 : Nat) : Int) - 1 := by omega
              have hnb : n < 9223372036854775808 := by rw [hnv.out]; omega
              obtain ⟨N, hN⟩ : ∃ N, N = numB n := ⟨_, rfl⟩
              have hnum := rNum_some n hnb N hN
              have hbq' := hbq.out
              rw [← hnv.out, ← hN] at hbq'
              have e1 : IntKind.i64.wrap ((i : Int) + 1) = (i : Int) + 1 := by rw [IntKind.wrap_i64]; omega
              have e2 : ((i : Int) + 1).toNat = i + 1 := by omega
              have e3 : (at_ : Int) ≤ (i : Int) + 1 := by omega
              have e4 : (i : Int) + 1 ≤ c := by omega
              have e5 : i + 1 - at_ = k + 1 := by omega
              have e6 : at_ < c := by omega
              have hcv1 := hcv.out w.drew ((Gr.refl w).drew)
              replace hnum := Lib.hid hnum
              replace hN := Lib.hid hN
              cases hR : numR (p.drop at_) with
              | some q =>
                rw [hR] at hbq'
                have hqv := hqq.out q hR
                replace hR := Lib.hid hR
                replace hqv := Lib.hid hqv
                have hbq2 : (N == l1) = true := hbq'
                clear hbq'
                go_upto_region 10 with fail
                go_region_with (first
                  | (go_at_call 34; (with_reducible refine (hnum.out w.drew).mono ?_); rintro e w6 ⟨g6, c6, rfl, ho6⟩; have q6 := conv_any c6 ho6.2.1; have gr6 := (Gr.refl w).drew.trans ho6.2.2.2.2; have p6 := hcv.out w6 gr6; replace ho6 := Lib.hid ho6)
                  | fail)
                all_goals
                  clear e1
                  go_wp2_with fail
                  go_ret3
                  refine ⟨gr6, ?_⟩
                  rw [hR.out, hqv.out]
                  show Ending.returned (.tuple #[.int .i64 (n : Int), .int .i64 ((i : Int) + 1), .bool true]) = Ending.returned (.tuple #[.int .i64 ((valN l1 : Nat) : Int), .int .i64 ((at_ + (k + 1) : Nat) : Int), .bool true])
                  rw [hnv.out, show ((at_ + (k + 1) : Nat) : Int) = (i : Int) + 1 by omega]
              | none =>
                rw [hR] at hbq'
                replace hR := Lib.hid hR
                have hbq2 : (N == l1) = false := hbq'
                clear hbq'
                go_upto_region 10 with fail
                go_region_with (first
                  | (go_at_call 34; (with_reducible refine (hnum.out w.drew).mono ?_); rintro e w6 ⟨g6, c6, rfl, ho6⟩; have q6 := conv_any c6 ho6.2.1; have gr6 := (Gr.refl w).drew.trans ho6.2.2.2.2; have p6 := hcv.out w6 gr6; replace ho6 := Lib.hid ho6)
                  | fail)
                all_goals
                  clear e1
                  go_wp2_with fail
                  go_ret3
                  refine ⟨gr6, ?_⟩
                  rw [hR.out]
                  rfl
            · obtain ⟨s, rfl⟩ : ∃ s, r = s + 1 := ⟨r - 1, by omega⟩
              obtain ⟨x, hx⟩ := get_some l1 s (by rw [hl1l.out]; omega)
              have hcx := hrel1.out s x hx
              have hst := valN_step hx
              rw [← hnv.out] at hst
              have hlt1 := valN_lt (l1.drop s)
              have hp9 : 128 ^ (l1.drop s).length ≤ 128 ^ 9 := Nat.pow_le_pow_right (by decide) (by rw [List.length_drop, hl1l.out]; omega)
              have hp : (128 : Nat) ^ 9 = 9223372036854775808 := by decide
              rw [hp] at hp9
              have hvb : valN (l1.drop s) < 9223372036854775808 := by omega
              rw [hst] at hvb
              have hxl := x.toNat_lt
              obtain ⟨u, hu⟩ : ∃ u, at_ + s = u := ⟨_, rfl⟩
              rw [hu] at hcx
              rw [show (at_ : Int) + ((s + 1 : Nat) : Int) - 1 = (u : Int) by omega]
              have hu1 : (at_ : Int) ≤ u := by omega
              have hu2 : (u : Int) < p.length := by omega
              have hu3 : u < p.length := by omega
              have hm1 : (n : Int) * 128 ≤ 9223372036854775807 := by omega
              obtain ⟨y, hy⟩ : ∃ y : Nat, (x.toNat : Int) % 128 = (y : Int) := ⟨x.toNat % 128, by omega⟩
              have hyx : x.toNat % 128 = y := by omega
              rw [hyx] at hst hvb
              have hm2 : (n : Int) * 128 + (y : Int) ≤ 9223372036854775807 := by omega
              replace hst := Lib.hid hst
              replace hu := Lib.hid hu
              replace hyx := Lib.hid hyx
              replace hx := Lib.hid hx
              clear hp9 hp hlt1 hbd
              go_wp2_with fail
              go_round
              case rel => exact ⟨s, n * 128 + y, by omega, by rw [show (at_ : Int) + (s : Int) - 1 = (u : Int) - 1 by have := hu.out; omega], by go_num, Lib.hid hst.out.symm⟩
              case measure => first | (simp [intOf]; omega) | simp [intOf]
        · have h3 : ¬ (d.toNat : Int) < 128 := by omega
          have h3' : (128 : Int) ≤ (d.toNat : Int) := by omega
          have hall2 : ∀ (j : Nat) (x : UInt8), j < k + 1 → (p.drop at_)[j]? = some x → 128 ≤ x.toNat := fun j x hj hx => by
            by_cases hjk : j < k
            · exact hall.out j x hjk hx
            · obtain rfl : j = k := by omega
              rw [hdl] at hx; cases hx; omega
          replace hall2 := Lib.hid hall2
          replace hd := Lib.hid hd
          replace hdl := Lib.hid hdl
          go_wp2_with fail
          go_round
          case rel => exact ⟨k + 1, by rw [show ((at_ + (k + 1) : Nat) : Int) = (i : Int) + 1 by omega], by omega, by omega, hall2⟩
          case measure => simp [intOf]; omega
      · have hke : k = 9 := by omega
        have hnone : numR (p.drop at_) = none := by unfold numR; rw [rdN_none 9 9 _ (by rw [← hke]; exact hall.out) (.inl rfl)]
        have h1 : (i : Int) < p.length := by omega
        have h2 : ¬ (i : Int) < (at_ : Int) + 9 := by omega
        replace hnone := Lib.hid hnone
        replace hi := Lib.hid hi
        replace hke := Lib.hid hke
        go_wp2_with fail
        go_ret3
        exact ⟨Gr.refl w, by rw [hnone.out]; rfl⟩
    · have hnone : numR (p.drop at_) = none := by unfold numR; rw [rdN_none k 9 _ hall.out (.inr (by rw [List.length_drop]; omega))]
      have h1 : ¬ (i : Int) < p.length := by omega
      replace hnone := Lib.hid hnone
      replace hi := Lib.hid hi
      go_wp2_with fail
      go_ret3
      exact ⟨Gr.refl w, by rw [hnone.out]; rfl⟩


/-- The reference's reader: its bytes, and where it is. -/
def RrAt (K : Nat → Prop) (w : World) (rb : Nat) (p : List UInt8) (at_ : Nat) : Prop := ∃ a c, Blk w rb #[.slice a p.length c, .int .i64 at_] 94 ∧ BytesAt w a p ∧ (a = none → c = 0) ∧ (∀ x, a = some x → x.block ≠ rb ∧ K x.block) ∧ at_ ≤ p.length ∧ p.length ≤ c ∧ p.length ≤ 100000 ∧ c ≤ maxLen
theorem RrAt.gr {K : Nat → Prop} {w w' : World} {rb : Nat} {p : List UInt8} {at_ : Nat} (h : RrAt K w rb p at_) (g : Gr w w') : RrAt K w' rb p at_ := by
  obtain ⟨a, c, h1, h2, h3⟩ := h
  exact ⟨a, c, h1.gr g, h2.gr g, h3⟩
theorem RrAt.mono {K K' : Nat → Prop} {w : World} {rb : Nat} {p : List UInt8} {at_ : Nat} (h : RrAt K w rb p at_) (hk : ∀ b, K b → K' b) : RrAt K' w rb p at_ := by
  obtain ⟨a, c, h1, h2, h3, h4, h5⟩ := h
  exact ⟨a, c, h1, h2, h3, fun x hx => ⟨(h4 x hx).1, hk _ (h4 x hx).2⟩, h5⟩
theorem RrAt.grx {K : Nat → Prop} {S : List Nat} {w w' : World} {rb : Nat} {p : List UInt8} {at_ : Nat} (h : RrAt K w rb p at_) (g : GrX S w w') (h1 : rb ∉ S) (h2 : ∀ b, K b → b ∉ S) : RrAt K w' rb p at_ := by
  obtain ⟨a, c, e1, e2, e3, e4, e5⟩ := h
  exact ⟨a, c, e1.grx g h1, e2.same g.size (fun x hx hl => g.block _ (RecsAt.lt e2 hx hl) (h2 _ (e4 x hx).2)), e3, e4, e5⟩
theorem rRead_yes (w : World) (a : Option Addr) (c : Nat) (p : List UInt8) (at_ : Nat) (hB : BytesAt w a p) (hpc : p.length ≤ c) (hm : p.length ≤ 100000) (hat : at_ ≤ p.length) {v k : Nat} (hq : numR (p.drop at_) = some (v, k)) :
    Calls Tryd.prog 62 #[.slice a p.length c, .int .i64 at_] w fun e w' => e = .returned (.tuple #[.int .i64 v, .int .i64 ((at_ + k : Nat) : Int), .bool true]) ∧ Gr w w' :=
  (rRead_any w a c p at_ hB hpc hm hat).mono fun e w' ⟨h1, h2⟩ => by rw [hq] at h2; exact ⟨h2, h1⟩
theorem rRead_no (w : World) (a : Option Addr) (c : Nat) (p : List UInt8) (at_ : Nat) (hB : BytesAt w a p) (hpc : p.length ≤ c) (hm : p.length ≤ 100000) (hat : at_ ≤ p.length) (hq : numR (p.drop at_) = none) :
    Calls Tryd.prog 62 #[.slice a p.length c, .int .i64 at_] w fun e w' => e = .returned (.tuple #[.int .i64 0, .int .i64 0, .bool false]) ∧ Gr w w' :=
  (rRead_any w a c p at_ hB hpc hm hat).mono fun e w' ⟨h1, h2⟩ => by rw [hq] at h2; exact ⟨h2, h1⟩
set_option maxRecDepth 100000 in
set_option maxHeartbeats 1600000 in
theorem rrnum_yes {K : Nat → Prop} (w : World) (rb : Nat) (p : List UInt8) (at_ : Nat) (most : Int) (h : RrAt K w rb p at_) {v k : Nat} (hq : numR (p.drop at_) = some (v, k)) (hm : (v : Int) ≤ most) :
    Calls Tryd.prog 61 #[.pointer (some ⟨rb, 0, none⟩), .int .i64 most] w fun e w' => e = .returned (.tuple #[.int .i64 v, .int .i64 0]) ∧ RrAt K w' rb p (at_ + k) ∧ GrX [rb] w w' := by
  have hkb := (numR_bd hq).2.2.2
  rw [List.length_drop] at hkb
  obtain ⟨a, c, hb, hr, hcn, hax, hat, hpc, hpm⟩ := h
  have c0 := GrW.cell (hb.cell (i := 0) (v := .slice a p.length c) rfl)
  have c1 := GrW.cell (hb.cell (i := 1) (v := .int .i64 at_) rfl)
  have hz := hb.lt
  dsimp only at hkb
  have hn := fun x : GrW w => rRead_yes x.to a c p at_ (hr.gr x.gr) hpc hpm.1 hat hq
  obtain ⟨t, ht⟩ : ∃ t : Int, ((at_ + k : Nat) : Int) = t := ⟨_, rfl⟩
  rw [ht] at hn
  replace ht := Lib.hid ht
  replace hn := Lib.hid hn
  replace hb := Lib.hid hb
  replace hax := Lib.hid hax
  replace hcn := Lib.hid hcn
  replace hr := Lib.hid hr
  replace hq := Lib.hid hq
  go_enter Tryd.func61, Tryd.ntmps61
  go_upto_region 1 with fail
  refine wp_region_grows (by kernel_rfl) (by kernel_rfl) ?_
  repeat (any_goals (first | go_big_quiet_step (first | (exact Calls.grows (hn.out _)) | fail) | quiet_step (first | (exact Calls.grows (hn.out _)) | fail)))
  refine wpQuiet_nil ?_
  intro wz hwq
  have gz := GrW.of hwq
  clear hwq
  obtain ⟨cz, fz, sz⟩ := gz.cells
  try simp only [size_drewN] at cz fz sz
  try simp only [World.size_alloc] at cz fz sz
  try simp only [World.size_drew] at cz fz sz
  try simp only [World.size_setCell] at cz fz sz
  clear cz fz c0 c1
  have hbz := hb.out.gr gz
  have d1 := hbz.cell (i := 1) (v := .int .i64 at_) rfl
  have f1 := hbz.free 1
  have hzz := hbz.lt
  replace hbz := Lib.hid hbz
  go_wp2_with fail
  go_ret2
  refine ⟨rfl, ⟨a, c, ?_, (hr.out.gr gz).set (fun x hx => (hax.out x hx).1) _, hcn.out, hax.out, by omega, hpc, hpm⟩, ((GrX.refl _ _).gr gz).set (.inl (by simp)) _⟩
  have := hbz.out.set 1 (.int .i64 t)
  rw [ht.out]
  exact this
set_option maxRecDepth 100000 in
set_option maxHeartbeats 1600000 in
theorem rrnum_no {K : Nat → Prop} (w : World) (rb : Nat) (p : List UInt8) (at_ : Nat) (most : Int) (h : RrAt K w rb p at_) (hq : ∀ v k, numR (p.drop at_) = some (v, k) → most < v) :
    Calls Tryd.prog 61 #[.pointer (some ⟨rb, 0, none⟩), .int .i64 most] w fun e w' => e = .returned (.tuple #[.int .i64 0, .int .i64 3]) ∧ Gr w w' := by
  obtain ⟨a, c, hb, hr, hcn, hax, hat, hpc, hpm⟩ := h
  have c0 := GrW.cell (hb.cell (i := 0) (v := .slice a p.length c) rfl)
  have c1 := GrW.cell (hb.cell (i := 1) (v := .int .i64 at_) rfl)
  have hz := hb.lt
  cases hn : numR (p.drop at_) with
  | none =>
    have hc := fun x : GrW w => rRead_no x.to a c p at_ (hr.gr x.gr) hpc hpm.1 hat hn
    replace hc := Lib.hid hc
    replace hn := Lib.hid hn
    replace hq := Lib.hid hq
    replace hb := Lib.hid hb
    replace hax := Lib.hid hax
    replace hcn := Lib.hid hcn
    replace hr := Lib.hid hr
    go_enter Tryd.func61, Tryd.ntmps61
    go_upto_region 1 with fail
    refine wp_region_grows (by kernel_rfl) (by kernel_rfl) ?_
    repeat (any_goals (first | go_big_quiet_step (first | (exact Calls.grows (hc.out _)) | fail) | quiet_step (first | (exact Calls.grows (hc.out _)) | fail)))
    refine wpQuiet_nil ?_
    intro wz hwq
    have gz := GrW.of hwq
    clear hwq
    obtain ⟨cz, fz, sz⟩ := gz.cells
    try simp only [size_drewN] at cz fz sz
    try simp only [World.size_alloc] at cz fz sz
    try simp only [World.size_drew] at cz fz sz
    try simp only [World.size_setCell] at cz fz sz
    go_wp2_with fail
    go_ret2
    exact ⟨rfl, gz⟩
  | some q =>
    obtain ⟨v, k⟩ := q
    have hm := hq v k hn
    have hc := fun x : GrW w => rRead_yes x.to a c p at_ (hr.gr x.gr) hpc hpm.1 hat hn
    obtain ⟨t, ht⟩ : ∃ t : Int, ((at_ + k : Nat) : Int) = t := ⟨_, rfl⟩
    rw [ht] at hc
    replace ht := Lib.hid ht
    replace hc := Lib.hid hc
    replace hn := Lib.hid hn
    replace hq := Lib.hid hq
    replace hb := Lib.hid hb
    replace hax := Lib.hid hax
    replace hcn := Lib.hid hcn
    replace hr := Lib.hid hr
    go_enter Tryd.func61, Tryd.ntmps61
    go_upto_region 1 with fail
    refine wp_region_grows (by kernel_rfl) (by kernel_rfl) ?_
    repeat (any_goals (first | go_big_quiet_step (first | (exact Calls.grows (hc.out _)) | fail) | quiet_step (first | (exact Calls.grows (hc.out _)) | fail)))
    refine wpQuiet_nil ?_
    intro wz hwq
    have gz := GrW.of hwq
    clear hwq
    obtain ⟨cz, fz, sz⟩ := gz.cells
    try simp only [size_drewN] at cz fz sz
    try simp only [World.size_alloc] at cz fz sz
    try simp only [World.size_drew] at cz fz sz
    try simp only [World.size_setCell] at cz fz sz
    go_wp2_with fail
    go_ret2
    exact ⟨rfl, gz⟩


set_option maxRecDepth 100000 in
set_option maxHeartbeats 3200000 in
theorem rrbytes_no {K : Nat → Prop} (w : World) (rb : Nat) (p : List UInt8) (at_ : Nat) (most : Int) (h : RrAt K w rb p at_) (hq : ∀ v k, numR (p.drop at_) = some (v, k) → most < v ∨ p.length - (at_ + k) < v) :
    Calls Tryd.prog 45 #[.pointer (some ⟨rb, 0, none⟩), .int .i64 most] w fun e w' => e = .returned (.tuple #[.slice none 0 0, .int .i64 3]) ∧ Gr w w' := by
  obtain ⟨a, c, hb, hr, hcn, hax, hat, hpc, hpm, hcm⟩ := h
  have c0 := GrW.cell (hb.cell (i := 0) (v := .slice a p.length c) rfl)
  have c1 := GrW.cell (hb.cell (i := 1) (v := .int .i64 at_) rfl)
  have hz := hb.lt
  cases hn : numR (p.drop at_) with
  | none =>
    have hc := fun x : GrW w => rRead_no x.to a c p at_ (hr.gr x.gr) hpc hpm hat hn
    replace hc := Lib.hid hc
    replace hn := Lib.hid hn
    replace hq := Lib.hid hq
    replace hb := Lib.hid hb
    replace hax := Lib.hid hax
    replace hcn := Lib.hid hcn
    replace hr := Lib.hid hr
    go_enter Tryd.func45, Tryd.ntmps45
    go_upto_region 1 with fail
    refine wp_region_grows (by kernel_rfl) (by kernel_rfl) ?_
    repeat (any_goals (first | go_big_quiet_step (first | (exact Calls.grows (hc.out _)) | fail) | quiet_step (first | (exact Calls.grows (hc.out _)) | fail)))
    refine wpQuiet_nil ?_
    intro wz hwq
    have gz := GrW.of hwq
    clear hwq
    obtain ⟨cz, fz, sz⟩ := gz.cells
    try simp only [size_drewN] at cz fz sz
    try simp only [World.size_alloc] at cz fz sz
    try simp only [World.size_drew] at cz fz sz
    try simp only [World.size_setCell] at cz fz sz
    go_wp2_with fail
    go_ret2
    exact ⟨rfl, gz⟩
  | some q =>
    obtain ⟨v, k⟩ := q
    have hkb := (numR_bd hn).2.2.2
    rw [List.length_drop] at hkb
    dsimp only at hkb
    have hm := hq v k hn
    have hc := fun x : GrW w => rRead_yes x.to a c p at_ (hr.gr x.gr) hpc hpm hat hn
    obtain ⟨s, hs⟩ : ∃ s, at_ + k = s := ⟨_, rfl⟩
    rw [hs] at hc hm
    have hsp : s ≤ p.length := by omega
    replace hs := Lib.hid hs
    replace hc := Lib.hid hc
    replace hn := Lib.hid hn
    replace hq := Lib.hid hq
    have hbl := hb.lt
    have hb0 := hb
    replace hb := Lib.hid hb
    replace hax := Lib.hid hax
    replace hcn := Lib.hid hcn
    replace hr := Lib.hid hr
    by_cases hmv : most < v
    · replace hm := Lib.hid hm
      go_enter Tryd.func45, Tryd.ntmps45
      go_upto_region 1 with fail
      refine wp_region_grows (by kernel_rfl) (by kernel_rfl) ?_
      repeat (any_goals (first | go_big_quiet_step (first | (exact Calls.grows (hc.out _)) | fail) | quiet_step (first | (exact Calls.grows (hc.out _)) | fail)))
      refine wpQuiet_nil ?_
      intro wz hwq
      have gz := GrW.of hwq
      clear hwq
      obtain ⟨cz, fz, sz⟩ := gz.cells
      try simp only [size_drewN] at cz fz sz
      try simp only [World.size_alloc] at cz fz sz
      try simp only [World.size_drew] at cz fz sz
      try simp only [World.size_setCell] at cz fz sz
      go_wp2_with fail
      go_ret2
      exact ⟨rfl, gz⟩
    · have hlt : (p.length : Int) - s < v := by omega
      replace hm := Lib.hid hm
      replace hb0 := Lib.hid hb0
      go_enter Tryd.func45, Tryd.ntmps45
      go_upto_region 1 with fail
      refine wp_region_grows (by kernel_rfl) (by kernel_rfl) ?_
      repeat (any_goals (first | go_big_quiet_step (first | (exact Calls.grows (hc.out _)) | fail) | quiet_step (first | (exact Calls.grows (hc.out _)) | fail)))
      refine wpQuiet_nil ?_
      intro wz hwq
      have gz := GrW.of hwq
      clear hwq
      obtain ⟨cz, fz, sz⟩ := gz.cells
      try simp only [size_drewN] at cz fz sz
      try simp only [World.size_alloc] at cz fz sz
      try simp only [World.size_drew] at cz fz sz
      try simp only [World.size_setCell] at cz fz sz
      have e0 := (hb0.out.gr gz).cell (i := 0) (v := .slice a p.length c) rfl
      clear cz fz c0 c1
      go_wp2_with fail
      go_ret2
      exact ⟨rfl, gz⟩
set_option maxRecDepth 100000 in
set_option maxHeartbeats 3200000 in
theorem rrbytes_yes {K : Nat → Prop} (w : World) (rb : Nat) (p : List UInt8) (at_ : Nat) (most : Int) (h : RrAt K w rb p at_) {n k : Nat} (hq : numR (p.drop at_) = some (n, k)) (hm : (n : Int) ≤ most) (hl : n ≤ p.length - (at_ + k)) :
    Calls Tryd.prog 45 #[.pointer (some ⟨rb, 0, none⟩), .int .i64 most] w fun e w' => ∃ a c, e = .returned (.tuple #[.slice a n c, .int .i64 0]) ∧ OwnX w w' a c ((p.drop (at_ + k)).take n) ∧ RrAt K w' rb p (at_ + k + n) ∧ GrX [rb] w w' := by
  have hkb := (numR_bd hq).2.2.2
  have hk1 := (numR_bd hq).2.1
  rw [List.length_drop] at hkb
  obtain ⟨a, c, hb, hr, hcn, hax, hat, hpc, hpm, hcm⟩ := h
  dsimp only at hkb hk1
  have c0 := GrW.cell (hb.cell (i := 0) (v := .slice a p.length c) rfl)
  have c1 := GrW.cell (hb.cell (i := 1) (v := .int .i64 at_) rfl)
  have hz := hb.lt
  have hn := fun x : GrW w => rRead_yes x.to a c p at_ (hr.gr x.gr) hpc hpm hat hq
  obtain ⟨s, hs⟩ : ∃ s, at_ + k = s := ⟨_, rfl⟩
  rw [hs] at hn hl ⊢
  have hsp : s ≤ p.length := by omega
  have hns : s + n ≤ p.length := by omega
  have hne : p ≠ [] := by intro e; rw [e] at hsp; simp at hsp; omega
  obtain ⟨y, r, hyr⟩ := List.exists_cons_of_ne_nil hne
  obtain ⟨b, off, hab, -⟩ := hr.get (i := 0) (d := y) (by rw [hyr]; rfl)
  subst hab
  have hpl : ((p.drop s).take n).length = n := by rw [List.length_take, List.length_drop]; omega
  obtain ⟨P, hP⟩ : ∃ P, P = (p.drop s).take n := ⟨_, rfl⟩
  have hrP : BytesAt w (some ⟨b, off + s, none⟩) P := by rw [hP]; exact (hr.drop s).take n
  rw [← hP] at hpl ⊢
  have t1 : (s : Int) ≤ (s : Int) + n := by omega
  have t2 : (s : Int) + n ≤ c := by omega
  have t3 : (s : Int) + n ≤ p.length := by omega
  have t4 : ((s : Int) + n).toNat = s + n := by omega
  have t5 : ¬ (p.length : Int) - s < n := by omega
  have t6 : s ≤ c := by omega
  have hbn := (hax _ rfl).1
  dsimp only at hbn
  replace hyr := Lib.hid hyr
  replace hne := Lib.hid hne
  replace hn := Lib.hid hn
  replace hb := Lib.hid hb
  replace hax := Lib.hid hax
  replace hcn := Lib.hid hcn
  replace hr := Lib.hid hr
  replace hq := Lib.hid hq
  replace hs := Lib.hid hs
  replace hpl := Lib.hid hpl
  replace hP := Lib.hid hP
  replace hrP := Lib.hid hrP
  go_enter Tryd.func45, Tryd.ntmps45
  go_upto_region 1 with fail
  refine wp_region_grows (by kernel_rfl) (by kernel_rfl) ?_
  repeat (any_goals (first | go_big_quiet_step (first | (exact Calls.grows (hn.out _)) | fail) | quiet_step (first | (exact Calls.grows (hn.out _)) | fail)))
  refine wpQuiet_nil ?_
  intro wz hwq
  have gz := GrW.of hwq
  clear hwq
  obtain ⟨cz, fz, sz⟩ := gz.cells
  try simp only [size_drewN] at cz fz sz
  try simp only [World.size_alloc] at cz fz sz
  try simp only [World.size_drew] at cz fz sz
  try simp only [World.size_setCell] at cz fz sz
  clear cz fz c0 c1
  have hbz := hb.out.gr gz
  have e0 := hbz.cell (i := 0) (v := .slice (some ⟨b, off, none⟩) p.length c) rfl
  have e1 := hbz.cell (i := 1) (v := .int .i64 at_) rfl
  have f1 := hbz.free 1
  have hzz := hbz.lt
  obtain ⟨w2, hw2⟩ : ∃ w2, w2 = wz.setCell ⟨rb, 1, none⟩ (.int .i64 ((s : Int) + n)) := ⟨_, rfl⟩
  have hb2 : Blk w2 rb #[.slice (some ⟨b, off, none⟩) p.length c, .int .i64 ((s : Int) + n)] 94 := by rw [hw2]; exact hbz.set 1 _
  have g2 : GrX [rb] w w2 := by rw [hw2]; exact ((GrX.refl _ _).gr gz).set (.inl (by simp)) _
  have hr2 := hr.out.grx g2 (fun x hx _ => by cases hx; simpa using hbn)
  have hrP2 := hrP.out.grx g2 (fun x hx _ => by cases hx; simpa using hbn)
  have d0 := hb2.cell (i := 0) (v := .slice (some ⟨b, off, none⟩) p.length c) rfl
  have d1 := hb2.cell (i := 1) (v := .int .i64 ((s : Int) + n)) rfl
  have hz2 := hb2.lt
  replace hbz := Lib.hid hbz
  replace hb2 := Lib.hid hb2
  replace hr2 := Lib.hid hr2
  replace hrP2 := Lib.hid hrP2
  replace hw2 := Lib.hid hw2
  have hE := fun W => own_empty W #[] rfl
  replace hE := Lib.hid hE
  go_upto_region 5 with fail
  rw [← hw2.out]
  by_cases hsc : s < c
  · go_region_held3 (fun w' => w'.cell? ⟨rb, 0, none⟩ = some (.slice (some ⟨b, off, none⟩) p.length c) ∧ w'.cell? ⟨rb, 1, none⟩ = some (.int .i64 ((s : Int) + n))) (simp (maxDischargeDepth := 8) [go_sem, *])
      (first
        | (refine step_app (W := w2.drew) (by rfl) _ _ (by rfl) (some ⟨w2.heap.size, 0, none⟩) 0 [] (by rfl) (hE.out _) ⟨b, off + s, none⟩ (c - s) P (by rw [hpl.out]; simp [Act.eval, show ¬ c = s by omega]; done) (hrP2.out.gr ((Gr.refl w2).drew.alloc _)) (by rw [hpl.out]; simp; omega) ?_; intro a7 c7 w7 hO7 hg7; rw [List.nil_append] at hO7 ⊢; rw [hpl.out]; have g7 := (Gr.refl w2).drew.trans hO7.2.2.2.2; have hb7 := hb2.out.gr g7; have d7 := hb7.cell (i := 0) (v := .slice (some ⟨b, off, none⟩) p.length c) rfl; have d8 := hb7.cell (i := 1) (v := .int .i64 ((s : Int) + n)) rfl; replace hb7 := Lib.hid hb7; replace hO7 := Lib.hid hO7; clear hg7)
        | fail)
    all_goals
      go_wp2_with fail
      go_ret2
      have g8 := g2.trans (g7.x [rb])
      refine ⟨a7, c7, rfl, OwnX.older (W := w) (W1 := w2.drew) hO7.out.x g2.size, ⟨_, _, ?_, hr2.out.gr g7, hcn.out, hax.out, by omega, hpc, hpm, hcm⟩, g8⟩
      exact hb7.out
  · have hn0 : n = 0 := by omega
    have hP0 : P = [] := List.length_eq_zero_iff.1 (by rw [hpl.out]; exact hn0)
    have hsc2 : ¬ (s : Int) < c := by omega
    replace hP0 := Lib.hid hP0
    replace hn0 := Lib.hid hn0
    go_region_held3 (fun w' => w'.cell? ⟨rb, 0, none⟩ = some (.slice (some ⟨b, off, none⟩) p.length c) ∧ w'.cell? ⟨rb, 1, none⟩ = some (.int .i64 ((s : Int) + n))) (simp (maxDischargeDepth := 8) [go_sem, *])
      (first
        | (refine step_app (W := w2.drew) (by rfl) _ _ (by rfl) (some ⟨w2.heap.size, 0, none⟩) 0 [] (by rfl) (hE.out _) ⟨b, off, none⟩ 0 P (by rw [hpl.out]; simp [Act.eval, show c = s by omega]; done) (by rw [hP0.out]; exact fun i d hi => by simp at hi) (by rw [hpl.out]; simp; omega) ?_; intro a7 c7 w7 hO7 hg7; rw [List.nil_append] at hO7 ⊢; rw [hpl.out]; have g7 := (Gr.refl w2).drew.trans hO7.2.2.2.2; have hb7 := hb2.out.gr g7; have d7 := hb7.cell (i := 0) (v := .slice (some ⟨b, off, none⟩) p.length c) rfl; have d8 := hb7.cell (i := 1) (v := .int .i64 ((s : Int) + n)) rfl; replace hb7 := Lib.hid hb7; replace hO7 := Lib.hid hO7; clear hg7)
        | fail)
    all_goals
      go_wp2_with fail
      go_ret2
      have g8 := g2.trans (g7.x [rb])
      refine ⟨a7, c7, rfl, OwnX.older (W := w) (W1 := w2.drew) hO7.out.x g2.size, ⟨_, _, ?_, hr2.out.gr g7, hcn.out, hax.out, by omega, hpc, hpm, hcm⟩, g8⟩
      exact hb7.out


theorem RrAt.grown {K : Nat → Prop} {w w' : World} {rb : Nat} {p : List UInt8} {at_ : Nat} {row : Option Nat} (h : RrAt K w rb p at_) (hg : w.grownBy w' row) (h1 : ∀ k, row = some k → k ≠ rb ∧ ¬ K k) : RrAt K w' rb p at_ := by
  obtain ⟨a, c, e1, e2, e3, e4, e5⟩ := h
  refine ⟨a, c, e1.grown hg (fun e => (h1 rb e.symm).1 rfl), e2.grown hg (fun x hx _ e => (h1 _ e).2 (e4 x hx).2), e3, e4, e5⟩
/-- append(own, src...) of numbers: whatever the world is. -/
theorem wpList_appIX {B : Nat} {w : World} {ops : Array Oper} {rest : List Oper} {o : Oper} {a : Act} {Q : Exit → Act → World → Prop} (hgd : o.guard = none) (s x : Operand)
    (ho : o.op = .call { callee := .builtin .append, args := #[s, x], argTypes := #[66, 66] }) (a1 : Option Addr) (c1 n1 : Nat) (L1 : List Int) (hs : a.eval s = .slice a1 n1 c1) (hn : L1.length = n1) (hO : w.ownsRow B 3 1 (.slice a1 n1 c1) L1.length (L1.flatMap numC))
    (sa : Option Addr) (c : Nat) (l : List Int) (hx : a.eval x = .slice sa l.length c) (hl : RecsAt 1 numC w sa l) (hc : sa = none → c = 0) (hb : n1 + l.length ≤ 1000000) (hB : B ≤ w.heap.size)
    (h : ∀ a' c' w', w'.ownsRow B 3 1 (.slice a' (L1 ++ l).length c') (L1 ++ l).length ((L1 ++ l).flatMap numC) → RecsAt 1 numC w' a' (L1 ++ l) → (∀ y, a' = some y → B ≤ y.block) → w.grownBy w' (Value.slice a1 n1 c1).ownBlock → wpList Tryd.prog ops Q rest (a.put o.dst (.slice a' (L1 ++ l).length c')) w') : wpList Tryd.prog ops Q (o :: rest) a w := by
  subst hn
  obtain ⟨i5, hi, hz0, hz1, hz2⟩ := info_parts Tryd.infoInt
  refine wpList_append_recs (k := 1) (enc := numC) hgd s x 66 ho B 3 i5 _ 8 Tryd.underlying66 hi hz0 hz1 hz2 rfl (by decide) numC_len numC_one (.slice a1 L1.length c1) L1 hs hO sa c l hx hl hc (by unfold maxLen; omega) (by omega) hB ?_
  intro v2 w2 hown2 hgr2
  obtain ⟨a2, c2, hv2, hr2, hn2, hB2⟩ := recs_of_owns numC_len hown2
  subst hv2
  exact h a2 c2 w2 hown2 hr2 hB2 hgr2
theorem OwnX.cmax {W w : World} {a : Option Addr} {c : Nat} {l : List UInt8} (h : OwnX W w a c l) : c ≤ maxLen := by
  rcases h.1.2 with hn | ⟨g, cap, cur, hv, hg, hh, hn, hm, _⟩
  · have h1 := hn.1
    injection h1 with _ _ h3
    omega
  · cases hv; exact hm
/-- A frame is read by the reference. -/
theorem rread_frame (w : World) (b off c : Nat) (L : List UInt8) (hS : BytesAt w (some ⟨b, off, none⟩) (frameB L)) (hL : L.length ≤ 32768) (hc : (frameB L).length ≤ c) :
    Calls Tryd.prog 60 #[.slice (some ⟨b, off, none⟩) (frameB L).length c] w fun e w' => ∃ a' c', e = .returned (.tuple #[.slice a' L.length c', .int .i64 ((L.length : Int) + 8), .int .i64 0]) ∧ Own w w' a' c' L := by
  have hfl := frameB_len L
  obtain ⟨x0, x1, x2, x3, hx⟩ := four_of (le32_len L.length)
  have hxn : un32 [x0, x1, x2, x3] = L.length := by
    have := un32_le32 (n := L.length) (by omega) []
    rwa [hx, List.append_nil] at this
  obtain ⟨A, hA⟩ : ∃ A, A = le32 L.length ++ L := ⟨_, rfl⟩
  have hAl : A.length = 4 + L.length := by rw [hA, List.length_append, le32_len]
  obtain ⟨y0, y1, y2, y3, hy⟩ := four_of (le32_len (crc A))
  have hyn : un32 [y0, y1, y2, y3] = crc A := by
    have := un32_le32 (n := crc A) (crc_lt A) []
    rwa [hy, List.append_nil] at this
  have hF : frameB L = A ++ le32 (crc A) := by unfold frameB; rw [← hA]
  have hF2 : frameB L = x0 :: x1 :: x2 :: x3 :: (L ++ le32 (crc A)) := by rw [hF, hA, hx]; rfl
  have hd4 : ((frameB L).drop 4).take L.length = L := by
    rw [hF2]
    exact List.take_left' rfl
  have := rread_good w b off c (frameB L) hS x0 x1 x2 x3 y0 y1 y2 y3 _ [] hF2 (by omega) (by omega) hc (by unfold maxLen; omega) (by rw [hxn, hF, ← hy]; exact List.drop_left' hAl) (by rw [hxn, hF, List.take_left' hAl, hyn])
  rw [hxn, hd4] at this
  exact this
/-- What the reference's numbers answer of a frame. -/
def RNumsP (m : Nat) (L : List UInt8) (w : World) (e : Ending) (w' : World) : Prop := Gr w w' ∧ match numsR m L with
  | some (ns, k) => ∃ a' c' rb, e = .returned (.tuple #[.slice a' m c', .pointer (some ⟨rb, 0, none⟩)]) ∧ RecsAt 1 numC w' a' (ns.map fun (n : Nat) => (n : Int)) ∧ (∀ y, a' = some y → rb < y.block ∧ y.block < w'.heap.size) ∧ RrAt (· < rb) w' rb L k ∧ w.heap.size ≤ rb
  | none => e = .returned (.tuple #[.slice none 0 0, .pointer none])
set_option maxRecDepth 100000 in
set_option maxHeartbeats 6400000 in
theorem rnumbers_any (w : World) (b off c m : Nat) (L : List UInt8) (hS : BytesAt w (some ⟨b, off, none⟩) (frameB L)) (hL : L.length ≤ 32768) (hc : (frameB L).length ≤ c) (hm : m ≤ 100) :
    Calls Tryd.prog 44 #[.slice (some ⟨b, off, none⟩) (frameB L).length c, .int .i64 m] w (RNumsP m L w) := by
  have hfl := frameB_len L
  have hR := rread_frame w b off c L hS hL hc
  obtain ⟨n, hn⟩ : ∃ n, L.length = n := ⟨_, rfl⟩
  have hfn : (frameB L).length = n + 8 := by omega
  rw [hn] at hR
  rw [hfn] at hR ⊢
  have hnb : n ≤ 32768 := by omega
  have e1 : ((n : Int) + 8 == 0) = false := beq_eq_false_iff_ne.2 (by omega)
  have h0 : numsR m L = (numsR (m - ([] : List Nat).length) (L.drop 0)).map fun r => ([] ++ r.1, 0 + r.2) := by
    rw [List.length_nil, Nat.sub_zero, List.drop_zero]
    cases numsR m L with
    | none => rfl
    | some q => show some q = some (_, _); rw [Nat.zero_add]; rfl
  replace hR := Lib.hid hR
  replace hn := Lib.hid hn
  replace hfn := Lib.hid hfn
  replace hfl := Lib.hid hfl
  replace hS := Lib.hid hS
  replace h0 := Lib.hid h0
  go_enter Tryd.func44, Tryd.ntmps44
  go_wp2_with fail
  refine hR.out.mono ?_
  rintro e w1 ⟨a1, c1, rfl, ho1⟩
  have g1 := ho1.2.2.2.2
  have hx1 := ho1.x
  obtain ⟨rb, hrb⟩ : ∃ rb, w1.heap.size = rb := ⟨_, rfl⟩
  have z1 := g1.size
  have hcx : c1 ≤ maxLen := hx1.cmax
  have hr1 : RrAt (· < rb) (w1.alloc (.cells #[.slice a1 n c1, .int .i64 0] 94)) rb L 0 := by
    refine ⟨a1, c1, ?_, hx1.2.1.gr ((Gr.refl w1).alloc _), hx1.2.2.1, fun x hx => ?_, Nat.zero_le _, hx1.cap, by omega, hcx⟩
    · rw [hn.out]; exact Blk.new1 hrb
    · have := hx1.lt hx; constructor <;> omega
  obtain ⟨W2, hW2⟩ : ∃ W2, W2 = w1.alloc (.cells #[.slice a1 n c1, .int .i64 0] 94) := ⟨_, rfl⟩
  rw [← hW2] at hr1
  have g2 : Gr w1 W2 := by rw [hW2]; exact (Gr.refl w1).alloc _
  have hz2 : W2.heap.size = rb + 1 := by rw [hW2]; simp [hrb]
  have hO0 := owns_empty (α := Int) (enc := numC) W2 3 1 (.cells #[] 3) rfl (rb + 1) (by omega)
  rw [hz2] at hO0
  have hr2 := hr1.gr ((Gr.refl W2).alloc (.cells #[] 3))
  replace ho1 := Lib.hid ho1
  replace hx1 := Lib.hid hx1
  replace hr1 := Lib.hid hr1
  replace hr2 := Lib.hid hr2
  replace hz2 := Lib.hid hz2
  replace hO0 := Lib.hid hO0
  replace hW2 := Lib.hid hW2
  go_upto_region 6 with fail
  rw [← hW2.out]
  go_loopw [10] (fun ov wr => ∃ (q : Nat) (ns : List Nat) (a2 : Option Addr) (c2 : Nat), ov = .slice a2 ns.length c2 ∧ ns.length ≤ m ∧ Hid (numsR m L = (numsR (m - ns.length) (L.drop q)).map fun r => (ns ++ r.1, q + r.2)) ∧ Hid (wr.ownsRow (rb + 1) 3 1 (.slice a2 ns.length c2) (ns.map fun (n : Nat) => (n : Int)).length ((ns.map fun (n : Nat) => (n : Int)).flatMap numC)) ∧ Hid (RrAt (· < rb) wr rb L q) ∧ GrX [rb] W2 wr) (fun ov _ => match ov with
    | .slice _ k _ => m - k
    | _ => 0)
  case atStart => exact ⟨0, [], _, _, rfl, Nat.zero_le _, h0, hO0, hr2, ((GrX.refl [rb] W2).alloc (.cells #[] 3))⟩
  case round =>
    obtain ⟨q, ns, a2, c2, rfl, hnm, heq, hO, hrd, hg⟩ := hrel
    obtain ⟨i, hi⟩ : ∃ i, ns.length = i := ⟨_, rfl⟩
    have hzr := hg.size
    rw [hz2.out] at hzr
    have gwr : Gr w wr := GrX.all (g1.trans g2) hg (fun x hx => by simp at hx; omega)
    have hob : ∀ x, (Value.slice a2 ns.length c2).ownBlock = some x → rb + 1 ≤ x ∧ x < wr.heap.size := fun x hx => by
      have := owns_lt hO.out x hx
      exact ⟨this.2, this.1⟩
    by_cases hlt : ns.length < m
    · obtain ⟨s1, s2, s3⟩ := numsR_step hlt heq.out
      by_cases hgood : ∃ v j, numR (L.drop q) = some (v, j) ∧ v ≤ 1099511627776
      · obtain ⟨v, j, hq, hv⟩ := hgood
        have s4 := s3 v j hq hv
        have hnm1 := rrnum_yes wr rb L q 1099511627776 hrd.out hq (by omega)
        have hlt2 : (ns.length : Int) < m := by omega
        clear s1 s2 s3
        replace s4 := Lib.hid s4
        replace hnm1 := Lib.hid hnm1
        replace hq := Lib.hid hq
        replace hi := Lib.hid hi
        go_wp2_with fail
        refine hnm1.out.mono ?_
        rintro e w5 ⟨rfl, hr5, hg5⟩
        have hO5 := owns_grx hO.out hg5 (fun x hx => by have := hob x hx; simp; omega)
        obtain ⟨w6, hw6⟩ : ∃ w6, w6 = w5.alloc (.cells #[.int .i64 (v : Int)] 3) := ⟨_, rfl⟩
        have g6 : Gr w5 w6 := by rw [hw6]; exact (Gr.refl w5).alloc _
        have hs6 : RecsAt 1 numC w6 (some ⟨w5.heap.size, 0, none⟩) [(v : Int)] := by rw [hw6]; exact recs_alloc1 numC_len w5 rfl _ _ _ rfl
        have hO6 := owns_gr hO5 g6
        have hr6 := hr5.gr g6
        have hg6 := (hg.trans hg5).gr g6
        have hz6 : rb + 1 ≤ w6.heap.size := by have := hg5.size; have := g6.size; omega
        have hln : (ns.map fun (n : Nat) => (n : Int)).length = ns.length := List.length_map ..
        replace hO5 := Lib.hid hO5
        replace hO6 := Lib.hid hO6
        replace hs6 := Lib.hid hs6
        replace hr5 := Lib.hid hr5
        replace hr6 := Lib.hid hr6
        replace hw6 := Lib.hid hw6
        replace hln := Lib.hid hln
        go_wp2_with (at_builtin; go_loud (rw [← hw6.out]; refine wpList_appIX (B := rb + 1) rfl _ _ rfl a2 c2 ns.length (ns.map fun (n : Nat) => (n : Int)) rfl hln.out hO6.out (some ⟨w5.heap.size, 0, none⟩) 1 [(v : Int)] rfl hs6.out (fun h => by cases h) (by simp; omega) hz6 ?_; intro a7 c7 w7 hown7 hr7 hB7 hgr7; have hl7 : (ns.map (fun (n : Nat) => (n : Int)) ++ [(v : Int)]).length = (ns ++ [v]).length := (by simp); have hm7 : ns.map (fun (n : Nat) => (n : Int)) ++ [(v : Int)] = (ns ++ [v]).map (fun (n : Nat) => (n : Int)) := (by simp); have hrd7 := RrAt.grown hr6.out hgr7 (fun x hx => by have := hob x hx; constructor <;> omega); have gx7 := hg6.grown hgr7 (fun x hx => .inr (by have := hob x hx; have := hz2.out; omega)); rw [hl7] at hown7 ⊢; rw [hm7] at hown7; replace hown7 := Lib.hid hown7; replace hrd7 := Lib.hid hrd7; clear hr7 hB7 hgr7 hl7 hm7))
        go_roundw
        case rel => exact ⟨q + j, ns ++ [v], a7, c7, by rw [List.length_append]; rfl, by rw [List.length_append]; exact hlt, s4, Lib.hid (by rw [List.length_map]; exact hown7.out), hrd7, gx7⟩
        case measure => simp; omega
      · have hnone : numsR m L = none := by
          cases hq : numR (L.drop q) with
          | none => exact s1 hq
          | some x => exact s2 x.1 x.2 hq (by
              have : ¬ x.1 ≤ 1099511627776 := fun hle => hgood ⟨x.1, x.2, hq, hle⟩
              omega)
        have hnn := rrnum_no wr rb L q 1099511627776 hrd.out (fun v j hq => by
          have : ¬ v ≤ 1099511627776 := fun hle => hgood ⟨v, j, hq, hle⟩
          omega)
        have hlt2 : (ns.length : Int) < m := by omega
        clear s1 s2 s3 hgood
        replace hnone := Lib.hid hnone
        replace hnn := Lib.hid hnn
        replace hi := Lib.hid hi
        go_wp2_with fail
        refine hnn.out.mono ?_
        rintro e w5 ⟨rfl, g5⟩
        go_wp2_with fail
        go_ret2
        exact ⟨gwr.trans g5, by rw [hnone.out]; rfl⟩
    · have hnm2 : ns.length = m := by omega
      have hd := numsR_done hnm2 heq.out
      have hltb : decide ((ns.length : Int) < m) = false := decide_eq_false (by omega)
      have hri : RecsAt 1 numC wr a2 (ns.map fun (n : Nat) => (n : Int)) := by
        obtain ⟨a', c', hv, hr, _, _⟩ := recs_of_owns numC_len hO.out
        injection hv with h1 _ _
        rw [h1]
        exact hr
      replace hd := Lib.hid hd
      replace hi := Lib.hid hi
      replace hri := Lib.hid hri
      replace hnm2 := Lib.hid hnm2
      go_wp2_with fail
      go_ret2
      refine ⟨gwr, ?_⟩
      rw [hd.out]
      refine ⟨a2, c2, rb, ?_, hri.out, fun y hy => ?_, hrd.out, by omega⟩
      · rw [← hnm2.out]; rfl
      · have := hob y.block (by rw [hy]; rfl)
        omega
end Go.Proofs.YtlgbnjaoadlolaaDoor
