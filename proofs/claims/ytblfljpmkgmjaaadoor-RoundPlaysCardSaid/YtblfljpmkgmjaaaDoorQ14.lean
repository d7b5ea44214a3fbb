/- Who is missing: the program's Missing, the reference's. -/
import Derived.Test.YtblfljpmkgmjaaaDoorQ13
namespace Go.Proofs.YtblfljpmkgmjaaaDoor
open Go.RowKit
variable {K0 : Nat → Prop}

/-- append(own, src...) of numbers. -/
theorem wpList_appZ {B : Nat} {w : World} {ops : Array Oper} {rest : List Oper} {o : Oper} {a : Act} {Q : Exit → Act → World → Prop} (hgd : o.guard = none) (s x : Operand)
    (ho : o.op = .call { callee := .builtin .append, args := #[s, x], argTypes := #[23, 23] }) (a1 : Option Addr) (c1 n1 : Nat) (L1 : List Int) (hs : a.eval s = .slice a1 n1 c1) (hn : L1.length = n1) (hO : w.ownsRow B 3 1 (.slice a1 n1 c1) L1.length (L1.flatMap inC))
    (sa : Option Addr) (c : Nat) (l : List Int) (hx : a.eval x = .slice sa l.length c) (hl : RecsAt 1 inC w sa l) (hc : sa = none → c = 0) (hb : n1 + l.length ≤ 1000000) (hB : B ≤ w.heap.size)
    (h : ∀ a' c' w', w'.ownsRow B 3 1 (.slice a' (L1 ++ l).length c') (L1 ++ l).length ((L1 ++ l).flatMap inC) → RecsAt 1 inC w' a' (L1 ++ l) → (∀ y, a' = some y → B ≤ y.block) → w.grownBy w' (Value.slice a1 n1 c1).ownBlock → wpList Tryd.prog ops Q rest (a.put o.dst (.slice a' (L1 ++ l).length c')) w') : wpList Tryd.prog ops Q (o :: rest) a w := by
  subst hn
  obtain ⟨i5, hi, hz0, hz1, hz2⟩ := info_parts Tryd.infoI
  refine wpList_append_recs (k := 1) (enc := inC) hgd s x 23 ho B 3 i5 _ 8 Tryd.underlying23 hi hz0 hz1 hz2 rfl (by decide) inC_len inC_one (.slice a1 L1.length c1) L1 hs hO sa c l hx hl hc (by unfold maxLen; omega) (by omega) hB ?_
  intro v2 w2 hown2 hgr2
  obtain ⟨a2, c2, hv2, hr2, hn2, hB2⟩ := recs_of_owns inC_len hown2
  subst hv2
  exact h a2 c2 w2 hown2 hr2 hB2 hgr2
def RndV.lacks (r : RndV) (i : Nat) : Bool := decide (r.st = 1 ∨ r.st = 2) && decide (r.an[i]? = some false)
def RndV.missTo (r : RndV) (k : Nat) : List Nat := (List.range k).filter r.lacks
theorem RndV.missTo_succ (r : RndV) (k : Nat) : r.missTo (k + 1) = r.missTo k ++ if r.lacks k then [k] else [] := by
  unfold RndV.missTo
  rw [List.range_succ, List.filter_append]
  cases h : r.lacks k <;> simp [h]
theorem RndV.missTo_len (r : RndV) (k : Nat) : (r.missTo k).length ≤ k := by
  have := List.length_filter_le r.lacks (List.range k)
  rw [List.length_range] at this
  exact this
/-- Who is missing. -/
abbrev RndV.missing (r : RndV) : List Int := ints (r.missTo r.an.length)
/-- A function to range over the numbers zs. -/
def OverP (zs : List Int) (w : World) (e : Ending) (w' : World) : Prop := ∃ Bs sv b, e = .returned (.func (.func 118) #[] #[.pointer (some ⟨Bs, 0, none⟩)]) ∧ Bs < w'.heap.size ∧ w'.cell? ⟨Bs, 0, none⟩ = some sv ∧ VAt b w' sv zs ∧ w.heap.size ≤ b ∧ b < w'.heap.size ∧ Gr w w'
theorem values_calls (a : Option Addr) (len cap : Nat) (w : World) : Calls Tryd.prog 98 #[.slice a len cap] w fun e w' => e = .returned (.func (.func 118) #[] #[.pointer (some ⟨w.heap.size, 0, none⟩)]) ∧ w' = w.alloc (.cells #[.slice a len cap] 23) := by
  go_enter Tryd.func98, Tryd.ntmps98
  go_wp2_with fail
  go_ret
  exact ⟨rfl, rfl⟩
set_option maxRecDepth 100000 in
set_option maxHeartbeats 3200000 in
theorem missing_any (R : Rnd) (w : World) (rb ab : Nat) (h : RndAt K0 w rb ab R) :
    Calls Tryd.prog 66 #[.pointer (some ⟨rb, 0, none⟩)] w (OverP R.v.missing w) := by
  have c0 : w.cell? ⟨rb, 0, none⟩ = some (.slice (some ⟨ab, 0, none⟩) R.an.length R.an.length) := h.o.cell rfl
  have hn7 := h.n7
  obtain ⟨n, hn⟩ : ∃ n, R.an.length = n := ⟨_, rfl⟩
  rw [hn] at c0 hn7
  obtain ⟨Z, hZ⟩ : ∃ Z, Z = R.v.missing := ⟨_, rfl⟩
  rw [← hZ]
  replace h := Lib.hid h
  replace hn := Lib.hid hn
  replace hZ := Lib.hid hZ
  go_enter Tryd.func66, Tryd.ntmps66
  go_wp2_with fail
  go_loopw [11, 3] (fun iv ov wr => ∃ (k : Nat) (a : Option Addr) (c : Nat), k ≤ n ∧ iv = .int .i64 k ∧ ov = .slice a (R.v.missTo k).length c ∧ Hid (wr.ownsRow w.heap.size 3 1 (.slice a (R.v.missTo k).length c) (ints (R.v.missTo k)).length ((ints (R.v.missTo k)).flatMap inC)) ∧ Gr w wr) (fun iv _ _ => n - (intOf iv).toNat)
  case atStart => exact ⟨0, none, 0, Nat.zero_le _, rfl, rfl, Lib.hid (World.ownsRow_nil _ _ _ _), Gr.refl _⟩
  case round =>
    obtain ⟨k, a, c, hk, rfl, rfl, hO, hg⟩ := hrel
    have hr := h.out.gr hg
    have c14 : wr.cell? ⟨rb, 14, none⟩ = some (.int .i64 R.st) := hr.o.cell rfl
    have hsz := hg.size
    by_cases hlt : k < n
    · obtain ⟨v, hv⟩ := get_some R.an k (by rw [hn.out]; exact hlt)
      have ca := hr.an hv
      have hml := R.v.missTo_len k
      have hs := R.v.missTo_succ k
      have hlk : R.v.lacks k = (decide (R.st = 1 ∨ R.st = 2) && !v) := by
        unfold RndV.lacks
        rw [show R.v.an[k]? = some v from hv]
        cases v <;> simp
      replace hv := Lib.hid hv
      cases hc : (decide (R.st = 1 ∨ R.st = 2) && !v) with
      | false =>
        have hs2 : R.v.missTo (k + 1) = R.v.missTo k := by rw [hs, hlk, hc]; simp
        cases v with
        | true =>
          replace hs := Lib.hid hs
          replace hlk := Lib.hid hlk
          replace hs2 := Lib.hid hs2
          clear hc
          go_wp2_with fail
          go_roundw
          case rel => exact ⟨k + 1, a, c, by omega, by go_num, by rw [hs2.out], Lib.hid (by rw [hs2.out]; exact hO.out), hg⟩
          case measure => simp [intOf]; omega
        | false =>
          have hst : R.st ≠ 1 ∧ R.st ≠ 2 := by
            have : decide (R.st = 1 ∨ R.st = 2) = false := by simpa using hc
            have := of_decide_eq_false this
            exact ⟨fun e => this (.inl e), fun e => this (.inr e)⟩
          have t1 : (R.st == 1) = false := beq_eq_false_iff_ne.2 hst.1
          have t2 : (R.st == 2) = false := beq_eq_false_iff_ne.2 hst.2
          replace hs := Lib.hid hs
          replace hlk := Lib.hid hlk
          replace hs2 := Lib.hid hs2
          clear hc hst
          go_wp2_with fail
          go_roundw
          case rel => exact ⟨k + 1, a, c, by omega, by go_num, by rw [hs2.out], Lib.hid (by rw [hs2.out]; exact hO.out), hg⟩
          case measure => simp [intOf]; omega
      | true =>
        obtain ⟨hd, hvf⟩ : decide (R.st = 1 ∨ R.st = 2) = true ∧ v = false := by simpa using hc
        subst hvf
        have hs2 : R.v.missTo (k + 1) = R.v.missTo k ++ [k] := by rw [hs, hlk, hc]; rfl
        have hl2 : (R.v.missTo (k + 1)).length = (R.v.missTo k).length + 1 := by rw [hs2, List.length_append]; rfl
        have hi2 : ints (R.v.missTo k) ++ [(k : Int)] = ints (R.v.missTo (k + 1)) := by rw [hs2]; simp [ints]
        have hil : (ints (R.v.missTo k)).length = (R.v.missTo k).length := List.length_map ..
        have hil2 : (ints (R.v.missTo (k + 1))).length = (R.v.missTo (k + 1)).length := List.length_map ..
        obtain ⟨wz, hwz⟩ : ∃ wz, wz = wr.alloc (.cells #[.int .i64 (k : Int)] 3) := ⟨_, rfl⟩
        have gz : Gr wr wz := by rw [hwz]; exact (Gr.refl wr).alloc _
        have hOz := owns_gr hO.out gz
        have hsz2 : RecsAt 1 inC wz (some ⟨wr.heap.size, 0, none⟩) [(k : Int)] := by rw [hwz]; exact recs_alloc inC_len wr [(k : Int)] 3 _ (by simp)
        have hBz : w.heap.size ≤ wz.heap.size := by have := gz.size; omega
        have hob : ∀ x, (Value.slice a (R.v.missTo k).length c).ownBlock = some x → w.heap.size ≤ x := fun x hx => (owns_lt hO.out x hx).2
        have hd2 := of_decide_eq_true hd
        replace hs := Lib.hid hs
        replace hlk := Lib.hid hlk
        replace hs2 := Lib.hid hs2
        replace hl2 := Lib.hid hl2
        replace hi2 := Lib.hid hi2
        replace hil := Lib.hid hil
        replace hil2 := Lib.hid hil2
        replace hwz := Lib.hid hwz
        replace hOz := Lib.hid hOz
        replace hsz2 := Lib.hid hsz2
        replace hob := Lib.hid hob
        clear hc hd
        by_cases h1 : R.st = 1
        · have t1 : (R.st == 1) = true := by simpa using h1
          replace h1 := Lib.hid h1
          clear hd2
          go_wp2_with (at_builtin; go_loud (rw [← hwz.out]; refine wpList_appZ (B := w.heap.size) rfl _ _ rfl a c (R.v.missTo k).length (ints (R.v.missTo k)) rfl hil.out hOz.out (some ⟨wr.heap.size, 0, none⟩) 1 [(k : Int)] rfl hsz2.out (fun h => by cases h) (by simp; omega) hBz ?_; intro a7 c7 w7 hown7 hr7 hB7 hgr7; rw [hi2.out, hil2.out] at hown7; rw [hi2.out, hil2.out]; have g7 : Gr w w7 := (hg.trans gz).grown hgr7 (fun x hx => hob.out x hx); replace hown7 := Lib.hid hown7; clear hr7 hB7 hgr7))
          go_roundw
          case rel => exact ⟨k + 1, a7, c7, by omega, by go_num, rfl, Lib.hid (by rw [hil2.out]; exact hown7.out), g7⟩
          case measure => simp [intOf]; omega
        · have t1 : (R.st == 1) = false := beq_eq_false_iff_ne.2 h1
          have t2 : (R.st == 2) = true := by have : R.st = 2 := by omega
                                             simpa using this
          replace h1 := Lib.hid h1
          clear hd2
          go_wp2_with (at_builtin; go_loud (rw [← hwz.out]; refine wpList_appZ (B := w.heap.size) rfl _ _ rfl a c (R.v.missTo k).length (ints (R.v.missTo k)) rfl hil.out hOz.out (some ⟨wr.heap.size, 0, none⟩) 1 [(k : Int)] rfl hsz2.out (fun h => by cases h) (by simp; omega) hBz ?_; intro a7 c7 w7 hown7 hr7 hB7 hgr7; rw [hi2.out, hil2.out] at hown7; rw [hi2.out, hil2.out]; have g7 : Gr w w7 := (hg.trans gz).grown hgr7 (fun x hx => hob.out x hx); replace hown7 := Lib.hid hown7; clear hr7 hB7 hgr7))
          go_roundw
          case rel => exact ⟨k + 1, a7, c7, by omega, by go_num, rfl, Lib.hid (by rw [hil2.out]; exact hown7.out), g7⟩
          case measure => simp [intOf]; omega
    · have hkn : k = n := by omega
      have hZe : Z = ints (R.v.missTo k) := by rw [hZ.out, hkn, ← hn.out]
      have hri : RecsAt 1 inC wr a (ints (R.v.missTo k)) ∧ (a = none → c = 0) := by
        obtain ⟨a', c', hv, hr, hnn, _⟩ := recs_of_owns inC_len hO.out
        injection hv with h1 _ h3
        rw [h1, h3]
        exact ⟨hr, hnn⟩
      have hlz : (ints (R.v.missTo k)).length = (R.v.missTo k).length := List.length_map ..
      replace hZe := Lib.hid hZe
      replace hri := Lib.hid hri
      replace hkn := Lib.hid hkn
      replace hlz := Lib.hid hlz
      have hob : ∀ x, (Value.slice a (R.v.missTo k).length c).ownBlock = some x → x < wr.heap.size := fun x hx => (owns_lt hO.out x hx).1
      replace hob := Lib.hid hob
      go_wp2_with fail
      refine (values_calls _ _ _ _).mono ?_
      rintro e w9 ⟨rfl, rfl⟩
      go_wp2_with fail
      go_ret
      rw [hZe.out]
      have hgz := hg.size
      cases a with
      | none =>
        have hl0 : (ints (R.v.missTo k)) = [] := by
          cases hL : ints (R.v.missTo k) with
          | nil => rfl
          | cons y t =>
            obtain ⟨b, off, e, _⟩ := hri.out.1 0 y (by rw [hL]; rfl)
            cases e
        have hl1 : (R.v.missTo k).length = 0 := by rw [← hlz.out, hl0]; rfl
        exact ⟨wr.heap.size, _, w.heap.size, rfl, by simp, by simp [go_sem]; rfl, .inl ⟨by rw [hl1, hri.out.2 rfl], hl0⟩, Nat.le_refl _, by simp; omega, hg.alloc _⟩
      | some x =>
        obtain ⟨_, hn1 | ⟨g, cap, cur, hv, hg2, hh, _⟩⟩ := hO.out
        · cases hn1.1
        · injection hv with e1 e2 e3
          cases e1
          refine ⟨wr.heap.size, _, g, rfl, by simp, by simp [go_sem]; rfl, .inr ⟨0, c, by rw [hlz.out], fun j hj => ?_⟩, hg2, by have := hob.out g rfl; simp; omega, hg.alloc _⟩
          obtain ⟨y, hy⟩ := get_some (ints (R.v.missTo k)) j hj
          obtain ⟨b, off, e4, hb, hc⟩ := hri.out.1 j y hy
          cases e4
          have := hc 0 _ rfl
          rw [Nat.mul_one, Nat.add_zero] at this
          rw [((Gr.refl wr).alloc _).cells.1 _ _ hb, this, hy]
          rfl
end Go.Proofs.YtblfljpmkgmjaaaDoor
