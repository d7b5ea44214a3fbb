/- DeskSlips: the walk. -/
import Derived.Test.YtlgbnjaoadlolaaDoorP14
namespace Go.Proofs.YtlgbnjaoadlolaaDoor
open Go.RowKit

theorem bit_at (bit : Int) {N : Int} (h : 1 ≤ N) : ∃ r : Nat, (bit.tmod N + N).tmod N = (r : Int) ∧ (bit.tmod N + N) % N = (r : Int) ∧ (r : Int) < N := by
  have t1 : -N < bit.tmod N := Int.lt_tmod_of_pos bit (by omega)
  have h1 : 0 ≤ (bit.tmod N + N).tmod N := Int.tmod_nonneg _ (by omega)
  have h2 : (bit.tmod N + N).tmod N < N := Int.tmod_lt_of_pos _ (by omega)
  refine ⟨((bit.tmod N + N).tmod N).toNat, by omega, ?_, by omega⟩
  rw [← Int.tmod_eq_emod_of_nonneg (by omega)]; omega
/-- The block of an own row. -/
theorem Own.block {W w : World} {a : Option Addr} {c : Nat} {l : List UInt8} (h : Own W w a c l) (hl : l ≠ []) : ∃ g, a = some ⟨g, 0, none⟩ ∧ W.heap.size ≤ g ∧ g < w.heap.size ∧ (∀ o, w.frozen? ⟨g, o, none⟩ = false) ∧ l.length ≤ c := by
  obtain ⟨hw, _⟩ := h
  rcases hw.2 with hn | ⟨g, cap, cur, hv, hg, hh, hn, hcap, hsz, htk⟩
  · exact absurd (List.length_eq_zero_iff.1 hn.2) hl
  · cases hv
    exact ⟨g, rfl, hg, (Array.getElem?_eq_some_iff.1 hh).1, fun o => frozen_of_row w g o cur _ hh, hn⟩
theorem BytesAt.set1 {w : World} {g : Nat} {l : List UInt8} (h : BytesAt w (some ⟨g, 0, none⟩) l) {i : Nat} (d : UInt8) (hi : i < l.length) : BytesAt (w.setCell ⟨g, i, none⟩ (.int .u8 (d.toNat : Int))) (some ⟨g, 0, none⟩) (l.set i d) := BytesAt.mk fun j e hj => by
  rw [Nat.zero_add]
  obtain ⟨hb, hc⟩ := h.at' (List.getElem?_eq_getElem hi)
  rw [Nat.zero_add] at hc
  rw [List.getElem?_set] at hj
  refine ⟨by simpa using hb, ?_⟩
  by_cases he : i = j
  · subst he
    rw [if_pos rfl, if_pos hi] at hj
    cases hj
    simp [go_sem, hc]
  · rw [if_neg he] at hj
    obtain ⟨_, hc2⟩ := h.at' hj
    rw [Nat.zero_add] at hc2
    simp [go_sem, hc2]
theorem flip_val (d : UInt8) {k : Nat} (hk : k < 8) : bits .xor .u8 (d.toNat : Int) ((2 : Int) ^ k % 256) = ((UInt8.ofNat (d.toNat ^^^ 2 ^ k)).toNat : Int) ∧ UInt8.ofNat (d.toNat ^^^ 2 ^ k) ≠ d := by
  have hd : d.toNat < 2 ^ 8 := d.toNat_lt
  have hp : (2 : Nat) ^ k < 2 ^ 8 := Nat.pow_lt_pow_right (by decide) hk
  have hx : d.toNat ^^^ 2 ^ k < 2 ^ 8 := Nat.xor_lt_two_pow hd hp
  have ho : (UInt8.ofNat (d.toNat ^^^ 2 ^ k)).toNat = d.toNat ^^^ 2 ^ k := by
    rw [UInt8.toNat_ofNat']; exact Nat.mod_eq_of_lt hx
  have h2 : (2 : Int) ^ k % 256 = ((2 ^ k : Nat) : Int) := by
    have : ((2 ^ k : Nat) : Int) = (2 : Int) ^ k := by simp
    have hq : (2 : Nat) ^ k < 256 := hp
    rw [← this]; generalize (2 : Nat) ^ k = p at *; omega
  refine ⟨by rw [h2, ho]; exact xor_u8 hd hp, fun he => ?_⟩
  rw [he] at ho
  have hz : d.toNat ^^^ (d.toNat ^^^ 2 ^ k) = d.toNat ^^^ d.toNat := by rw [← ho]
  rw [← Nat.xor_assoc, Nat.xor_self, Nat.zero_xor] at hz
  have : 0 < 2 ^ k := Nat.two_pow_pos k
  omega
theorem askB_pos (k : Int) (e : Ent) : 3 ≤ (askB k e).length := by
  have h : ∀ n, 1 ≤ (numB n).length := fun n => by
    by_cases hs : n < 128
    · rw [numB_small hs]; simp
    · rw [numB_great hs]; simp
  have h1 := h k.toNat
  have h2 := h e.cl.toNat
  have h3 := h e.nu.toNat
  unfold askB
  simp [listB]
  omega
theorem askB_len {k : Int} {e : Ent} (h : askF k e = true) : (askB k e).length ≤ 300 := by
  obtain ⟨hk, n1, n2, n3, n4⟩ := askF_parts h
  have hh : Nums [k, e.cl, e.nu] := fun n hn => by
    simp only [List.mem_cons, List.not_mem_nil, or_false] at hn
    rcases hk with ⟨rfl, -⟩ | rfl <;> rcases hn with rfl | rfl | rfl <;> omega
  have h1 := listB_len hh
  unfold askB
  rw [List.length_append]
  have h3 : ([k, e.cl, e.nu] : List Int).length = 3 := rfl
  split
  · rcases hk with ⟨-, hf⟩ | h2
    · have h2 := entB_len hf
      have h4 : (numB (listB (entN e)).length).length ≤ 6 := numB_6 (by omega)
      rw [List.length_append]
      omega
    · omega
  · simp; omega
set_option maxRecDepth 100000 in
set_option maxHeartbeats 3200000 in
theorem slips_any {G : List Nat} {E : Nat → Addr} (w : World) (hE : EAt G E w) (i0 : 0 ∈ G) (i1 : 1 ∈ G) (i2 : 4 ∈ G) (k0 : Int) (e : Ent) (a : Option Addr) (c : Nat) (bit : Int) (h : (⟨e, a, c⟩ : EntM).ok Any w) :
    Calls Tryd.prog 5 #[.agg #[.int .i64 k0, .int .i64 e.cl, .int .i64 e.nu, .int .i64 e.kd, .int .i64 e.id, .int .i64 e.srv.k, .int .i64 e.srv.q, .int .i64 e.srv.t, .int .i64 e.po, .slice a e.tasks.length c, .int .i64 e.at_], .int .i64 bit] w fun e w' => e = .returned (.bool true) ∧ Gr w w' := by
  have heq0 := fun w => eql_same E 0 w
  have heq1 := fun w => eql_same E 1 w
  cases hf : askF k0 e with
  | false =>
    have hp := fun w' (g : Gr w w') => putAsk_no k0 e a c w' (h.gr g) (hE.gr g) i0 hf
    replace hp := Lib.hid hp
    replace hf := Lib.hid hf
    replace h := Lib.hid h
    go_enter Tryd.func5, Tryd.ntmps5
    go_wp2_with fail
    refine (alive20_any _ (hE.gr ((Gr.refl w).alloc _)) i0).mono ?_
    rintro e wa ⟨rfl, ga⟩
    obtain ⟨ca, fa, sa⟩ := ga.cells
    try simp only [size_drewN] at ca fa sa
    try simp only [World.size_alloc] at ca fa sa
    try simp only [World.size_drew] at ca fa sa
    try simp only [World.size_setCell] at ca fa sa
    have za0 : w.heap.size < wa.heap.size := by omega
    have ya0 : w.heap.size ≤ wa.heap.size := by omega
    have ka0 := fun o => ca (w.heap.size) o (by omega)
    have ja0 := fun o => fa (w.heap.size) o (by omega)
    go_wp2_with fail
    refine (hp.out _ (((Gr.refl w).alloc _).trans ga)).mono ?_
    rintro e wb ⟨rfl, gb⟩
    obtain ⟨cb, fb, sb⟩ := gb.cells
    try simp only [size_drewN] at cb fb sb
    try simp only [World.size_alloc] at cb fb sb
    try simp only [World.size_drew] at cb fb sb
    try simp only [World.size_setCell] at cb fb sb
    have zb0 : w.heap.size < wb.heap.size := by omega
    have yb0 : w.heap.size ≤ wb.heap.size := by omega
    have kb0 := fun o => cb (w.heap.size) o (by omega)
    have jb0 := fun o => fb (w.heap.size) o (by omega)
    have he := (hE.gr ((((Gr.refl w).alloc _).trans ga).trans gb)).c0 i0
    go_wp2_with fail
    go_ret
    exact ⟨rfl, (((Gr.refl w).alloc _).trans ga).trans gb⟩
  | true =>
    have hp := fun w' (g : Gr w w') => putAsk_yes k0 e a c w' (h.gr g) (hE.gr g) i0 hf
    have hL := askB_len hf
    have hL3 := askB_pos k0 e
    obtain ⟨L, hLe⟩ : ∃ L, L = askB k0 e := ⟨_, rfl⟩
    rw [← hLe] at hp hL hL3
    have hfl := frameB_len L
    obtain ⟨S, hS⟩ : ∃ S, S = frameB L := ⟨_, rfl⟩
    rw [← hS] at hp hfl
    replace hLe := Lib.hid hLe
    replace hS := Lib.hid hS
    replace hp := Lib.hid hp
    replace hf := Lib.hid hf
    replace h := Lib.hid h
    obtain ⟨n, hn⟩ : ∃ n, S.length = n := ⟨_, rfl⟩
    have hn1 : 11 ≤ n := by omega
    have hn2 : n ≤ 1000 := by omega
    obtain ⟨N, hN⟩ : ∃ N : Int, 8 * ((n : Int) - 4) = N := ⟨_, rfl⟩
    have hN1 : 56 ≤ N := by omega
    have hN2 : N ≤ 8000 := by omega
    obtain ⟨r, hr1, hr2, hr3⟩ := bit_at bit (N := N) (by omega)
    have t1 : -N < bit.tmod N := Int.lt_tmod_of_pos bit (by omega)
    have t2 : bit.tmod N < N := Int.tmod_lt_of_pos bit (by omega)
    obtain ⟨i, hi⟩ : ∃ i : Nat, (32 + (r : Int)) / 8 = (i : Int) := ⟨(32 + r) / 8, by omega⟩
    obtain ⟨k, hk⟩ : ∃ k : Nat, (32 + (r : Int)) % 8 = (k : Int) := ⟨(32 + r) % 8, by omega⟩
    have hi4 : 4 ≤ i := by omega
    have hin : i < n := by omega
    have hk8 : k < 8 := by omega
    replace hn := Lib.hid hn
    replace hfl := Lib.hid hfl
    replace hi := Lib.hid hi
    replace hk := Lib.hid hk
    replace hN := Lib.hid hN
    replace hr1 := Lib.hid hr1
    replace hr2 := Lib.hid hr2
    go_enter Tryd.func5, Tryd.ntmps5
    go_wp2_with fail
    refine (alive20_any _ (hE.gr ((Gr.refl w).alloc _)) i0).mono ?_
    rintro e wa ⟨rfl, ga⟩
    obtain ⟨ca, fa, sa⟩ := ga.cells
    try simp only [size_drewN] at ca fa sa
    try simp only [World.size_alloc] at ca fa sa
    try simp only [World.size_drew] at ca fa sa
    try simp only [World.size_setCell] at ca fa sa
    have za0 : w.heap.size < wa.heap.size := by omega
    have ya0 : w.heap.size ≤ wa.heap.size := by omega
    have ka0 := fun o => ca (w.heap.size) o (by omega)
    have ja0 := fun o => fa (w.heap.size) o (by omega)
    have hpa := hp.out _ (((Gr.refl w).alloc _).trans ga)
    rw [hn.out] at hpa
    go_wp2_with fail
    refine hpa.mono ?_
    rintro e wb ⟨ab, cb, rfl, ob⟩
    obtain ⟨g, rfl, hg1, hg2, hg3, hg4⟩ := ob.block (by intro hh; rw [hh] at hn; have := hn.out; simp at this; omega)
    have hN' := hN.out
    have hr1' := hr1.out
    have hr2' := hr2.out
    have hi' := hi.out
    have hk' := hk.out
    obtain ⟨d, hd⟩ : ∃ d, S[i]? = some d := get_some S i (by have := hn.out; omega)
    have hcell := (ob.2.1.at' hd).2
    rw [Nat.zero_add] at hcell
    replace hd := Lib.hid hd
    replace ob := Lib.hid ob
    go_upto_region 8 with fail
    go_wp2_with fail
    obtain ⟨hfv, hfn⟩ := flip_val d hk8
    rw [hfv]
    generalize UInt8.ofNat (d.toNat ^^^ 2 ^ k) = d' at hfn
    have gwb : Gr w wb := (((Gr.refl w).alloc _).trans ga).trans ob.out.2.2.2.2
    have gw2 : Gr w (wb.setCell ⟨g, i, none⟩ (.int .u8 (d'.toNat : Int))) := gwb.setCell (by show w.heap.size ≤ g; omega) _
    have hS2 := ob.out.2.1.set1 d' (i := i) (by have := hn.out; omega)
    generalize wb.setCell ⟨g, i, none⟩ (.int .u8 (d'.toNat : Int)) = w2 at gw2 hS2
    obtain ⟨x0, x1, x2, x3, y0, y1, y2, y3, t, q1, q2, q3, q4⟩ := slip_frame (L := L) (by omega) (i := i) hi4 (by have := hn.out; have := hfl.out; omega) (d := d') (by rw [← hS.out, hd.out]; intro hc; exact hfn (Option.some.inj hc).symm)
    rw [← hS.out] at q1 q3 q4
    have hml : n ≤ maxLen := by unfold maxLen; omega
    have hop : ∀ w3, Gr w2 w3 → Calls Tryd.prog 30 #[.slice (some ⟨g, 0, none⟩) n cb] w3 fun e w' => e = .returned (.tuple #[.pointer none, (Value.iface 137 (.pointer (some (E 1))))]) ∧ Gr w3 w' := fun w3 g3 => by
      refine opened_err w3 _ 4 (hE.gr (gw2.trans g3)) i1 ?_
      have hlen : (S.set i d').length = n := by rw [List.length_set]; exact hn.out
      have := read_sum w3 g 0 cb (S.set i d') (hS2.gr g3) (hE.gr (gw2.trans g3)) i2 x0 x1 x2 x3 y0 y1 y2 y3 t [] q1 L.length q2 (by omega) (by have := hn.out; have := hfl.out; omega) (by have := hn.out; omega) (by have := hn.out; omega) q3 q4
      rwa [hlen] at this
    replace hS2 := Lib.hid hS2
    clear q1 q2 q3 q4 hfv
    refine (getAsk_shut w2 _ hop).mono ?_
    rintro e w4 ⟨rfl, g4⟩
    have he := (hE.gr (gw2.trans g4)).c0 i1
    go_wp2_with fail
    go_ret
    exact ⟨rfl, gw2.trans g4⟩
end Go.Proofs.YtlgbnjaoadlolaaDoor
