/- Law 12's Asked: its opener. -/
import Derived.Test.YtmookdgeblcjnaaDoorL2
import Derived.Lib.SmallJoins
namespace Go.Proofs.YtmookdgeblcjnaaDoor
open Go.ChangeShapes Go.WideShapes Go.ChangeAt Go.RowKit Go.Deep Go.Joins
section
variable {H : Type} {enc : TypeId × Value → H} {W : World}

set_option maxRecDepth 100000 in
theorem srvs_of_trod {fuel : Nat} {cs : List Value} {x : DataW H × List MemPlace} (h : DataW.trod enc Tryd.prog W 0 (fun _ => true) true fuel 24 cs = some x) :
    ∃ (a : Option Addr) (c : Nat) (l : List Srv), cs = [.slice a l.length c] ∧ SrvsAt W a l ∧ (a = none → c = 0) ∧ l.length ≤ c ∧ c ≤ maxLen ∧ ((x.1.weights Tryd.prog 24).all (· ≤ reachBytes) = true → l.length * 24 ≤ 140737488351232) ∧ ∀ s ∈ l, I64 s.k ∧ I64 s.q ∧ I64 s.t := by
  rcases open_slice_fields Tryd.underlying24 Tryd.underlying23 (by kernel_rfl) (by kernel_rfl) h with ⟨hcs, hx0⟩ | ⟨a, len, cap, m, D, Pl, hcs, _, hl, hm, hmm, hx, hi⟩
  · exact ⟨none, 0, [], hcs, (fun i s hs => by simp at hs), (fun _ => rfl), Nat.le_refl _, Nat.zero_le _, (fun _ => Nat.zero_le _), (fun _ h => by cases h)⟩
  · simp only [if_true] at hmm
    subst hmm
    have each : ∀ i, i < len → ∃ s : Srv, (W.cell? (a.add (i * 3)) = some (.int .i64 s.k) ∧ W.cell? (a.add (i * 3 + 1)) = some (.int .i64 s.q) ∧ W.cell? (a.add (i * 3 + 2)) = some (.int .i64 s.t)) ∧ I64 s.k ∧ I64 s.q ∧ I64 s.t := fun i h => by
      obtain ⟨ys, n, _, _, _, hg⟩ := hi i (by omega)
      obtain ⟨v0, y0, c0, _, t0⟩ := hg 0 _ rfl
      obtain ⟨v1, y1, c1, _, t1⟩ := hg 1 _ rfl
      obtain ⟨v2, y2, c2, _, t2⟩ := hg 2 _ rfl
      obtain ⟨k, e0, _, w0⟩ := DataW.trod_int Tryd.underlying3 t0
      obtain ⟨q, e1, _, w1⟩ := DataW.trod_int Tryd.underlying3 t1
      obtain ⟨t, e2, _, w2⟩ := DataW.trod_int Tryd.underlying3 t2
      simp at e0 e1 e2
      subst e0 e1 e2
      exact ⟨⟨k, q, t⟩, ⟨c0, c1, c2⟩, i64_of_wf w0, i64_of_wf w1, i64_of_wf w2⟩
    obtain ⟨f, hf'⟩ := choose_lt (p := fun i (s : Srv) => (W.cell? (a.add (i * 3)) = some (.int .i64 s.k) ∧ W.cell? (a.add (i * 3 + 1)) = some (.int .i64 s.q) ∧ W.cell? (a.add (i * 3 + 2)) = some (.int .i64 s.t)) ∧ I64 s.k ∧ I64 s.q ∧ I64 s.t) each
    refine ⟨some a, m, (List.range len).map f, by simpa using hcs, fun i s hs => ?_, (fun h => by cases h), by simpa using hl, hm, fun hw => ?_, fun s hs => ?_⟩
    · simp only [List.getElem?_map, Option.map_eq_some_iff] at hs
      obtain ⟨j, hj, rfl⟩ := hs
      obtain ⟨hj0, hj2⟩ := List.getElem?_eq_some_iff.1 hj
      have hj1 : i < len := by simpa using hj0
      obtain rfl : i = j := by simpa using hj2
      obtain ⟨⟨c0, c1, c2⟩, _⟩ := hf' _ hj1
      obtain ⟨b, o, rfl⟩ := add_plain (hf' 0 (by omega)).1.1
      rw [add_mk] at c0 c1 c2
      exact ⟨b, o, rfl, (cell_lt c0).1, c0, by rw [Nat.add_assoc]; exact c1, by rw [Nat.add_assoc]; exact c2⟩
    · subst hx
      have hby : Tryd.prog.bytesOf 23 = 24 := by kernel_rfl
      simp only [DataW.weights, Tryd.underlying24, List.all_cons, Bool.and_eq_true, List.length_map, List.length_range, hby, reachBytes] at hw
      simp only [List.length_map, List.length_range]
      have := of_decide_eq_true hw.1
      omega
    · simp only [List.mem_map, List.mem_range] at hs
      obtain ⟨i, hi', rfl⟩ := hs
      exact (hf' i hi').2
set_option maxRecDepth 100000 in
theorem tsks_of_trod {fuel : Nat} {cs : List Value} {x : DataW H × List MemPlace} (h : DataW.trod enc Tryd.prog W 0 (fun _ => true) true fuel 46 cs = some x) :
    ∃ (a : Option Addr) (c : Nat) (l : List Tsk), cs = [.slice a l.length c] ∧ TsksAt W a l ∧ (a = none → c = 0) ∧ l.length ≤ c ∧ c ≤ maxLen ∧ ((x.1.weights Tryd.prog 46).all (· ≤ reachBytes) = true → l.length * 32 ≤ 140737488351232) ∧ ∀ s ∈ l, I64 s.c ∧ I64 s.p ∧ I64 s.d ∧ I64 s.s := by
  rcases open_slice_fields Tryd.underlying46 Tryd.underlying56 (by kernel_rfl) (by kernel_rfl) h with ⟨hcs, hx0⟩ | ⟨a, len, cap, m, D, Pl, hcs, _, hl, hm, hmm, hx, hi⟩
  · exact ⟨none, 0, [], hcs, (fun i s hs => by simp at hs), (fun _ => rfl), Nat.le_refl _, Nat.zero_le _, (fun _ => Nat.zero_le _), (fun _ h => by cases h)⟩
  · simp only [if_true] at hmm
    subst hmm
    have each : ∀ i, i < len → ∃ s : Tsk, (W.cell? (a.add (i * 4)) = some (.int .i64 s.c) ∧ W.cell? (a.add (i * 4 + 1)) = some (.int .i64 s.p) ∧ W.cell? (a.add (i * 4 + 2)) = some (.int .i64 s.d) ∧ W.cell? (a.add (i * 4 + 3)) = some (.int .i64 s.s)) ∧ I64 s.c ∧ I64 s.p ∧ I64 s.d ∧ I64 s.s := fun i h => by
      obtain ⟨ys, n, _, _, _, hg⟩ := hi i (by omega)
      obtain ⟨v0, y0, c0, _, t0⟩ := hg 0 _ rfl
      obtain ⟨v1, y1, c1, _, t1⟩ := hg 1 _ rfl
      obtain ⟨v2, y2, c2, _, t2⟩ := hg 2 _ rfl
      obtain ⟨v3, y3, c3, _, t3⟩ := hg 3 _ rfl
      obtain ⟨k, e0, _, w0⟩ := DataW.trod_int Tryd.underlying3 t0
      obtain ⟨q, e1, _, w1⟩ := DataW.trod_int Tryd.underlying3 t1
      obtain ⟨t, e2, _, w2⟩ := DataW.trod_int Tryd.underlying3 t2
      obtain ⟨u, e3, _, w3⟩ := DataW.trod_int Tryd.underlying3 t3
      simp at e0 e1 e2 e3
      subst e0 e1 e2 e3
      exact ⟨⟨k, q, t, u⟩, ⟨c0, c1, c2, c3⟩, i64_of_wf w0, i64_of_wf w1, i64_of_wf w2, i64_of_wf w3⟩
    obtain ⟨f, hf'⟩ := choose_lt (p := fun i (s : Tsk) => (W.cell? (a.add (i * 4)) = some (.int .i64 s.c) ∧ W.cell? (a.add (i * 4 + 1)) = some (.int .i64 s.p) ∧ W.cell? (a.add (i * 4 + 2)) = some (.int .i64 s.d) ∧ W.cell? (a.add (i * 4 + 3)) = some (.int .i64 s.s)) ∧ I64 s.c ∧ I64 s.p ∧ I64 s.d ∧ I64 s.s) each
    refine ⟨some a, m, (List.range len).map f, by simpa using hcs, fun i s hs => ?_, (fun h => by cases h), by simpa using hl, hm, fun hw => ?_, fun s hs => ?_⟩
    · simp only [List.getElem?_map, Option.map_eq_some_iff] at hs
      obtain ⟨j, hj, rfl⟩ := hs
      obtain ⟨hj0, hj2⟩ := List.getElem?_eq_some_iff.1 hj
      have hj1 : i < len := by simpa using hj0
      obtain rfl : i = j := by simpa using hj2
      obtain ⟨⟨c0, c1, c2, c3⟩, _⟩ := hf' _ hj1
      obtain ⟨b, o, rfl⟩ := add_plain (hf' 0 (by omega)).1.1
      rw [add_mk] at c0 c1 c2 c3
      exact ⟨b, o, rfl, (cell_lt c0).1, c0, by rw [Nat.add_assoc]; exact c1, by rw [Nat.add_assoc]; exact c2, by rw [Nat.add_assoc]; exact c3⟩
    · subst hx
      have hby : Tryd.prog.bytesOf 56 = 32 := by kernel_rfl
      simp only [DataW.weights, Tryd.underlying46, List.all_cons, Bool.and_eq_true, List.length_map, List.length_range, hby, reachBytes] at hw
      simp only [List.length_map, List.length_range]
      have := of_decide_eq_true hw.1
      omega
    · simp only [List.mem_map, List.mem_range] at hs
      obtain ⟨i, hi', rfl⟩ := hs
      exact (hf' i hi').2

/-- A parent, servers, tasks, a number. -/
structure Ask12 where
  s : Srv
  la : Option Addr
  lc : Nat
  l : List Srv
  ta : Option Addr
  tc : Nat
  t : List Tsk
  n : Int
abbrev Ask12.val (x : Ask12) : Value := .agg #[.int .i64 x.s.k, .int .i64 x.s.q, .int .i64 x.s.t, .slice x.la x.l.length x.lc, .slice x.ta x.t.length x.tc, .int .i64 x.n]
/-- What lies where it says. -/
structure Ask12.At (x : Ask12) (W : World) : Prop where
  l : SrvsAt W x.la x.l
  l0 : x.la = none → x.lc = 0
  l1 : x.l.length ≤ x.lc
  l3 : x.lc ≤ maxLen
  l2 : x.l.length * 24 ≤ 140737488351232
  t : TsksAt W x.ta x.t
  t0 : x.ta = none → x.tc = 0
  t1 : x.t.length ≤ x.tc
  t3 : x.tc ≤ maxLen
  t2 : x.t.length * 32 ≤ 140737488351232
set_option maxRecDepth 100000 in
theorem open_ask {base : Nat} {v : Value} {d : DataW H} {p : List MemPlace} (hval : Value.okWide Tryd.prog W .any base 48 v) (h : DataW.Trod enc Tryd.prog W 0 (fun _ => true) true 48 v d p) (hw : (d.weights Tryd.prog 48).all (· ≤ reachBytes) = true) :
    ∃ x : Ask12, v = x.val ∧ x.At W ∧ I64 x.n := by
  obtain ⟨cs, rfl, hsz⟩ := okWide_struct Tryd.underlying48 hval
  obtain ⟨fuel, hf⟩ := h
  obtain ⟨y0, y1, y2, y3, m, hy, hlen, t0, t1, t2, t3⟩ := trod_struct4 Tryd.underlying48 hf
  have hc : Tryd.prog.cellsOf 48 = 6 := by kernel_rfl
  have hci : Tryd.prog.cellsOf 3 = 1 := by kernel_rfl
  have hcs : Tryd.prog.cellsOf 23 = 3 := by kernel_rfl
  have hcl : Tryd.prog.cellsOf 24 = 1 := by kernel_rfl
  have hct : Tryd.prog.cellsOf 46 = 1 := by kernel_rfl
  rw [hc] at hlen
  obtain ⟨ls, hls⟩ : ∃ ls, cs.toList = ls := ⟨_, rfl⟩
  simp only [Value.cells, hls] at hlen t0 t1 t2 t3
  match ls, hlen with
  | [c0, c1, c2, c3, c4, c5], _ =>
    simp only [hci, hcs, hcl, hct] at t0 t1 t2 t3
    obtain ⟨v0, v1, v2, m3, _, _, k0, k1, k2⟩ := trod_struct3 Tryd.underlying23 t0
    simp only [hci] at k0 k1 k2
    obtain ⟨s1, e4, _, w4⟩ := DataW.trod_int Tryd.underlying3 k0
    obtain ⟨s2, e5, _, w5⟩ := DataW.trod_int Tryd.underlying3 k1
    obtain ⟨s3, e6, _, w6⟩ := DataW.trod_int Tryd.underlying3 k2
    obtain ⟨la, lc, l, e1, r1, r2, r3, r5, r4, _⟩ := srvs_of_trod t1
    obtain ⟨ta, tc, t, e2, q1, q2, q3, q5, q4, _⟩ := tsks_of_trod t2
    obtain ⟨n, e3, _, w3⟩ := DataW.trod_int Tryd.underlying3 t3
    simp at e1 e2 e3 e4 e5 e6
    subst e1 e2 e3 e4 e5 e6
    simp only [Prod.mk.injEq] at hy
    obtain ⟨rfl, _⟩ := hy
    simp only [DataW.weights, Tryd.underlying48, List.map_cons, List.map_nil, DataW.weightsEach, List.all_append, Bool.and_eq_true] at hw
    exact ⟨⟨⟨s1, s2, s3⟩, la, lc, l, ta, tc, t, n⟩, congrArg Value.agg (Array.ext' hls), ⟨r1, r2, r3, r5, r4 hw.2.1, q1, q2, q3, q5, q4 hw.2.2.1⟩, i64_of_wf w3⟩
end
end Go.Proofs.YtmookdgeblcjnaaDoor
