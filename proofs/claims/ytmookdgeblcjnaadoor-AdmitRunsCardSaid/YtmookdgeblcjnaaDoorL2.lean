/- Openers of a law's arguments; a law's post. -/
import Derived.Test.YtmookdgeblcjnaaDoorL
import Derived.Test.YtmookdgeblcjnaaDoorA2
namespace Go.Proofs.YtmookdgeblcjnaaDoor
open Go.ChangeShapes Go.WideShapes Go.ChangeAt Go.RowKit Go.Deep Go.Joins

def I64 (x : Int) : Prop := -9223372036854775808 ≤ x ∧ x ≤ 9223372036854775807
theorem i64_of_wf {x : Int} (h : (Lit.int .i64 x).wf = true) : I64 x := by
  simp [Lit.wf, IntKind.min, IntKind.max, IntKind.signed, IntKind.bits] at h
  exact ⟨by omega, by omega⟩
theorem cell_lt {W : World} {a : Addr} {v : Value} (h : W.cell? a = some v) : a.block < W.heap.size ∧ a = ⟨a.block, a.off, none⟩ := by
  unfold World.cell? at h
  split at h
  · rename_i c t f hb
    refine ⟨(Array.getElem?_eq_some_iff.1 hb).1, ?_⟩
    split at h
    · cases h
    · rename_i hs
      obtain ⟨b, o, s⟩ := a
      simp at hs
      simp [hs]
  · cases h

theorem add_plain {W : World} {a : Addr} {n : Nat} {v : Value} (h : W.cell? (a.add (0 * n)) = some v) : ∃ b o, a = ⟨b, o, none⟩ := by
  rw [Nat.zero_mul] at h
  have : a.add 0 = a := by simp [Addr.add]
  rw [this] at h
  exact ⟨_, _, (cell_lt h).2⟩
theorem add_mk (b o n : Nat) : (⟨b, o, none⟩ : Addr).add n = ⟨b, o + n, none⟩ := by
  unfold Addr.add
  by_cases h : n = 0 <;> simp [h]

section
variable {H : Type} {enc : TypeId × Value → H} {W : World}

set_option maxRecDepth 100000 in
theorem open_srvs {base : Nat} {v : Value} {d : DataW H} {p : List MemPlace} (hval : Value.okWide Tryd.prog W .any base 24 v) (h : DataW.Trod enc Tryd.prog W 0 (fun _ => true) true 24 v d p) :
    ∃ (a : Option Addr) (c : Nat) (l : List Srv), v = .slice a l.length c ∧ SrvsAt W a l ∧ (a = none → c = 0) ∧ ((d.weights Tryd.prog 24).all (· ≤ reachBytes) = true → l.length * 24 ≤ 140737488351232) ∧ ∀ s ∈ l, I64 s.k ∧ I64 s.q ∧ I64 s.t := by
  obtain ⟨a0, len, cap, rfl⟩ := okWide_slice Tryd.underlying24 hval
  obtain ⟨fuel, hf⟩ := h
  rcases open_slice_fields Tryd.underlying24 Tryd.underlying23 (by kernel_rfl) (by kernel_rfl) hf with ⟨hcs, _⟩ | ⟨a, len', cap', m, D, Pl, hcs, _, hl, hm, hmm, hx, hi⟩
  · simp [Value.cells] at hcs
    obtain ⟨rfl, rfl, rfl⟩ := hcs
    exact ⟨none, 0, [], rfl, (fun i s hs => by simp at hs), (fun _ => rfl), (fun _ => Nat.zero_le _), (fun _ h => by cases h)⟩
  · simp [Value.cells] at hcs
    obtain ⟨rfl, rfl, rfl⟩ := hcs
    simp only [if_true] at hmm
    subst hmm
    have each : ∀ i, i < len → ∃ s : Srv, (W.cell? (a.add (i * 3)) = some (.int .i64 s.k) ∧ W.cell? (a.add (i * 3 + 1)) = some (.int .i64 s.q) ∧ W.cell? (a.add (i * 3 + 2)) = some (.int .i64 s.t)) ∧ I64 s.k ∧ I64 s.q ∧ I64 s.t := fun i h => by
      obtain ⟨ys, n, _, _, _, hg⟩ := hi i (by omega)
      obtain ⟨v0, y0, c0, _, t0⟩ := hg 0 _ rfl
      obtain ⟨v1, y1, c1, _, t1⟩ := hg 1 _ rfl
      obtain ⟨v2, y2, c2, _, t2⟩ := hg 2 _ rfl
      obtain ⟨k, e0, _, w0⟩ := DataW.trod_int Tryd.underlying3 t0
      obtain ⟨q, e1, _, w1⟩ := DataW.trod_int Tryd.underlying3 t1
      obtain ⟨t, e2, _, w2⟩ := DataW.trod_int Tryd.underlying3 t2
      simp at e0 e1 e2
      subst e0 e1 e2
      exact ⟨⟨k, q, t⟩, ⟨c0, c1, c2⟩, i64_of_wf w0, i64_of_wf w1, i64_of_wf w2⟩
    obtain ⟨f, hf'⟩ := choose_lt (p := fun i (s : Srv) => (W.cell? (a.add (i * 3)) = some (.int .i64 s.k) ∧ W.cell? (a.add (i * 3 + 1)) = some (.int .i64 s.q) ∧ W.cell? (a.add (i * 3 + 2)) = some (.int .i64 s.t)) ∧ I64 s.k ∧ I64 s.q ∧ I64 s.t) each
    refine ⟨some a, m, (List.range len).map f, by simp, fun i s hs => ?_, (fun h => by cases h), fun hw => ?_, fun s hs => ?_⟩
    · simp only [List.getElem?_map, Option.map_eq_some_iff] at hs
      obtain ⟨j, hj, rfl⟩ := hs
      obtain ⟨hj0, hj2⟩ := List.getElem?_eq_some_iff.1 hj
      have hj1 : i < len := by simpa using hj0
      obtain rfl : i = j := by simpa using hj2
      obtain ⟨⟨c0, c1, c2⟩, _⟩ := hf' _ hj1
      obtain ⟨b, o, rfl⟩ := add_plain (hf' 0 (by omega)).1.1
      rw [add_mk] at c0 c1 c2
      exact ⟨b, o, rfl, (cell_lt c0).1, c0, by rw [Nat.add_assoc]; exact c1, by rw [Nat.add_assoc]; exact c2⟩
    · simp only [Prod.mk.injEq] at hx
      obtain ⟨rfl, _⟩ := hx
      have hby : Tryd.prog.bytesOf 23 = 24 := by kernel_rfl
      simp only [DataW.weights, Tryd.underlying24, List.all_cons, Bool.and_eq_true, List.length_map, List.length_range, hby, reachBytes] at hw
      simp only [List.length_map, List.length_range]
      have := of_decide_eq_true hw.1
      omega
    · simp only [List.mem_map, List.mem_range] at hs
      obtain ⟨i, hi', rfl⟩ := hs
      exact (hf' i hi').2

set_option maxRecDepth 100000 in
theorem open_tsks {base : Nat} {v : Value} {d : DataW H} {p : List MemPlace} (hval : Value.okWide Tryd.prog W .any base 46 v) (h : DataW.Trod enc Tryd.prog W 0 (fun _ => true) true 46 v d p) :
    ∃ (a : Option Addr) (c : Nat) (l : List Tsk), v = .slice a l.length c ∧ TsksAt W a l ∧ (a = none → c = 0) ∧ ((d.weights Tryd.prog 46).all (· ≤ reachBytes) = true → l.length * 32 ≤ 140737488351232) ∧ ∀ s ∈ l, I64 s.c ∧ I64 s.p ∧ I64 s.d ∧ I64 s.s := by
  obtain ⟨a0, len, cap, rfl⟩ := okWide_slice Tryd.underlying46 hval
  obtain ⟨fuel, hf⟩ := h
  rcases open_slice_fields Tryd.underlying46 Tryd.underlying56 (by kernel_rfl) (by kernel_rfl) hf with ⟨hcs, _⟩ | ⟨a, len', cap', m, D, Pl, hcs, _, hl, hm, hmm, hx, hi⟩
  · simp [Value.cells] at hcs
    obtain ⟨rfl, rfl, rfl⟩ := hcs
    exact ⟨none, 0, [], rfl, (fun i s hs => by simp at hs), (fun _ => rfl), (fun _ => Nat.zero_le _), (fun _ h => by cases h)⟩
  · simp [Value.cells] at hcs
    obtain ⟨rfl, rfl, rfl⟩ := hcs
    simp only [if_true] at hmm
    subst hmm
    have each : ∀ i, i < len → ∃ s : Tsk, (W.cell? (a.add (i * 4)) = some (.int .i64 s.c) ∧ W.cell? (a.add (i * 4 + 1)) = some (.int .i64 s.p) ∧ W.cell? (a.add (i * 4 + 2)) = some (.int .i64 s.d) ∧ W.cell? (a.add (i * 4 + 3)) = some (.int .i64 s.s)) ∧ I64 s.c ∧ I64 s.p ∧ I64 s.d ∧ I64 s.s := fun i h => by
      obtain ⟨ys, n, _, _, _, hg⟩ := hi i (by omega)
      obtain ⟨v0, y0, c0, _, t0⟩ := hg 0 _ rfl
      obtain ⟨v1, y1, c1, _, t1⟩ := hg 1 _ rfl
      obtain ⟨v2, y2, c2, _, t2⟩ := hg 2 _ rfl
      obtain ⟨v3, y3, c3, _, t3⟩ := hg 3 _ rfl
      obtain ⟨k, e0, _, w0⟩ := DataW.trod_int Tryd.underlying3 t0
      obtain ⟨q, e1, _, w1⟩ := DataW.trod_int Tryd.underlying3 t1
      obtain ⟨t, e2, _, w2⟩ := DataW.trod_int Tryd.underlying3 t2
      obtain ⟨u, e3, _, w3⟩ := DataW.trod_int Tryd.underlying3 t3
      simp at e0 e1 e2 e3
      subst e0 e1 e2 e3
      exact ⟨⟨k, q, t, u⟩, ⟨c0, c1, c2, c3⟩, i64_of_wf w0, i64_of_wf w1, i64_of_wf w2, i64_of_wf w3⟩
    obtain ⟨f, hf'⟩ := choose_lt (p := fun i (s : Tsk) => (W.cell? (a.add (i * 4)) = some (.int .i64 s.c) ∧ W.cell? (a.add (i * 4 + 1)) = some (.int .i64 s.p) ∧ W.cell? (a.add (i * 4 + 2)) = some (.int .i64 s.d) ∧ W.cell? (a.add (i * 4 + 3)) = some (.int .i64 s.s)) ∧ I64 s.c ∧ I64 s.p ∧ I64 s.d ∧ I64 s.s) each
    refine ⟨some a, m, (List.range len).map f, by simp, fun i s hs => ?_, (fun h => by cases h), fun hw => ?_, fun s hs => ?_⟩
    · simp only [List.getElem?_map, Option.map_eq_some_iff] at hs
      obtain ⟨j, hj, rfl⟩ := hs
      obtain ⟨hj0, hj2⟩ := List.getElem?_eq_some_iff.1 hj
      have hj1 : i < len := by simpa using hj0
      obtain rfl : i = j := by simpa using hj2
      obtain ⟨⟨c0, c1, c2, c3⟩, _⟩ := hf' _ hj1
      obtain ⟨b, o, rfl⟩ := add_plain (hf' 0 (by omega)).1.1
      rw [add_mk] at c0 c1 c2 c3
      exact ⟨b, o, rfl, (cell_lt c0).1, c0, by rw [Nat.add_assoc]; exact c1, by rw [Nat.add_assoc]; exact c2, by rw [Nat.add_assoc]; exact c3⟩
    · simp only [Prod.mk.injEq] at hx
      obtain ⟨rfl, _⟩ := hx
      have hby : Tryd.prog.bytesOf 56 = 32 := by kernel_rfl
      simp only [DataW.weights, Tryd.underlying46, List.all_cons, Bool.and_eq_true, List.length_map, List.length_range, hby, reachBytes] at hw
      simp only [List.length_map, List.length_range]
      have := of_decide_eq_true hw.1
      omega
    · simp only [List.mem_map, List.mem_range] at hs
      obtain ⟨i, hi', rfl⟩ := hs
      exact (hf' i hi').2

set_option maxRecDepth 100000 in
theorem open_srv {base : Nat} {v : Value} {d : DataW H} {p : List MemPlace} (hval : Value.okWide Tryd.prog W .any base 23 v) (h : DataW.Trod enc Tryd.prog W 0 (fun _ => true) true 23 v d p) :
    ∃ s : Srv, v = .agg #[.int .i64 s.k, .int .i64 s.q, .int .i64 s.t] ∧ I64 s.k ∧ I64 s.q ∧ I64 s.t := by
  obtain ⟨v0, v1, v2, y0, y1, y2, n, rfl, _, _, t0, t1, t2⟩ := open_agg3 Tryd.underlying23 (by kernel_rfl) (by kernel_rfl) hval h
  obtain ⟨k, e0, _, w0⟩ := DataW.trod_int Tryd.underlying3 t0
  obtain ⟨q, e1, _, w1⟩ := DataW.trod_int Tryd.underlying3 t1
  obtain ⟨t, e2, _, w2⟩ := DataW.trod_int Tryd.underlying3 t2
  simp at e0 e1 e2
  subst e0 e1 e2
  exact ⟨⟨k, q, t⟩, rfl, i64_of_wf w0, i64_of_wf w1, i64_of_wf w2⟩

set_option maxRecDepth 100000 in
theorem open_tsk {base : Nat} {v : Value} {d : DataW H} {p : List MemPlace} (hval : Value.okWide Tryd.prog W .any base 56 v) (h : DataW.Trod enc Tryd.prog W 0 (fun _ => true) true 56 v d p) :
    ∃ s : Tsk, v = .agg #[.int .i64 s.c, .int .i64 s.p, .int .i64 s.d, .int .i64 s.s] ∧ I64 s.c ∧ I64 s.p ∧ I64 s.d ∧ I64 s.s := by
  obtain ⟨v0, v1, v2, v3, y0, y1, y2, y3, n, rfl, _, _, t0, t1, t2, t3⟩ := open_agg4 Tryd.underlying56 (by kernel_rfl) (by kernel_rfl) hval h
  obtain ⟨k, e0, _, w0⟩ := DataW.trod_int Tryd.underlying3 t0
  obtain ⟨q, e1, _, w1⟩ := DataW.trod_int Tryd.underlying3 t1
  obtain ⟨t, e2, _, w2⟩ := DataW.trod_int Tryd.underlying3 t2
  obtain ⟨u, e3, _, w3⟩ := DataW.trod_int Tryd.underlying3 t3
  simp at e0 e1 e2 e3
  subst e0 e1 e2 e3
  exact ⟨⟨k, q, t, u⟩, rfl, i64_of_wf w0, i64_of_wf w1, i64_of_wf w2, i64_of_wf w3⟩

set_option maxRecDepth 100000 in
theorem open_i64 {base : Nat} {v : Value} {d : DataW H} {p : List MemPlace} (hval : Value.okWide Tryd.prog W .any base 3 v) (h : DataW.Trod enc Tryd.prog W 0 (fun _ => true) true 3 v d p) : ∃ n, v = .int .i64 n ∧ I64 n := by
  obtain ⟨n, rfl, _, _, hw⟩ := open_int Tryd.underlying3 hval h
  exact ⟨n, rfl, i64_of_wf hw⟩

/-- The arguments read again. -/
theorem all_again {W' : World} (hb : Gr W W') : ∀ (ts : List TypeId) (vs : List Value) (ds : List (DataW H)) (p : List MemPlace),
    (ts.all fun t => Tryd.prog.readableRec t && decide (t < Tryd.prog.types.size)) = true → (∀ x ∈ p, x.block < W.heap.size) →
    DataW.TrodAll enc Tryd.prog W 0 (fun _ => true) true ts vs ds p → DataW.TrodAll enc Tryd.prog W' 0 (fun b => decide (b < W.heap.size)) true ts vs ds p := by
  intro ts
  induction ts with
  | nil =>
    intro vs ds p _ _ h
    obtain ⟨rfl, rfl, rfl⟩ := trodAll_nil h
    exact rfl
  | cons t ts ih =>
    intro vs ds p hts hp h
    simp only [List.all_cons, Bool.and_eq_true, decide_eq_true_eq] at hts
    obtain ⟨v, vs', d, ds', p1, q, rfl, rfl, rfl, h1, h2⟩ := trodAll_cons h
    exact trodAll_cons_mk (Below.trod laidOut hts.1.1 hts.1.2 h1 hb (fun x hx => hp x (List.mem_append_left _ hx))) (ih vs' ds' q (by simpa using hts.2) (fun x hx => hp x (List.mem_append_right _ hx)) h2)

/-- A LAW's POST: it returned true, and what was there is there as it was. -/
theorem post_law {f : Func} {s : ChangeSpec} {W' : World} {args : Array Value} {ds gs : List (DataW H)} {before : List MemPlace}
    (hps : (f.params.toList.all fun t => Tryd.prog.readableRec t && decide (t < Tryd.prog.types.size)) = true) (hrt : f.resultTypes = #[4]) (hvs : s.vars = [])
    (hfn : (s.fn H ds).results = [.lit (.bool true)] ∧ (s.fn H ds).args = ds ∧ (s.fn H ds).vars = [])
    (hW : DataW.Whole enc Tryd.prog f.params.toList s.vars false W args.toList ds gs before) (hb : Gr W W') :
    s.post enc Tryd.prog f false true false false W args (.bool true) W' := by
  have hlt := hW.lt
  have hW' := hW
  obtain ⟨p, q, hA, hV, rfl, hfz, hnd⟩ := hW
  rw [hvs] at hV
  obtain ⟨rfl, rfl⟩ := trodVars_none hV
  refine ⟨ds, [], p ++ [], [], p, [], hW', ?_, ?_, ?_, hb.frame _, fun h => by cases h⟩
  · rw [List.append_nil, hfn.1, hrt]
    exact trodAll_mk1 (shut_bool Tryd.underlying4 _)
  · rw [List.append_nil, hfn.2.1]
    exact all_again hb _ _ _ _ hps (fun x hx => hlt x (by simpa using hx)) hA
  · rw [List.append_nil, hfn.2.2, hvs]
    rfl
end
end Go.Proofs.YtmookdgeblcjnaaDoor
