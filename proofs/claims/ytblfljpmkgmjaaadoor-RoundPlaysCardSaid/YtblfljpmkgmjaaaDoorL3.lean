/- Openers of entries, ballots, lists of entries, lists of numbers; a law's post. -/
import Derived.Test.YtblfljpmkgmjaaaDoorL
import Derived.Test.YtblfljpmkgmjaaaDoorG1
namespace Go.Proofs.YtblfljpmkgmjaaaDoor
open Go.ChangeShapes Go.WideShapes Go.ChangeAt Go.RowKit Go.Deep Go.Joins

def I64 (x : Int) : Prop := -9223372036854775808 ≤ x ∧ x ≤ 9223372036854775807
theorem i64_of_wf {x : Int} (h : (Lit.int .i64 x).wf = true) : I64 x := by
  simp [Lit.wf, IntKind.min, IntKind.max, IntKind.signed, IntKind.bits] at h
  exact ⟨by omega, by omega⟩
theorem cell_lt {W : World} {a : Addr} {v : Value} (h : W.cell? a = some v) : a.block < W.heap.size ∧ a = ⟨a.block, a.off, none⟩ := by
  unfold World.cell? at h
  split at h
  · rename_i c t f hb
    refine ⟨(Array.getElem?_eq_some_iff.1 hb).1, ?_⟩
    split at h
    · cases h
    · rename_i hs
      obtain ⟨b, o, s⟩ := a
      simp at hs
      simp [hs]
  · cases h

theorem add_plain {W : World} {a : Addr} {n : Nat} {v : Value} (h : W.cell? (a.add (0 * n)) = some v) : ∃ b o, a = ⟨b, o, none⟩ := by
  rw [Nat.zero_mul] at h
  have : a.add 0 = a := by simp [Addr.add]
  rw [this] at h
  exact ⟨_, _, (cell_lt h).2⟩
theorem add_mk (b o n : Nat) : (⟨b, o, none⟩ : Addr).add n = ⟨b, o + n, none⟩ := by
  unfold Addr.add
  by_cases h : n = 0 <;> simp [h]


theorem chosen {α : Type} {n : Nat} {p : Nat → α → Prop} (h : ∀ i, i < n → ∃ s, p i s) : ∃ l : List α, l.length = n ∧ ∀ i s, l[i]? = some s → p i s := by
  induction n with
  | zero => exact ⟨[], rfl, fun i s h => by simp at h⟩
  | succ n ih =>
    obtain ⟨l, hl, hp⟩ := ih (fun i hi => h i (by omega))
    obtain ⟨s, hs⟩ := h n (by omega)
    refine ⟨l ++ [s], by simp [hl], fun i x hx => ?_⟩
    by_cases hi : i < n
    · rw [List.getElem?_append_left (by omega)] at hx; exact hp i x hx
    · rw [List.getElem?_append_right (by omega)] at hx
      have h0 : i - l.length = 0 := by
        have := get_lt hx
        simpa using this
      rw [h0] at hx
      obtain rfl : s = x := by simpa using hx
      obtain rfl : i = n := by omega
      exact hs
section
variable {H : Type} {enc : TypeId × Value → H} {W : World}

theorem weightsAll_mem {e : TypeId} : ∀ (l : List (DataW H)) (d : DataW H), d ∈ l → (DataW.weightsAll Tryd.prog e l).all (· ≤ reachBytes) = true → (d.weights Tryd.prog e).all (· ≤ reachBytes) = true
  | x :: r, d, hd, h => by
    simp only [DataW.weightsAll, List.all_append, Bool.and_eq_true] at h
    rcases List.mem_cons.1 hd with rfl | hd
    · exact h.1
    · exact weightsAll_mem r d hd h.2

set_option maxRecDepth 100000 in
/-- A slice of records, each of which can be read. -/
theorem recs_of_trod {α : Type} {k bytes : Nat} {code : α → List Value} {Good Size : α → Prop} {t e : TypeId} (ht : Tryd.prog.underlying t = some (.slice e)) (hk : Tryd.prog.cellsOf e = k) (hb : Tryd.prog.bytesOf e = bytes) (hk0 : 0 < k) (hlen : ∀ s, (code s).length = k)
    (hdec : ∀ n cs y, DataW.trod enc Tryd.prog W 0 (fun _ => true) true n e cs = some y → ∃ s, cs = code s ∧ Good s ∧ ((y.1.weights Tryd.prog e).all (· ≤ reachBytes) = true → Size s))
    {fuel : Nat} {cs : List Value} {x : DataW H × List MemPlace} (h : DataW.trod enc Tryd.prog W 0 (fun _ => true) true fuel t cs = some x) :
    ∃ (a : Option Addr) (c : Nat) (l : List α), cs = [.slice a l.length c] ∧ RecsIn Any k code W a l ∧ (a = none → c = 0) ∧ l.length ≤ c ∧ c ≤ maxLen ∧ (∀ s ∈ l, Good s) ∧ ((x.1.weights Tryd.prog t).all (· ≤ reachBytes) = true → l.length * bytes ≤ reachBytes ∧ ∀ s ∈ l, Size s) := by
  rcases open_slice ht h with ⟨rfl, _⟩ | ⟨a, len, cap, m, n, D, Pl, rfl, _, hl, hm, hmm, hx, hi⟩
  · exact ⟨none, 0, [], rfl, RecsIn.nil _ _ _ _ _, (fun _ => rfl), Nat.le_refl _, Nat.zero_le _, (fun _ h => by cases h), fun _ => ⟨by simp, fun _ h => by cases h⟩⟩
  · simp only [if_true] at hmm
    subst hmm
    rw [hk] at hi
    have each : ∀ i, i < len → ∃ s : α, (∀ j u, (code s)[j]? = some u → W.cell? (a.add (i * k + j)) = some u) ∧ Good s ∧ (((D i).weights Tryd.prog e).all (· ≤ reachBytes) = true → Size s) := fun i h => by
      obtain ⟨cs', hc, htr⟩ := hi i (by omega)
      obtain ⟨s, rfl, hg, hz⟩ := hdec _ _ _ htr
      obtain ⟨_, _, hat⟩ := World.cells?_some hc
      refine ⟨s, fun j u hu => ?_, hg, hz⟩
      have hj : j < k := by rw [← hlen s]; exact (List.getElem?_eq_some_iff.1 hu).1
      rw [← hu, ← hat j hj]
      congr 1
      unfold Addr.add
      by_cases h1 : i * k = 0
      · by_cases h2 : j = 0 <;> simp [h1, h2]
      · by_cases h2 : j = 0
        · simp [h1, h2]
        · have h3 : ¬ (i * k + j = 0) := by omega
          simp [h1, h2, Nat.add_assoc]
    obtain ⟨l, hll, hp⟩ := chosen each
    refine ⟨some a, _, l, by rw [hll], ⟨fun i s hs => ?_, fun _ _ _ => trivial⟩, (fun h => by cases h), by omega, hm, fun s hs => ?_, fun hw => ?_⟩
    · have hi0 : i < len := by have := get_lt hs; omega
      obtain ⟨hc, _⟩ := hp i s hs
      have hne : code s ≠ [] := fun e => by have := hlen s; rw [e] at this; simp at this; omega
      -- the place is plain
      obtain ⟨s0, hs0⟩ := get_some l 0 (by omega)
      obtain ⟨hc0, _⟩ := hp 0 s0 hs0
      have hlen0 := hlen s0
      obtain ⟨u0, hu0⟩ : ∃ u, (code s0)[0]? = some u := ⟨(code s0)[0]'(by omega), List.getElem?_eq_getElem _⟩
      obtain ⟨b, o, rfl⟩ := add_plain (n := 0) (by simpa using hc0 0 u0 hu0)
      have hbl : b < W.heap.size := by have := (cell_lt (hc0 0 u0 hu0)).1; simpa [add_mk] using this
      refine ⟨b, o, rfl, hbl, fun j u hu => ?_⟩
      have := hc j u hu
      rw [add_mk] at this
      rw [Nat.add_assoc]
      exact this
    · obtain ⟨i, hi'⟩ := List.mem_iff_getElem?.1 hs
      exact (hp i s hi').2.1
    · subst hx
      simp only [DataW.weights, ht, List.all_cons, List.all_append, Bool.and_eq_true, List.length_map, List.length_range, hb] at hw
      refine ⟨Nat.le_trans (Nat.mul_le_mul_right _ (by omega)) (of_decide_eq_true hw.1), fun s hs => ?_⟩
      obtain ⟨i, hi'⟩ := List.mem_iff_getElem?.1 hs
      have hi0 : i < len := by have := get_lt hi'; omega
      refine (hp i s hi').2.2 (weightsAll_mem _ _ ?_ hw.2.1)
      exact List.mem_map.2 ⟨i, List.mem_range.2 hi0, rfl⟩

def TskI (s : Tsk) : Prop := I64 s.c ∧ I64 s.p ∧ I64 s.d ∧ I64 s.s
set_option maxRecDepth 100000 in
theorem tsk_of_trod (n : Nat) (cs : List Value) (y : DataW H × List MemPlace) (h : DataW.trod enc Tryd.prog W 0 (fun _ => true) true n 65 cs = some y) : ∃ s : Tsk, cs = s.cells ∧ TskI s ∧ ((y.1.weights Tryd.prog 65).all (· ≤ reachBytes) = true → True) := by
  obtain ⟨y0, y1, y2, y3, m, _, hlen, t0, t1, t2, t3⟩ := trod_struct4 Tryd.underlying65 h
  have hc : Tryd.prog.cellsOf 65 = 4 := by kernel_rfl
  have hci : Tryd.prog.cellsOf 3 = 1 := by kernel_rfl
  rw [hc] at hlen
  match cs, hlen with
  | [c0, c1, c2, c3], _ =>
    simp only [hci] at t0 t1 t2 t3
    obtain ⟨k, e0, _, w0⟩ := DataW.trod_int Tryd.underlying3 t0
    obtain ⟨q, e1, _, w1⟩ := DataW.trod_int Tryd.underlying3 t1
    obtain ⟨t, e2, _, w2⟩ := DataW.trod_int Tryd.underlying3 t2
    obtain ⟨u, e3, _, w3⟩ := DataW.trod_int Tryd.underlying3 t3
    simp at e0 e1 e2 e3
    subst e0 e1 e2 e3
    exact ⟨⟨k, q, t, u⟩, rfl, ⟨i64_of_wf w0, i64_of_wf w1, i64_of_wf w2, i64_of_wf w3⟩, fun _ => trivial⟩

/-- A ballot's, an entry's numbers are i64's. -/
def BalI (b : Bal) : Prop := I64 b.r ∧ I64 b.n
abbrev Bal.cells (b : Bal) : List Value := [.int .i64 b.r, .int .i64 b.n]
set_option maxRecDepth 100000 in
theorem bal_of_trod (n : Nat) (cs : List Value) (y : DataW H × List MemPlace) (h : DataW.trod enc Tryd.prog W 0 (fun _ => true) true n 39 cs = some y) : ∃ s : Bal, cs = s.cells ∧ BalI s ∧ ((y.1.weights Tryd.prog 39).all (· ≤ reachBytes) = true → True) := by
  obtain ⟨y0, y1, m, _, hlen, t0, t1⟩ := trod_struct2 Tryd.underlying39 h
  have hc : Tryd.prog.cellsOf 39 = 2 := by kernel_rfl
  have hci : Tryd.prog.cellsOf 3 = 1 := by kernel_rfl
  rw [hc] at hlen
  match cs, hlen with
  | [c0, c1], _ =>
    simp only [hci] at t0 t1
    obtain ⟨k, e0, _, w0⟩ := DataW.trod_int Tryd.underlying3 t0
    obtain ⟨q, e1, _, w1⟩ := DataW.trod_int Tryd.underlying3 t1
    simp at e0 e1
    subst e0 e1
    exact ⟨⟨k, q⟩, rfl, ⟨i64_of_wf w0, i64_of_wf w1⟩, fun _ => trivial⟩
theorem int_of_trod (n : Nat) (cs : List Value) (y : DataW H × List MemPlace) (h : DataW.trod enc Tryd.prog W 0 (fun _ => true) true n 3 cs = some y) : ∃ d : Int, cs = [.int .i64 d] ∧ I64 d ∧ ((y.1.weights Tryd.prog 3).all (· ≤ reachBytes) = true → True) := by
  obtain ⟨k, e0, _, w0⟩ := DataW.trod_int Tryd.underlying3 h
  exact ⟨k, e0, i64_of_wf w0, fun _ => trivial⟩

def EntI (e : Ent) : Prop := I64 e.cl ∧ I64 e.nu ∧ I64 e.kd ∧ I64 e.id ∧ I64 e.srv.k ∧ I64 e.srv.q ∧ I64 e.srv.t ∧ I64 e.po ∧ I64 e.at_ ∧ ∀ s ∈ e.tasks, TskI s
/-- An entry as it came in: its tasks' size apart. -/
def EntG (W : World) (x : EntM) : Prop := EntI x.e ∧ RecsIn Any 4 Tsk.cells W x.a x.e.tasks ∧ (x.a = none → x.c = 0) ∧ x.e.tasks.length ≤ x.c ∧ x.c ≤ maxLen
theorem EntG.ok {W : World} {x : EntM} (h : EntG W x) (hs : x.e.tasks.length * 32 ≤ reachBytes) : x.ok Any W := ⟨h.2.1, h.2.2.1, h.2.2.2.1, h.2.2.2.2, by unfold reachBytes at hs; omega⟩
set_option maxRecDepth 100000 in
theorem ent_of_trod (n : Nat) (cs : List Value) (y : DataW H × List MemPlace) (h : DataW.trod enc Tryd.prog W 0 (fun _ => true) true n 36 cs = some y) : ∃ s : EntM, cs = s.cells ∧ EntG W s ∧ ((y.1.weights Tryd.prog 36).all (· ≤ reachBytes) = true → s.e.tasks.length * 32 ≤ reachBytes) := by
  obtain ⟨y0, y1, y2, m, hy, hlen, t0, t1, t2⟩ := trod_struct3 Tryd.underlying36 h
  have hc : Tryd.prog.cellsOf 36 = 10 := by kernel_rfl
  have hci : Tryd.prog.cellsOf 3 = 1 := by kernel_rfl
  have hcs : Tryd.prog.cellsOf 31 = 3 := by kernel_rfl
  have hct : Tryd.prog.cellsOf 32 = 1 := by kernel_rfl
  have hco : Tryd.prog.cellsOf 34 = 8 := by kernel_rfl
  rw [hc] at hlen
  match cs, hlen with
  | [c0, c1, c2, c3, c4, c5, c6, c7, c8, c9], _ =>
    simp only [hci, hco] at t0 t1 t2
    obtain ⟨cl, e0, _, w0⟩ := DataW.trod_int Tryd.underlying3 t0
    obtain ⟨nu, e1, _, w1⟩ := DataW.trod_int Tryd.underlying3 t1
    obtain ⟨xs, m2, _, hy2, _, hxl, hf⟩ := DataW.trod_struct Tryd.underlying34 t2
    match xs, hxl with
    | [z0, z1, z2, z3, z4, z5], _ =>
      have u0 : DataW.trod enc Tryd.prog W 0 (fun _ => true) true m2 3 (List.take (Tryd.prog.cellsOf 3) (List.drop 0 [c2, c3, c4, c5, c6, c7, c8, c9])) = some z0 := hf 0 _ rfl
      rw [hci] at u0
      have u1 : DataW.trod enc Tryd.prog W 0 (fun _ => true) true m2 3 (List.take (Tryd.prog.cellsOf 3) (List.drop 1 [c2, c3, c4, c5, c6, c7, c8, c9])) = some z1 := hf 1 _ rfl
      rw [hci] at u1
      have u2 : DataW.trod enc Tryd.prog W 0 (fun _ => true) true m2 31 (List.take (Tryd.prog.cellsOf 31) (List.drop 2 [c2, c3, c4, c5, c6, c7, c8, c9])) = some z2 := hf 2 _ rfl
      rw [hcs] at u2
      have u3 : DataW.trod enc Tryd.prog W 0 (fun _ => true) true m2 3 (List.take (Tryd.prog.cellsOf 3) (List.drop 5 [c2, c3, c4, c5, c6, c7, c8, c9])) = some z3 := hf 3 _ rfl
      rw [hci] at u3
      have u4 : DataW.trod enc Tryd.prog W 0 (fun _ => true) true m2 32 (List.take (Tryd.prog.cellsOf 32) (List.drop 6 [c2, c3, c4, c5, c6, c7, c8, c9])) = some z4 := hf 4 _ rfl
      rw [hct] at u4
      have u5 : DataW.trod enc Tryd.prog W 0 (fun _ => true) true m2 3 (List.take (Tryd.prog.cellsOf 3) (List.drop 7 [c2, c3, c4, c5, c6, c7, c8, c9])) = some z5 := hf 5 _ rfl
      rw [hci] at u5
      obtain ⟨kd, e2, _, w2⟩ := DataW.trod_int Tryd.underlying3 u0
      obtain ⟨id, e3, _, w3⟩ := DataW.trod_int Tryd.underlying3 u1
      obtain ⟨v0, v1, v2, m3, _, _, k0, k1, k2⟩ := trod_struct3 Tryd.underlying31 u2
      simp only [hci] at k0 k1 k2
      obtain ⟨s1, e4, _, w4⟩ := DataW.trod_int Tryd.underlying3 k0
      obtain ⟨s2, e5, _, w5⟩ := DataW.trod_int Tryd.underlying3 k1
      obtain ⟨s3, e6, _, w6⟩ := DataW.trod_int Tryd.underlying3 k2
      obtain ⟨po, e7, _, w7⟩ := DataW.trod_int Tryd.underlying3 u3
      obtain ⟨ta, tc, tl, e8, r1, r2, r3, r4, r5, r6⟩ := recs_of_trod (k := 4) (bytes := 32) (code := Tsk.cells) Tryd.underlying32 (by kernel_rfl) (by kernel_rfl) (by omega) Tsk.cells_len (tsk_of_trod (enc := enc) (W := W)) u4
      obtain ⟨at_, e9, _, w9⟩ := DataW.trod_int Tryd.underlying3 u5
      simp at e0 e1 e2 e3 e4 e5 e6 e7 e8 e9
      subst e0 e1 e2 e3 e4 e5 e6 e7 e8 e9
      refine ⟨⟨⟨cl, nu, kd, id, ⟨s1, s2, s3⟩, po, tl, at_⟩, ta, tc⟩, rfl, ⟨⟨i64_of_wf w0, i64_of_wf w1, i64_of_wf w2, i64_of_wf w3, i64_of_wf w4, i64_of_wf w5, i64_of_wf w6, i64_of_wf w7, i64_of_wf w9, r5⟩, r1, r2, r3, r4⟩, fun hw => ?_⟩
      rw [hy] at hw
      simp only [DataW.weights, Tryd.underlying36, List.map_cons, List.map_nil, DataW.weightsEach, List.all_append, Bool.and_eq_true] at hw
      have hw2 := hw.2.2.1
      rw [hy2] at hw2
      simp only [DataW.weights, Tryd.underlying34, List.map_cons, List.map_nil, DataW.weightsEach, List.all_append, Bool.and_eq_true] at hw2
      exact (r6 hw2.2.2.2.2.1).1

set_option maxRecDepth 100000 in
theorem open_ents {base : Nat} {v : Value} {d : DataW H} {p : List MemPlace} (hval : Value.okWide Tryd.prog W .any base 41 v) (h : DataW.Trod enc Tryd.prog W 0 (fun _ => true) true 41 v d p) :
    ∃ (a : Option Addr) (c : Nat) (L : List EntM), v = .slice a L.length c ∧ (a = none → c = 0) ∧ (∀ x ∈ L, EntI x.e) ∧ ((d.weights Tryd.prog 41).all (· ≤ reachBytes) = true → LedM Any W a L ∧ L.length * 96 ≤ reachBytes) := by
  obtain ⟨a0, len, cap, rfl⟩ := okWide_slice Tryd.underlying41 hval
  obtain ⟨fuel, hf⟩ := h
  obtain ⟨a, c, L, hcs, r1, r2, r3, r4, r5, r6⟩ := recs_of_trod (k := 10) (bytes := 96) (code := EntM.cells) Tryd.underlying41 (by kernel_rfl) (by kernel_rfl) (by omega) EntM.cells_len (ent_of_trod (enc := enc) (W := W)) hf
  simp [Value.cells] at hcs
  obtain ⟨rfl, rfl, rfl⟩ := hcs
  exact ⟨_, _, L, rfl, r2, fun x hx => (r5 x hx).1, fun hw => ⟨⟨r1, fun x hx => (r5 x hx).ok ((r6 hw).2 x hx)⟩, (r6 hw).1⟩⟩
set_option maxRecDepth 100000 in
theorem open_bals {base : Nat} {v : Value} {d : DataW H} {p : List MemPlace} (hval : Value.okWide Tryd.prog W .any base 22 v) (h : DataW.Trod enc Tryd.prog W 0 (fun _ => true) true 22 v d p) :
    ∃ (a : Option Addr) (c : Nat) (L : List Bal), v = .slice a L.length c ∧ RecsIn Any 2 Bal.cells W a L ∧ (a = none → c = 0) ∧ L.length ≤ maxLen ∧ (∀ x ∈ L, BalI x) := by
  obtain ⟨a0, len, cap, rfl⟩ := okWide_slice Tryd.underlying22 hval
  obtain ⟨fuel, hf⟩ := h
  obtain ⟨a, c, L, hcs, r1, r2, r3, r4, r5, r6⟩ := recs_of_trod (k := 2) (bytes := 16) (code := Bal.cells) Tryd.underlying22 (by kernel_rfl) (by kernel_rfl) (by omega) (fun _ => rfl) (bal_of_trod (enc := enc) (W := W)) hf
  simp [Value.cells] at hcs
  obtain ⟨rfl, rfl, rfl⟩ := hcs
  exact ⟨_, _, L, rfl, r1, r2, by omega, r5⟩
set_option maxRecDepth 100000 in
theorem open_ints {base : Nat} {v : Value} {d : DataW H} {p : List MemPlace} (hval : Value.okWide Tryd.prog W .any base 23 v) (h : DataW.Trod enc Tryd.prog W 0 (fun _ => true) true 23 v d p) :
    ∃ (a : Option Addr) (c : Nat) (L : List Int), v = .slice a L.length c ∧ RecsIn Any 1 (fun d => [Value.int .i64 d]) W a L ∧ (a = none → c = 0) ∧ L.length ≤ maxLen ∧ (∀ x ∈ L, I64 x) := by
  obtain ⟨a0, len, cap, rfl⟩ := okWide_slice Tryd.underlying23 hval
  obtain ⟨fuel, hf⟩ := h
  obtain ⟨a, c, L, hcs, r1, r2, r3, r4, r5, r6⟩ := recs_of_trod (k := 1) (bytes := 8) (code := fun d => [Value.int .i64 d]) Tryd.underlying23 (by kernel_rfl) (by kernel_rfl) (by omega) (fun _ => rfl) (int_of_trod (enc := enc) (W := W)) hf
  simp [Value.cells] at hcs
  obtain ⟨rfl, rfl, rfl⟩ := hcs
  exact ⟨_, _, L, rfl, r1, r2, by omega, r5⟩
set_option maxRecDepth 100000 in
theorem open_bal {base : Nat} {v : Value} {d : DataW H} {p : List MemPlace} (hval : Value.okWide Tryd.prog W .any base 39 v) (h : DataW.Trod enc Tryd.prog W 0 (fun _ => true) true 39 v d p) :
    ∃ s : Bal, v = .agg #[.int .i64 s.r, .int .i64 s.n] ∧ BalI s := by
  obtain ⟨cs, rfl, hsz⟩ := okWide_struct Tryd.underlying39 hval
  obtain ⟨fuel, hf⟩ := h
  obtain ⟨s, hcs, hs, _⟩ := bal_of_trod _ _ _ hf
  simp [Value.cells] at hcs
  exact ⟨s, congrArg Value.agg (Array.ext' hcs), hs⟩
set_option maxRecDepth 100000 in
theorem open_ent {base : Nat} {v : Value} {d : DataW H} {p : List MemPlace} (hval : Value.okWide Tryd.prog W .any base 36 v) (h : DataW.Trod enc Tryd.prog W 0 (fun _ => true) true 36 v d p) :
    ∃ x : EntM, v = .agg #[.int .i64 x.e.cl, .int .i64 x.e.nu, .int .i64 x.e.kd, .int .i64 x.e.id, .int .i64 x.e.srv.k, .int .i64 x.e.srv.q, .int .i64 x.e.srv.t, .int .i64 x.e.po, .slice x.a x.e.tasks.length x.c, .int .i64 x.e.at_] ∧ EntI x.e ∧ ((d.weights Tryd.prog 36).all (· ≤ reachBytes) = true → x.ok Any W) := by
  obtain ⟨cs, rfl, hsz⟩ := okWide_struct Tryd.underlying36 hval
  obtain ⟨fuel, hf⟩ := h
  obtain ⟨s, hcs, hs, hz⟩ := ent_of_trod _ _ _ hf
  simp [Value.cells] at hcs
  exact ⟨s, congrArg Value.agg (Array.ext' hcs), hs.1, fun hw => hs.ok (hz hw)⟩
set_option maxRecDepth 100000 in
theorem open_i64 {base : Nat} {v : Value} {d : DataW H} {p : List MemPlace} (hval : Value.okWide Tryd.prog W .any base 3 v) (h : DataW.Trod enc Tryd.prog W 0 (fun _ => true) true 3 v d p) : ∃ n, v = .int .i64 n ∧ I64 n := by
  obtain ⟨n, rfl, _, _, hw⟩ := open_int Tryd.underlying3 hval h
  exact ⟨n, rfl, i64_of_wf hw⟩

/-- The arguments read again. -/
theorem all_again {W' : World} (hb : Gr W W') : ∀ (ts : List TypeId) (vs : List Value) (ds : List (DataW H)) (p : List MemPlace),
    (ts.all fun t => Tryd.prog.readableRec t && decide (t < Tryd.prog.types.size)) = true → (∀ x ∈ p, x.block < W.heap.size) →
    DataW.TrodAll enc Tryd.prog W 0 (fun _ => true) true ts vs ds p → DataW.TrodAll enc Tryd.prog W' 0 (fun b => decide (b < W.heap.size)) true ts vs ds p := by
  intro ts
  induction ts with
  | nil =>
    intro vs ds p _ _ h
    obtain ⟨rfl, rfl, rfl⟩ := trodAll_nil h
    exact rfl
  | cons t ts ih =>
    intro vs ds p hts hp h
    simp only [List.all_cons, Bool.and_eq_true, decide_eq_true_eq] at hts
    obtain ⟨v, vs', d, ds', p1, q, rfl, rfl, rfl, h1, h2⟩ := trodAll_cons h
    exact trodAll_cons_mk (Below.trod laidOut hts.1.1 hts.1.2 h1 hb (fun x hx => hp x (List.mem_append_left _ hx))) (ih vs' ds' q (by simpa using hts.2) (fun x hx => hp x (List.mem_append_right _ hx)) h2)

/-- A LAW's POST: it returned true, and what was there is there as it was. -/
theorem post_law {f : Func} {s : ChangeSpec} {W' : World} {args : Array Value} {ds gs : List (DataW H)} {before : List MemPlace}
    (hps : (f.params.toList.all fun t => Tryd.prog.readableRec t && decide (t < Tryd.prog.types.size)) = true) (hrt : f.resultTypes = #[4]) (hvs : s.vars = [])
    (hfn : (s.fn H ds).results = [.lit (.bool true)] ∧ (s.fn H ds).args = ds ∧ (s.fn H ds).vars = [])
    (hW : DataW.Whole enc Tryd.prog f.params.toList s.vars false W args.toList ds gs before) (hb : Gr W W') :
    s.post enc Tryd.prog f false true false false W args (.bool true) W' := by
  have hlt := hW.lt
  have hW' := hW
  obtain ⟨p, q, hA, hV, rfl, hfz, hnd⟩ := hW
  rw [hvs] at hV
  obtain ⟨rfl, rfl⟩ := trodVars_none hV
  refine ⟨ds, [], p ++ [], [], p, [], hW', ?_, ?_, ?_, hb.frame _, fun h => by cases h⟩
  · rw [List.append_nil, hfn.1, hrt]
    exact trodAll_mk1 (shut_bool Tryd.underlying4 _)
  · rw [List.append_nil, hfn.2.1]
    exact all_again hb _ _ _ _ hps (fun x hx => hlt x (by simpa using hx)) hA
  · rw [List.append_nil, hfn.2.2, hvs]
    rfl
end
end Go.Proofs.YtblfljpmkgmjaaaDoor
