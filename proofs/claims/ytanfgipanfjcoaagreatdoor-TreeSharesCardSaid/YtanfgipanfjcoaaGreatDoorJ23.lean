/- What an order makes of a tree: in plain words. -/
import Derived.Test.YtanfgipanfjcoaaGreatDoorJ2
import Derived.Test.YtanfgipanfjcoaaGreatDoorJ13
import Derived.Test.YtanfgipanfjcoaaGreatDoorJ21
import Derived.Test.YtanfgipanfjcoaaGreatDoorJ22
import Derived.Test.YtanfgipanfjcoaaGreatDoorJ20
namespace Go.Proofs.YtanfgipanfjcoaaGreatDoor
open Go.RowKit

/-- The first length at which what is asked is at most what is given. -/
def drainI (s : Srv) (l : List Srv) : Nat := (((List.range 4096).find? fun (k : Nat) => decide (reqsI l ((k : Int) + 1) ≤ givI (rowI s) ((k : Int) + 1))).map (· + 1)).getD 4096
theorem drainI_of {s : Srv} {l : List Srv} {d : Nat} (h1 : 1 ≤ d) (h2 : d ≤ 4096) (h3 : reqsI l d ≤ givI (rowI s) d) (h4 : ∀ k : Nat, 1 ≤ k → k < d → ¬ reqsI l k ≤ givI (rowI s) k) : drainI s l = d := by
  obtain ⟨n, rfl⟩ : ∃ n, d = n + 1 := ⟨d - 1, by omega⟩
  have h5 : (List.range 4096).find? (fun (k : Nat) => decide (reqsI l ((k : Int) + 1) ≤ givI (rowI s) ((k : Int) + 1))) = some n := by
    rw [List.find?_range_eq_some]
    refine ⟨by simpa using h3, by simp; omega, fun j hj => ?_⟩
    have := h4 (j + 1) (by omega) (by omega)
    simpa using this
  unfold drainI
  rw [h5]
  rfl
/-- Whether a guest fits into a server: the error. -/
def guestErr (s : Srv) (p : Int) (l : List Tsk) : Option Nat := if parOk s = false then some 3 else if guestOk p l = false then some 2 else if p = 2 then (if fitsO s l = false then some 0 else none) else if lineB s (shareT l) (sumC l + maxS l) = false then some 0 else if fitsD s l = false then some 0 else none
abbrev rootS : Srv := ⟨0, 0, 0⟩
def TreeV.find (t : TreeV) (id : Int) : Option Nd := t.nodes.find? fun n => decide (n.id = id)
def TreeV.counted (t : TreeV) (id : Int) : List Srv := (t.nodes.filter fun n => decide (n.par = id)).map (·.srv) ++ (t.ghosts.filter fun g => decide (g.par = id)).map (·.srv)
def TreeV.server (t : TreeV) (id : Int) : Option Srv := if id = 0 then some rootS else (t.find id).map (·.srv)
def TreeV.depthF (t : TreeV) : Nat → Int → Int → Int
  | 0, _, _ => -1
  | n + 1, id, d => if id = 0 then d else match t.find id with
    | none => -1
    | some x => t.depthF n x.par (d + 1)
def TreeV.depth (t : TreeV) (id : Int) : Int := t.depthF (id.toNat + 1) id 0
/-- The ghosts below a parent stay as long as they must. -/
def TreeV.drained (t : TreeV) (p : Int) : TreeV :=
  let s := (t.server p).getD rootS
  if kidsErr s (t.counted p) = none then {t with ghosts := t.ghosts.map fun g => if g.par = p then {g with till := max g.till (t.now + drainI s (t.counted p))} else g} else t
/-- An order. -/
structure OrdV where
  kd : Int
  id : Int
  srv : Srv
  pol : Int
  tasks : List Tsk
  at_ : Int
/-- What is refused at a node below which something is counted, or that is not there. -/
def TreeV.loose (t : TreeV) (id : Int) : Int := match t.find id with
  | none => 1
  | some _ => if t.counted id ≠ [] then 2 else 0
def TreeV.create (t : TreeV) (o : OrdV) : TreeV × Int × Int :=
  if o.srv.leg = false then (t, 7, 0) else match t.server o.id with
  | none => (t, 1, 0)
  | some s => if ((t.find o.id).map (·.pol)).getD 0 ≠ 0 then (t, 3, 0) else if 4 ≤ t.depth o.id then (t, 6, 0) else
    if 64 ≤ t.nodes.length ∨ 8 ≤ (t.counted o.id).length then (t, 5, 0) else
    if kidsErr s (t.counted o.id ++ [o.srv]) ≠ none then (t, 4, 0) else
    (({t with last := t.last + 1, nodes := t.nodes ++ [(⟨t.last + 1, o.id, o.srv, 0, []⟩ : Nd)]}).drained o.id, 0, t.last + 1)
/-- The node of that id, turned. -/
def setNd (l : List Nd) (id : Int) (f : Nd → Nd) : List Nd := l.map fun n => if n.id = id then f n else n
def TreeV.resize (t : TreeV) (o : OrdV) : TreeV × Int × Int :=
  if o.srv.leg = false then (t, 7, 0) else if t.loose o.id ≠ 0 then (t, t.loose o.id, 0) else match t.find o.id with
  | none => (t, 1, 0)
  | some n => if n.pol ≠ 0 then (t, 3, 0) else
    let s := (t.server n.par).getD rootS
    if 8 ≤ (t.counted n.par).length then (t, 5, 0) else
    if kidsErr s (t.counted n.par ++ [o.srv]) ≠ none then (t, 4, 0) else
    (({t with nodes := setNd t.nodes o.id fun n => {n with srv := o.srv}, ghosts := t.ghosts ++ [(⟨n.par, n.srv, 0⟩ : Gh)]}).drained n.par, 0, o.id)
def TreeV.remove (t : TreeV) (o : OrdV) : TreeV × Int × Int :=
  if t.loose o.id ≠ 0 then (t, t.loose o.id, 0) else match t.find o.id with
  | none => (t, 1, 0)
  | some n =>
    let t1 : TreeV := {t with nodes := t.nodes.filter fun x => decide (x.id ≠ o.id), ghosts := t.ghosts ++ [(⟨n.par, n.srv, 0⟩ : Gh)]}
    let s := (t1.server n.par).getD rootS
    let till := if kidsErr s (t1.counted n.par) = none then t.now + drainI s (t1.counted n.par) else 0
    ({t1 with ghosts := t.ghosts ++ [(⟨n.par, n.srv, till⟩ : Gh)]}, 0, o.id)
def TreeV.bind (t : TreeV) (o : OrdV) : TreeV × Int × Int :=
  if guestOk o.pol o.tasks = false then (t, 8, 0) else if t.loose o.id ≠ 0 then (t, t.loose o.id, 0) else match t.find o.id with
  | none => (t, 1, 0)
  | some n => if n.pol ≠ 0 then (t, 3, 0) else if guestErr n.srv o.pol o.tasks ≠ none then (t, 4, 0) else
    ({t with nodes := setNd t.nodes o.id fun n => {n with pol := o.pol, tasks := o.tasks}}, 0, o.id)
/-- An order's time comes: what is over goes. -/
def TreeV.tick (t : TreeV) (n : Int) : TreeV := {t with now := max t.now n, ghosts := t.ghosts.filter fun g => decide (max t.now n < g.till)}
def TreeV.apply (t : TreeV) (o : OrdV) : TreeV × Int × Int :=
  if o.kd < 1 ∨ 4 < o.kd ∨ o.at_ < 0 ∨ 1099511627776 < o.at_ then (t, 7, 0) else
  let u := t.tick o.at_
  if o.kd = 1 then u.create o else if o.kd = 2 then u.resize o else if o.kd = 3 then u.remove o else u.bind o
end Go.Proofs.YtanfgipanfjcoaaGreatDoor
/- admit.Guest under every policy. -/
namespace Go.Proofs.YtanfgipanfjcoaaGreatDoor
open Go.RowKit

theorem guest_all {G : List Nat} {E : Nat → Addr} (s : Srv) (p : Int) (a : Option Addr) (l : List Tsk) (c : Nat) (w : World) (hE : EAt G E w) (i0 : 3 ∈ G) (i1 : 0 ∈ G) (i4 : 2 ∈ G) (hl : TsksAt w a l) (hm : l.length ≤ maxLen) :
    Calls Tryz.prog 13 #[.agg #[.int .i64 s.k, .int .i64 s.q, .int .i64 s.t], .int .i64 p, .slice a l.length c] w fun e w' => e = .returned (errV E (guestErr s p l)) ∧ Gr w w' := by
  unfold guestErr
  cases hp : parOk s with
  | false => rw [if_pos rfl]; exact guest_par s p a l c w hE i0 hp
  | true =>
    rw [if_neg (by decide)]
    cases hg : guestOk p l with
    | false => rw [if_pos rfl]; exact guest_bad s p a l c w hE i4 hp hl hm hg
    | true =>
      rw [if_neg (by decide)]
      by_cases h2 : p = 2
      · subst h2
        rw [if_pos rfl]
        have h1 := guestO_any s a l c w hE i1 hp hl hg
        cases hf : fitsO s l with
        | false => rw [hf] at h1; rw [if_pos rfl]; exact h1
        | true => rw [hf] at h1; rw [if_neg (by decide)]; exact h1
      · rw [if_neg h2]
        obtain rfl : p = 1 := by
          obtain ⟨h3, h4, _⟩ := (guestOk_iff p l).1 hg
          omega
        cases hb1 : lineB s (shareT l) (sumC l + maxS l) with
        | false => rw [if_pos rfl]; exact guestD_line s a l c w hE i0 i1 hp hl hg hb1
        | true =>
          rw [if_neg (by decide)]
          cases hb2 : fitsD s l with
          | false => rw [if_pos rfl]; exact guestD_over s a l c w hE i0 i1 hp hl hg hb1 hb2
          | true => rw [if_neg (by decide)]; exact guestD_yes s a l c w hE i0 hp hl hg hb1 hb2
end Go.Proofs.YtanfgipanfjcoaaGreatDoor
/- Openers of orders. -/
namespace Go.Proofs.YtanfgipanfjcoaaGreatDoor
open Go.ChangeShapes Go.WideShapes Go.ChangeAt Go.RowKit Go.Deep Go.Joins

/-- A task's numbers are i64's. -/
def TskI (s : Tsk) : Prop := I64 s.c ∧ I64 s.p ∧ I64 s.d ∧ I64 s.s
/-- An order as it lies: the order, its tasks' place. -/
structure OrM where
  e : OrdV
  a : Option Addr
  c : Nat
abbrev OrM.cells (x : OrM) : List Value := [.int .i64 x.e.kd, .int .i64 x.e.id, .int .i64 x.e.srv.k, .int .i64 x.e.srv.q, .int .i64 x.e.srv.t, .int .i64 x.e.pol, .slice x.a x.e.tasks.length x.c, .int .i64 x.e.at_]
theorem OrM.cells_len (x : OrM) : x.cells.length = 8 := rfl
/-- Its tasks lie where it says. -/
def OrM.ok (W : World) (x : OrM) : Prop := RecsIn Any 4 Tsk.cells W x.a x.e.tasks ∧ (x.a = none → x.c = 0) ∧ x.e.tasks.length ≤ x.c ∧ x.c ≤ maxLen ∧ x.e.tasks.length * 32 ≤ 140737488351232
/-- Its numbers are i64's. -/
def OrI (e : OrdV) : Prop := I64 e.kd ∧ I64 e.id ∧ I64 e.srv.k ∧ I64 e.srv.q ∧ I64 e.srv.t ∧ I64 e.pol ∧ I64 e.at_ ∧ ∀ s ∈ e.tasks, TskI s
section
variable {H : Type} {enc : TypeId × Value → H} {W : World}

set_option maxRecDepth 100000 in
theorem tsk_of_trod (n : Nat) (cs : List Value) (y : DataW H × List MemPlace) (h : DataW.trod enc Tryz.prog W 0 (fun _ => true) true n 41 cs = some y) : ∃ s : Tsk, cs = s.cells ∧ TskI s ∧ ((y.1.weights Tryz.prog 41).all (· ≤ reachBytes) = true → True) := by
  obtain ⟨y0, y1, y2, y3, m, _, hlen, t0, t1, t2, t3⟩ := trod_struct4 Tryz.underlying41 h
  have hc : Tryz.prog.cellsOf 41 = 4 := by kernel_rfl
  have hci : Tryz.prog.cellsOf 3 = 1 := by kernel_rfl
  rw [hc] at hlen
  match cs, hlen with
  | [c0, c1, c2, c3], _ =>
    simp only [hci] at t0 t1 t2 t3
    obtain ⟨k, e0, _, w0⟩ := DataW.trod_int Tryz.underlying3 t0
    obtain ⟨q, e1, _, w1⟩ := DataW.trod_int Tryz.underlying3 t1
    obtain ⟨t, e2, _, w2⟩ := DataW.trod_int Tryz.underlying3 t2
    obtain ⟨u, e3, _, w3⟩ := DataW.trod_int Tryz.underlying3 t3
    simp at e0 e1 e2 e3
    subst e0 e1 e2 e3
    exact ⟨⟨k, q, t, u⟩, rfl, ⟨i64_of_wf w0, i64_of_wf w1, i64_of_wf w2, i64_of_wf w3⟩, fun _ => trivial⟩

set_option maxRecDepth 100000 in
theorem ord_of_trod (n : Nat) (cs : List Value) (y : DataW H × List MemPlace) (h : DataW.trod enc Tryz.prog W 0 (fun _ => true) true n 32 cs = some y) : ∃ s : OrM, cs = s.cells ∧ OrI s.e ∧ ((y.1.weights Tryz.prog 32).all (· ≤ reachBytes) = true → s.ok W) := by
  have hc : Tryz.prog.cellsOf 32 = 8 := by kernel_rfl
  have hci : Tryz.prog.cellsOf 3 = 1 := by kernel_rfl
  have hcs : Tryz.prog.cellsOf 29 = 3 := by kernel_rfl
  have hct : Tryz.prog.cellsOf 30 = 1 := by kernel_rfl
  obtain ⟨xs, m2, _, hy2, hlen, hxl, hf⟩ := DataW.trod_struct Tryz.underlying32 h
  rw [hc] at hlen
  match cs, hlen with
  | [c2, c3, c4, c5, c6, c7, c8, c9], _ =>
    match xs, hxl with
    | [z0, z1, z2, z3, z4, z5], _ =>
      have u0 : DataW.trod enc Tryz.prog W 0 (fun _ => true) true m2 3 (List.take (Tryz.prog.cellsOf 3) (List.drop 0 [c2, c3, c4, c5, c6, c7, c8, c9])) = some z0 := hf 0 _ rfl
      rw [hci] at u0
      have u1 : DataW.trod enc Tryz.prog W 0 (fun _ => true) true m2 3 (List.take (Tryz.prog.cellsOf 3) (List.drop 1 [c2, c3, c4, c5, c6, c7, c8, c9])) = some z1 := hf 1 _ rfl
      rw [hci] at u1
      have u2 : DataW.trod enc Tryz.prog W 0 (fun _ => true) true m2 29 (List.take (Tryz.prog.cellsOf 29) (List.drop 2 [c2, c3, c4, c5, c6, c7, c8, c9])) = some z2 := hf 2 _ rfl
      rw [hcs] at u2
      have u3 : DataW.trod enc Tryz.prog W 0 (fun _ => true) true m2 3 (List.take (Tryz.prog.cellsOf 3) (List.drop 5 [c2, c3, c4, c5, c6, c7, c8, c9])) = some z3 := hf 3 _ rfl
      rw [hci] at u3
      have u4 : DataW.trod enc Tryz.prog W 0 (fun _ => true) true m2 30 (List.take (Tryz.prog.cellsOf 30) (List.drop 6 [c2, c3, c4, c5, c6, c7, c8, c9])) = some z4 := hf 4 _ rfl
      rw [hct] at u4
      have u5 : DataW.trod enc Tryz.prog W 0 (fun _ => true) true m2 3 (List.take (Tryz.prog.cellsOf 3) (List.drop 7 [c2, c3, c4, c5, c6, c7, c8, c9])) = some z5 := hf 5 _ rfl
      rw [hci] at u5
      obtain ⟨kd, e2, _, w2⟩ := DataW.trod_int Tryz.underlying3 u0
      obtain ⟨id, e3, _, w3⟩ := DataW.trod_int Tryz.underlying3 u1
      obtain ⟨v0, v1, v2, m3, _, _, k0, k1, k2⟩ := trod_struct3 Tryz.underlying29 u2
      simp only [hci] at k0 k1 k2
      obtain ⟨s1, e4, _, w4⟩ := DataW.trod_int Tryz.underlying3 k0
      obtain ⟨s2, e5, _, w5⟩ := DataW.trod_int Tryz.underlying3 k1
      obtain ⟨s3, e6, _, w6⟩ := DataW.trod_int Tryz.underlying3 k2
      obtain ⟨po, e7, _, w7⟩ := DataW.trod_int Tryz.underlying3 u3
      obtain ⟨ta, tc, tl, e8, r1, r2, r3, r4, r5, r6⟩ := recs_of_trod (k := 4) (bytes := 32) (code := Tsk.cells) Tryz.underlying30 (by kernel_rfl) (by kernel_rfl) (by omega) Tsk.cells_len (tsk_of_trod (enc := enc) (W := W)) u4
      obtain ⟨at_, e9, _, w9⟩ := DataW.trod_int Tryz.underlying3 u5
      simp at e2 e3 e4 e5 e6 e7 e8 e9
      subst e2 e3 e4 e5 e6 e7 e8 e9
      refine ⟨⟨⟨kd, id, ⟨s1, s2, s3⟩, po, tl, at_⟩, ta, tc⟩, rfl, ⟨i64_of_wf w2, i64_of_wf w3, i64_of_wf w4, i64_of_wf w5, i64_of_wf w6, i64_of_wf w7, i64_of_wf w9, r5⟩, fun hw => ?_⟩
      rw [hy2] at hw
      simp only [DataW.weights, Tryz.underlying32, List.map_cons, List.map_nil, DataW.weightsEach, List.all_append, Bool.and_eq_true] at hw
      have h6 := (r6 hw.2.2.2.2.1).1
      unfold reachBytes at h6
      exact ⟨⟨r1, fun _ _ _ => trivial⟩, r2, r3, r4, h6⟩
set_option maxRecDepth 100000 in
theorem open_ords {base : Nat} {v : Value} {d : DataW H} {p : List MemPlace} (hval : Value.okWide Tryz.prog W .any base 22 v) (h : DataW.Trod enc Tryz.prog W 0 (fun _ => true) true 22 v d p) :
    ∃ (a : Option Addr) (c : Nat) (L : List OrM), v = .slice a L.length c ∧ RecsIn Any 8 OrM.cells W a L ∧ (∀ x ∈ L, OrI x.e) ∧ L.length ≤ maxLen ∧ ((d.weights Tryz.prog 22).all (· ≤ reachBytes) = true → ∀ x ∈ L, x.ok W) := by
  obtain ⟨a0, len, cap, rfl⟩ := okWide_slice Tryz.underlying22 hval
  obtain ⟨fuel, hf⟩ := h
  obtain ⟨a, c, L, hcs, r1, r2, r3, r4, r5, r6⟩ := recs_of_trod (k := 8) (bytes := 80) (code := OrM.cells) Tryz.underlying22 (by kernel_rfl) (by kernel_rfl) (by omega) OrM.cells_len (ord_of_trod (enc := enc) (W := W)) hf
  simp [Value.cells] at hcs
  obtain ⟨rfl, rfl, rfl⟩ := hcs
  exact ⟨_, _, L, rfl, ⟨r1, fun _ _ _ => trivial⟩, r5, by omega, fun hw => (r6 hw).2⟩
set_option maxRecDepth 100000 in
theorem open_ord {base : Nat} {v : Value} {d : DataW H} {p : List MemPlace} (hval : Value.okWide Tryz.prog W .any base 32 v) (h : DataW.Trod enc Tryz.prog W 0 (fun _ => true) true 32 v d p) :
    ∃ x : OrM, v = .agg #[.int .i64 x.e.kd, .int .i64 x.e.id, .int .i64 x.e.srv.k, .int .i64 x.e.srv.q, .int .i64 x.e.srv.t, .int .i64 x.e.pol, .slice x.a x.e.tasks.length x.c, .int .i64 x.e.at_] ∧ OrI x.e ∧ ((d.weights Tryz.prog 32).all (· ≤ reachBytes) = true → x.ok W) := by
  obtain ⟨cs, rfl, hsz⟩ := okWide_struct Tryz.underlying32 hval
  obtain ⟨fuel, hf⟩ := h
  obtain ⟨s, hcs, hs, hz⟩ := ord_of_trod _ _ _ hf
  simp [Value.cells] at hcs
  exact ⟨s, congrArg Value.agg (Array.ext' hcs), hs, hz⟩
end
end Go.Proofs.YtanfgipanfjcoaaGreatDoor
