/- What an order makes of a tree: in plain words. -/
import Derived.Test.YtglfdnfojpdkjaaGreatDoorJ2
import Derived.Test.YtglfdnfojpdkjaaGreatDoorJ13
import Derived.Test.YtglfdnfojpdkjaaGreatDoorJ21
import Derived.Test.YtglfdnfojpdkjaaGreatDoorJ22
namespace Go.Proofs.YtglfdnfojpdkjaaGreatDoor
open Go.RowKit

/-- The first length at which what is asked is at most what is given. -/
def drainI (s : Srv) (l : List Srv) : Nat := (((List.range 4096).find? fun (k : Nat) => decide (reqsI l ((k : Int) + 1) ≤ givI (rowI s) ((k : Int) + 1))).map (· + 1)).getD 4096
theorem drainI_of {s : Srv} {l : List Srv} {d : Nat} (h1 : 1 ≤ d) (h2 : d ≤ 4096) (h3 : reqsI l d ≤ givI (rowI s) d) (h4 : ∀ k : Nat, 1 ≤ k → k < d → ¬ reqsI l k ≤ givI (rowI s) k) : drainI s l = d := by
  obtain ⟨n, rfl⟩ : ∃ n, d = n + 1 := ⟨d - 1, by omega⟩
  have h5 : (List.range 4096).find? (fun (k : Nat) => decide (reqsI l ((k : Int) + 1) ≤ givI (rowI s) ((k : Int) + 1))) = some n := by
    rw [List.find?_range_eq_some]
    refine ⟨by simpa using h3, by simp; omega, fun j hj => ?_⟩
    have := h4 (j + 1) (by omega) (by omega)
    simpa using this
  unfold drainI
  rw [h5]
  rfl
/-- Whether a guest fits into a server: the error. -/
def guestErr (s : Srv) (p : Int) (l : List Tsk) : Option Nat := if parOk s = false then some 4 else if guestOk p l = false then some 6 else if p = 2 then (if fitsO s l = false then some 5 else none) else if lineB s (shareT l) (sumC l + maxS l) = false then some 5 else if fitsD s l = false then some 5 else none
abbrev rootS : Srv := ⟨0, 0, 0⟩
def TreeV.find (t : TreeV) (id : Int) : Option Nd := t.nodes.find? fun n => decide (n.id = id)
def TreeV.counted (t : TreeV) (id : Int) : List Srv := (t.nodes.filter fun n => decide (n.par = id)).map (·.srv) ++ (t.ghosts.filter fun g => decide (g.par = id)).map (·.srv)
def TreeV.server (t : TreeV) (id : Int) : Option Srv := if id = 0 then some rootS else (t.find id).map (·.srv)
def TreeV.depthF (t : TreeV) : Nat → Int → Int → Int
  | 0, _, _ => -1
  | n + 1, id, d => if id = 0 then d else match t.find id with
    | none => -1
    | some x => t.depthF n x.par (d + 1)
def TreeV.depth (t : TreeV) (id : Int) : Int := t.depthF (id.toNat + 1) id 0
/-- The ghosts below a parent stay as long as they must. -/
def TreeV.drained (t : TreeV) (p : Int) : TreeV :=
  let s := (t.server p).getD rootS
  if kidsErr s (t.counted p) = none then {t with ghosts := t.ghosts.map fun g => if g.par = p then {g with till := max g.till (t.now + drainI s (t.counted p))} else g} else t
/-- An order. -/
structure OrdV where
  kd : Int
  id : Int
  srv : Srv
  pol : Int
  tasks : List Tsk
  at_ : Int
/-- What is refused at a node below which something is counted, or that is not there. -/
def TreeV.loose (t : TreeV) (id : Int) : Int := match t.find id with
  | none => 1
  | some _ => if t.counted id ≠ [] then 2 else 0
def TreeV.create (t : TreeV) (o : OrdV) : TreeV × Int × Int :=
  if o.srv.leg = false then (t, 7, 0) else match t.server o.id with
  | none => (t, 1, 0)
  | some s => if ((t.find o.id).map (·.pol)).getD 0 ≠ 0 then (t, 3, 0) else if 4 ≤ t.depth o.id then (t, 6, 0) else
    if 64 ≤ t.nodes.length ∨ 8 ≤ (t.counted o.id).length then (t, 5, 0) else
    if kidsErr s (t.counted o.id ++ [o.srv]) ≠ none then (t, 4, 0) else
    (({t with last := t.last + 1, nodes := t.nodes ++ [(⟨t.last + 1, o.id, o.srv, 0, []⟩ : Nd)]}).drained o.id, 0, t.last + 1)
/-- The node of that id, turned. -/
def setNd (l : List Nd) (id : Int) (f : Nd → Nd) : List Nd := l.map fun n => if n.id = id then f n else n
def TreeV.resize (t : TreeV) (o : OrdV) : TreeV × Int × Int :=
  if o.srv.leg = false then (t, 7, 0) else if t.loose o.id ≠ 0 then (t, t.loose o.id, 0) else match t.find o.id with
  | none => (t, 1, 0)
  | some n => if n.pol ≠ 0 then (t, 3, 0) else
    let s := (t.server n.par).getD rootS
    if 8 ≤ (t.counted n.par).length then (t, 5, 0) else
    if kidsErr s (t.counted n.par ++ [o.srv]) ≠ none then (t, 4, 0) else
    (({t with nodes := setNd t.nodes o.id fun n => {n with srv := o.srv}, ghosts := t.ghosts ++ [(⟨n.par, n.srv, 0⟩ : Gh)]}).drained n.par, 0, o.id)
def TreeV.remove (t : TreeV) (o : OrdV) : TreeV × Int × Int :=
  if t.loose o.id ≠ 0 then (t, t.loose o.id, 0) else match t.find o.id with
  | none => (t, 1, 0)
  | some n =>
    let t1 : TreeV := {t with nodes := t.nodes.filter fun x => decide (x.id ≠ o.id), ghosts := t.ghosts ++ [(⟨n.par, n.srv, 0⟩ : Gh)]}
    let s := (t1.server n.par).getD rootS
    let till := if kidsErr s (t1.counted n.par) = none then t.now + drainI s (t1.counted n.par) else 0
    ({t1 with ghosts := t.ghosts ++ [(⟨n.par, n.srv, till⟩ : Gh)]}, 0, o.id)
def TreeV.bind (t : TreeV) (o : OrdV) : TreeV × Int × Int :=
  if guestOk o.pol o.tasks = false then (t, 8, 0) else if t.loose o.id ≠ 0 then (t, t.loose o.id, 0) else match t.find o.id with
  | none => (t, 1, 0)
  | some n => if n.pol ≠ 0 then (t, 3, 0) else if guestErr n.srv o.pol o.tasks ≠ none then (t, 4, 0) else
    ({t with nodes := setNd t.nodes o.id fun n => {n with pol := o.pol, tasks := o.tasks}}, 0, o.id)
/-- An order's time comes: what is over goes. -/
def TreeV.tick (t : TreeV) (n : Int) : TreeV := {t with now := max t.now n, ghosts := t.ghosts.filter fun g => decide (max t.now n < g.till)}
def TreeV.apply (t : TreeV) (o : OrdV) : TreeV × Int × Int :=
  if o.kd < 1 ∨ 4 < o.kd ∨ o.at_ < 0 ∨ 1099511627776 < o.at_ then (t, 7, 0) else
  let u := t.tick o.at_
  if o.kd = 1 then u.create o else if o.kd = 2 then u.resize o else if o.kd = 3 then u.remove o else u.bind o
end Go.Proofs.YtglfdnfojpdkjaaGreatDoor
/- admit.Guest under every policy. -/
namespace Go.Proofs.YtglfdnfojpdkjaaGreatDoor
open Go.RowKit

theorem guest_all {G : List Nat} {E : Nat → Addr} (s : Srv) (p : Int) (a : Option Addr) (l : List Tsk) (c : Nat) (w : World) (hE : EAt G E w) (i0 : 4 ∈ G) (i1 : 5 ∈ G) (i4 : 6 ∈ G) (hl : TsksAt w a l) (hm : l.length ≤ maxLen) :
    Calls Tryz.prog 123 #[.agg #[.int .i64 s.k, .int .i64 s.q, .int .i64 s.t], .int .i64 p, .slice a l.length c] w fun e w' => e = .returned (errV E (guestErr s p l)) ∧ Gr w w' := by
  unfold guestErr
  cases hp : parOk s with
  | false => rw [if_pos rfl]; exact guest_par s p a l c w hE i0 hp
  | true =>
    rw [if_neg (by decide)]
    cases hg : guestOk p l with
    | false => rw [if_pos rfl]; exact guest_bad s p a l c w hE i4 hp hl hm hg
    | true =>
      rw [if_neg (by decide)]
      by_cases h2 : p = 2
      · subst h2
        rw [if_pos rfl]
        have h1 := guestO_any s a l c w hE i1 hp hl hg
        cases hf : fitsO s l with
        | false => rw [hf] at h1; rw [if_pos rfl]; exact h1
        | true => rw [hf] at h1; rw [if_neg (by decide)]; exact h1
      · rw [if_neg h2]
        obtain rfl : p = 1 := by
          obtain ⟨h3, h4, _⟩ := (guestOk_iff p l).1 hg
          omega
        cases hb1 : lineB s (shareT l) (sumC l + maxS l) with
        | false => rw [if_pos rfl]; exact guestD_line s a l c w hE i0 i1 hp hl hg hb1
        | true =>
          rw [if_neg (by decide)]
          cases hb2 : fitsD s l with
          | false => rw [if_pos rfl]; exact guestD_over s a l c w hE i0 i1 hp hl hg hb1 hb2
          | true => rw [if_neg (by decide)]; exact guestD_yes s a l c w hE i0 hp hl hg hb1 hb2
end Go.Proofs.YtglfdnfojpdkjaaGreatDoor
