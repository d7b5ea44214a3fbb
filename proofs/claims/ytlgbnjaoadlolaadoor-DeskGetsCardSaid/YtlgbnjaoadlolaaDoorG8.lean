/- A round's values; told, Stage, most, tell. -/
import Derived.Test.YtlgbnjaoadlolaaDoorG7
namespace Go.Proofs.YtlgbnjaoadlolaaDoor
open Go.RowKit
variable {K0 : Nat → Prop}

/-- What a round knows, wherever it lies. -/
structure RndV where
  an : List Bool
  x : Ent
  reads : Bool
  bal : Bal
  st : Int
  nw : Bal
  led : List Ent
  begun : Int
abbrev Rnd.v (R : Rnd) : RndV := ⟨R.an, R.x.e, R.reads, R.bal, R.st, R.nw, R.led.map (·.e), R.begun⟩
def RndV.told (r : RndV) : Bool := decide (r.st = 2 ∨ r.st = 3)
def RndV.most (r : RndV) : Bool := decide (r.an.length / 2 + 1 ≤ r.an.count true)
def RndV.clr (r : RndV) : RndV := {r with an := List.replicate r.an.length false}
def RndV.tell (r : RndV) : RndV :=
  if r.reads then {r.clr with st := 2}
  else if plE r.led r.x.cl r.x.nu = -1 then (if r.led.length < 64 then {r.clr with st := 2, led := r.led ++ [r.x]} else {r.clr with st := 4})
  else {r.clr with st := 2}

theorem setCells_blk {b : Nat} {t : TypeId} : ∀ (vs : List Value) (o : Nat) (w : World) (cs : Array Value), Blk w b cs t → ∃ cs', Blk (w.setCells b o vs) b cs' t ∧ cs'.size = cs.size ∧ (∀ j, j < o → cs'[j]? = cs[j]?) ∧ ∀ j, o + j < cs.size → j < vs.length → cs'[o + j]? = vs[j]?
  | [], o, w, cs, h => ⟨cs, h, rfl, fun _ _ => rfl, fun j _ hj => by simp at hj⟩
  | v :: r, o, w, cs, h => by
    obtain ⟨cs', h1, h2, h3, h4⟩ := setCells_blk r (o + 1) _ _ (h.set o v)
    refine ⟨cs', h1, by simpa using h2, fun j hj => ?_, fun j hj hl => ?_⟩
    · rw [h3 j (by omega)]
      simp [show ¬ o = j by omega]
    · cases j with
      | zero => rw [h3 _ (by omega)]; simp at hj; simp [hj]
      | succ j =>
        have := h4 j (by simp; omega) (by simpa using hl)
        rw [show o + (j + 1) = o + 1 + j by omega, this]
        simp
theorem setCells_grx {S : List Nat} {b : Nat} : ∀ (vs : List Value) (o : Nat) (w w' : World), GrX S w w' → b ∈ S → GrX S w (w'.setCells b o vs)
  | [], _, _, _, g, _ => g
  | v :: r, o, w, _, g, hb => setCells_grx r (o + 1) w _ (g.set (.inl hb) v) hb
theorem setCells_out {b c : Nat} (hn : c ≠ b) : ∀ (vs : List Value) (o : Nat) (w : World) (cs : Array Value) (t : TypeId), Blk w c cs t → Blk (w.setCells b o vs) c cs t
  | [], _, _, _, _, h => h
  | v :: r, o, _, cs, t, h => setCells_out hn r (o + 1) _ cs t (h.other hn v)
theorem count_snoc {l : List Bool} {k : Nat} {v : Bool} (h : l[k]? = some v) : (l.take (k + 1)).count true = (l.take k).count true + (if v then 1 else 0) := by
  rw [take_snoc h, List.count_append]
  cases v <;> rfl

end Go.Proofs.YtlgbnjaoadlolaaDoor
