/- order.Place; almonerref09.Same, SameLedger where they are the same. -/
import Derived.Test.YtlgbnjaoadlolaaDoorG4
namespace Go.Proofs.YtlgbnjaoadlolaaDoor
open Go.RowKit

def isKey (cl nu : Int) (e : Ent) : Bool := e.cl == cl && e.nu == nu

set_option maxHeartbeats 800000 in
theorem keyOf_any (x : EntM) (w : World) :
    Calls Tryd.prog 68 #[.agg #[.int .i64 x.e.cl, .int .i64 x.e.nu, .int .i64 x.e.kd, .int .i64 x.e.id, .int .i64 x.e.srv.k, .int .i64 x.e.srv.q, .int .i64 x.e.srv.t, .int .i64 x.e.po, .slice x.a x.e.tasks.length x.c, .int .i64 x.e.at_]] w fun e w' => e = .returned (.agg #[.int .i64 x.e.cl, .int .i64 x.e.nu]) ∧ Gr w w' := by
  go_enter Tryd.func68, Tryd.ntmps68
  go_wp2
  refine bodyPost_ret (v := .agg #[.int .i64 x.e.cl, .int .i64 x.e.nu]) (by simp [results, Tryd.results68, go_sem]) rfl ⟨rfl, ?_⟩
  repeat (first | exact Gr.refl _ | apply Gr.alloc | apply Gr.drew | apply Gr.drewN | (refine Gr.setCell ?_ (by simp) _) | (refine Gr.trans ?_ (by assumption)))

/-- The place of the first entry with a key, or -1. -/
def plIx (L : List EntM) (cl nu : Int) : Int := match L.findIdx? (fun x => isKey cl nu x.e) with
  | some i => (i : Int)
  | none => -1
theorem plIx_at {L : List EntM} {cl nu : Int} {k : Nat} {x : EntM} (hb : ∀ y ∈ L.take k, isKey cl nu y.e = false) (hx : L[k]? = some x) (h : isKey cl nu x.e = true) : plIx L cl nu = k := by
  have : L.findIdx? (fun x => isKey cl nu x.e) = some k := by
    rw [List.findIdx?_eq_some_iff_getElem]
    have hk := get_lt hx
    refine ⟨hk, ?_, fun j hj => ?_⟩
    · rw [List.getElem?_eq_getElem hk] at hx; rw [Option.some.inj hx]; exact h
    · have hm : L[j] ∈ L.take k := List.mem_of_getElem? (i := j) (by rw [List.getElem?_take]; simp [hj])
      rw [hb _ hm]; decide
  unfold plIx
  rw [this]
theorem plIx_none {L : List EntM} {cl nu : Int} (hb : ∀ y ∈ L, isKey cl nu y.e = false) : plIx L cl nu = -1 := by
  have : L.findIdx? (fun x => isKey cl nu x.e) = none := by
    rw [List.findIdx?_eq_none_iff]; intro x hx; rw [hb x hx]
  unfold plIx
  rw [this]

end Go.Proofs.YtlgbnjaoadlolaaDoor
