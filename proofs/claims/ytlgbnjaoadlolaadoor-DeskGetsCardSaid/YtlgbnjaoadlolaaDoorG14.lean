/- almonerlaw19: make1, alive. -/
import Derived.Test.YtlgbnjaoadlolaaDoorG13
namespace Go.Proofs.YtlgbnjaoadlolaaDoor
open Go.RowKit
variable {K0 : Nat → Prop}

abbrev mk1 : EntM := ⟨⟨0, 1, 3, 0, ⟨0, 0, 0⟩, 0, [], 0⟩, none, 0⟩
theorem mk1_ok (K : Nat → Prop) (w : World) : mk1.ok K w := ⟨RecsIn.nil _ _ _ _ _, fun _ => rfl, Nat.le_refl _, Nat.zero_le _, by simp⟩
theorem check_mk1 (w : World) : Calls Tryd.prog 57 #[.agg #[.int .i64 0, .int .i64 1, .int .i64 3, .int .i64 0, .int .i64 0, .int .i64 0, .int .i64 0, .int .i64 0, .slice none 0 0, .int .i64 0]] w fun e w' => e = .returned .nilIface ∧ Gr w w' :=
  check_del mk1.e none 0 w ⟨rfl, rfl, rfl, rfl, by decide, by decide, by decide, by decide⟩ (by decide) (by decide) (by decide) (by decide)
section
variable {G : List Nat} {E : Nat → Addr} {W0 : World} {R : Rnd} {w : World} {rb ab : Nat}
end

def al0 : RndV := (RndV.new 3 mk1.e false).begin ⟨1, 0⟩
def al1 : RndV := (al0.promise 0 ⟨1, 0⟩ ⟨0, 0⟩ []).2
def al2 : RndV := (al1.promise 0 ⟨1, 0⟩ ⟨0, 0⟩ []).2
def al3 : RndV := (al2.promise 2 ⟨1, 0⟩ ⟨0, 0⟩ []).2
def al4 : RndV := (al3.accepted 1 ⟨1, 0⟩).2
def al5 : RndV := (al4.accepted 2 ⟨1, 0⟩).2
section
variable {G : List Nat} {E : Nat → Addr} {W0 : World} {R : Rnd} {w : World} {rb ab : Nat}
end

end Go.Proofs.YtlgbnjaoadlolaaDoor
