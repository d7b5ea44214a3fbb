/- play: every act. -/
import Derived.Test.YtblfljpmkgmjaaaDoorQ24
namespace Go.Proofs.YtblfljpmkgmjaaaDoor
open Go.RowKit
variable {K : Nat → Prop}

theorem play_any {G : List Nat} {E : Nat → Addr} (W0 : World) (hE : EAt G E W0) (hG : ∀ g ∈ sentG, g ∈ G) (R : Rnd) (M : RnM) (w : World) (rb ab mb : Nat) (h : Pair K w rb ab mb R M) (g0 : Gr W0 w) (hrb : W0.heap.size ≤ rb) (hab : W0.heap.size ≤ ab) (hK : ∀ b, w.heap.size ≤ b → K b) (hn0 : 0 ≤ R.begun) (hn1 : R.begun < 4611686018427387904) (kd wh fr : Int) (b acc : Bal) (a : Option Addr) (c : Nat) (L : List EntM) (hL : LedM (fun b => b ∉ pairT rb ab mb M) w a L) (hcap : L.length * 96 ≤ 140737488351232) :
    Calls Tryd.prog 29 #[.pointer (some ⟨rb, 0, none⟩), .pointer (some ⟨mb, 0, none⟩), .agg #[.int .i64 kd, .int .i64 wh, .int .i64 fr, .int .i64 b.r, .int .i64 b.n, .int .i64 acc.r, .int .i64 acc.n, .slice a L.length c]] w (PlayP K rb ab mb R M w) := by
  by_cases h1 : kd = 1
  · subst h1
    exact play_begin R M w rb ab mb h (hE.gr g0) hG hn0 hn1 wh fr b acc a L.length c
  · by_cases h2 : kd = 2
    · subst h2
      exact play_promise W0 hE (hG _ (by decide)) (hG _ (by decide)) R M w rb ab mb h g0 hrb hab hK wh fr b acc a c L hL hcap
    · by_cases h3 : kd = 3
      · subst h3
        exact play_acc R M w rb ab mb h wh fr b acc a L.length c
      · exact play_else R M w rb ab mb h kd wh fr b acc a L.length c ⟨h1, h2, h3⟩
end Go.Proofs.YtblfljpmkgmjaaaDoor
