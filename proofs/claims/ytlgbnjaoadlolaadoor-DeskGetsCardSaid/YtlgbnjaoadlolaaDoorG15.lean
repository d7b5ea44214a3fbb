/- almonerref09: SameOrder, Same, SameLedger where they are the same; a round that is done does not begin. -/
import Derived.Test.YtlgbnjaoadlolaaDoorG14
namespace Go.Proofs.YtlgbnjaoadlolaaDoor
open Go.RowKit
variable {K0 : Nat → Prop}

theorem tsk_cells {w : World} {a : Option Addr} {l : List Tsk} (h : RecsAt 4 Tsk.cells w a l) {i : Nat} {d : Tsk} (hd : l[i]? = some d) : ∃ b off, a = some ⟨b, off, none⟩ ∧ b < w.heap.size ∧ w.cell? ⟨b, off + i * 4, none⟩ = some (.int .i64 d.c) ∧ w.cell? ⟨b, off + i * 4 + 1, none⟩ = some (.int .i64 d.p) ∧ w.cell? ⟨b, off + i * 4 + 2, none⟩ = some (.int .i64 d.d) ∧ w.cell? ⟨b, off + i * 4 + 3, none⟩ = some (.int .i64 d.s) := by
  obtain ⟨b, off, ha, hb, hc⟩ := h i d hd
  exact ⟨b, off, ha, hb, hc 0 _ rfl, hc 1 _ rfl, hc 2 _ rfl, hc 3 _ rfl⟩

set_option maxRecDepth 100000 in
set_option maxHeartbeats 3200000 in
theorem sameOrder_eq (e : Ent) (a1 a2 : Option Addr) (c1 c2 : Nat) (w : World) (h1 : (⟨e, a1, c1⟩ : EntM).ok Any w) (h2 : (⟨e, a2, c2⟩ : EntM).ok Any w) :
    Calls Tryd.prog 39 #[.agg #[.int .i64 e.kd, .int .i64 e.id, .int .i64 e.srv.k, .int .i64 e.srv.q, .int .i64 e.srv.t, .int .i64 e.po, .slice a1 e.tasks.length c1, .int .i64 e.at_], .agg #[.int .i64 e.kd, .int .i64 e.id, .int .i64 e.srv.k, .int .i64 e.srv.q, .int .i64 e.srv.t, .int .i64 e.po, .slice a2 e.tasks.length c2, .int .i64 e.at_]] w fun x w' => x = .returned (.bool true) ∧ Gr w w' := by
  have hcap := ent_cap h1
  dsimp only at hcap
  go_enter Tryd.func39, Tryd.ntmps39
  go_wp2_with fail
  have gW := ((Gr.refl w).alloc (.cells #[.int .i64 e.kd, .int .i64 e.id, .int .i64 e.srv.k, .int .i64 e.srv.q, .int .i64 e.srv.t, .int .i64 e.po, .slice a1 e.tasks.length c1, .int .i64 e.at_] 29)).alloc (.cells #[.int .i64 e.kd, .int .i64 e.id, .int .i64 e.srv.k, .int .i64 e.srv.q, .int .i64 e.srv.t, .int .i64 e.po, .slice a2 e.tasks.length c2, .int .i64 e.at_] 29)
  go_loopw [51] (fun iv wr => ∃ k : Nat, k ≤ e.tasks.length ∧ iv = .int .i64 k ∧ Gr ((w.alloc (.cells #[.int .i64 e.kd, .int .i64 e.id, .int .i64 e.srv.k, .int .i64 e.srv.q, .int .i64 e.srv.t, .int .i64 e.po, .slice a1 e.tasks.length c1, .int .i64 e.at_] 29)).alloc (.cells #[.int .i64 e.kd, .int .i64 e.id, .int .i64 e.srv.k, .int .i64 e.srv.q, .int .i64 e.srv.t, .int .i64 e.po, .slice a2 e.tasks.length c2, .int .i64 e.at_] 29)) wr) (fun iv _ => e.tasks.length - (intOf iv).toNat)
  case atStart => exact ⟨0, Nat.zero_le _, rfl, Gr.refl _⟩
  case round =>
    obtain ⟨k, hk, rfl, hg⟩ := hrel
    obtain ⟨cg, fg, sg⟩ := hg.cells
    simp only [World.size_alloc] at cg fg sg
    have k1 := fun o => cg w.heap.size o (by omega)
    have k2 := fun o => cg (w.heap.size + 1) o (by omega)
    clear cg fg
    by_cases hlt : k < e.tasks.length
    · obtain ⟨d, hd⟩ := get_some e.tasks k hlt
      obtain ⟨b, off, hb0, hb, d0, d1, d2, d3⟩ := tsk_cells ((h1.gr gW).gr hg).1.1 hd
      obtain ⟨b', off', hb0', hb', d0', d1', d2', d3'⟩ := tsk_cells ((h2.gr gW).gr hg).1.1 hd
      dsimp only at hb0 hb0'
      subst hb0 hb0'
      replace hd := Lib.hid hd
      go_wp2_with fail
      go_quiet (fail)
      go_wp2_with fail
      go_roundw
      case rel => exact ⟨k + 1, by omega, by go_num, hg.drewN _⟩
      case measure => simp [intOf]; omega
    · go_wp2_with fail
      go_ret
      exact ⟨rfl, gW.trans hg⟩

end Go.Proofs.YtlgbnjaoadlolaaDoor
