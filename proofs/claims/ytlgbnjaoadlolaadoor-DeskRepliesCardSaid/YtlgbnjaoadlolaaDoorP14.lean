/- desk.opened and desk.GetAsk of what is no frame. -/
import Derived.Test.YtlgbnjaoadlolaaDoorP13
import Derived.Laws.ResultCell
namespace Go.Proofs.YtlgbnjaoadlolaaDoor
open Go.RowKit

/-- A result that lies in a cell, and one beside it. -/
theorem res_cell {fn : Func} {p u : Tmp} {ty : TypeId} (h : fn.results = #[.cell p ty, .tmp u]) (tmps : Array Value) (w : World) {b : Nat} {cs : Array Value} {t : TypeId} {fs : Array Field} (hb : Blk w b cs t)
    (hp : tmps.getD p undef = .pointer (some ⟨b, 0, none⟩)) (hu : Tryd.prog.underlying ty = some (.struct fs)) (hi : (Tryd.prog.info? ty).map (·.size) = some cs.size) :
    (results fn tmps).run Tryd.prog w = .ok (.tuple #[.agg cs, tmps.getD u undef]) w := by
  have hl := run_loadVar_row (P := Tryd.prog) w b t ty cs (0, 0) _ hb hu rfl hi
  rw [results_cell_tmp h, hp]
  simp [asAddr, Result.andThen, hl]
theorem Blk.set5 {w : World} {b : Nat} {cs : Array Value} {t : TypeId} (h : Blk w b cs t) (hs : cs.size = 5) (v0 v1 v2 v3 v4 : Value) : Blk (((((w.setCell ⟨b, 0, none⟩ v0).setCell ⟨b, 1, none⟩ v1).setCell ⟨b, 2, none⟩ v2).setCell ⟨b, 3, none⟩ v3).setCell ⟨b, 4, none⟩ v4) b #[v0, v1, v2, v3, v4] t := by
  obtain ⟨l⟩ := cs
  match l, hs with
  | [c0, c1, c2, c3, c4], _ =>
    have h := (((((h.set 0 v0).set 1 v1).set 2 v2).set 3 v3).set 4 v4)
    simpa only [List.setIfInBounds_toArray, List.set_cons_zero, List.set_cons_succ] using h
theorem Blk.set11 {w : World} {b : Nat} {cs : Array Value} {t : TypeId} (h : Blk w b cs t) (hs : cs.size = 11) (v0 v1 v2 v3 v4 v5 v6 v7 v8 v9 v10 : Value) : Blk (((((((((((w.setCell ⟨b, 0, none⟩ v0).setCell ⟨b, 1, none⟩ v1).setCell ⟨b, 2, none⟩ v2).setCell ⟨b, 3, none⟩ v3).setCell ⟨b, 4, none⟩ v4).setCell ⟨b, 5, none⟩ v5).setCell ⟨b, 6, none⟩ v6).setCell ⟨b, 7, none⟩ v7).setCell ⟨b, 8, none⟩ v8).setCell ⟨b, 9, none⟩ v9).setCell ⟨b, 10, none⟩ v10) b #[v0, v1, v2, v3, v4, v5, v6, v7, v8, v9, v10] t := by
  obtain ⟨l⟩ := cs
  match l, hs with
  | [c0, c1, c2, c3, c4, c5, c6, c7, c8, c9, c10], _ =>
    have h := (((((((((((h.set 0 v0).set 1 v1).set 2 v2).set 3 v3).set 4 v4).set 5 v5).set 6 v6).set 7 v7).set 8 v8).set 9 v9).set 10 v10)
    simpa only [List.setIfInBounds_toArray, List.set_cons_zero, List.set_cons_succ] using h
theorem Gr.set5 {w a : World} {b : Nat} (h : Gr w a) (hb : w.heap.size ≤ b) (v0 v1 v2 v3 v4 : Value) : Gr w (((((a.setCell ⟨b, 0, none⟩ v0).setCell ⟨b, 1, none⟩ v1).setCell ⟨b, 2, none⟩ v2).setCell ⟨b, 3, none⟩ v3).setCell ⟨b, 4, none⟩ v4) := (Gr.setCell (Gr.setCell (Gr.setCell (Gr.setCell (Gr.setCell h (p := ⟨b, 0, none⟩) hb v0) (p := ⟨b, 1, none⟩) hb v1) (p := ⟨b, 2, none⟩) hb v2) (p := ⟨b, 3, none⟩) hb v3) (p := ⟨b, 4, none⟩) hb v4)
theorem Gr.set11 {w a : World} {b : Nat} (h : Gr w a) (hb : w.heap.size ≤ b) (v0 v1 v2 v3 v4 v5 v6 v7 v8 v9 v10 : Value) : Gr w (((((((((((a.setCell ⟨b, 0, none⟩ v0).setCell ⟨b, 1, none⟩ v1).setCell ⟨b, 2, none⟩ v2).setCell ⟨b, 3, none⟩ v3).setCell ⟨b, 4, none⟩ v4).setCell ⟨b, 5, none⟩ v5).setCell ⟨b, 6, none⟩ v6).setCell ⟨b, 7, none⟩ v7).setCell ⟨b, 8, none⟩ v8).setCell ⟨b, 9, none⟩ v9).setCell ⟨b, 10, none⟩ v10) := (Gr.setCell (Gr.setCell (Gr.setCell (Gr.setCell (Gr.setCell (Gr.setCell (Gr.setCell (Gr.setCell (Gr.setCell (Gr.setCell (Gr.setCell h (p := ⟨b, 0, none⟩) hb v0) (p := ⟨b, 1, none⟩) hb v1) (p := ⟨b, 2, none⟩) hb v2) (p := ⟨b, 3, none⟩) hb v3) (p := ⟨b, 4, none⟩) hb v4) (p := ⟨b, 5, none⟩) hb v5) (p := ⟨b, 6, none⟩) hb v6) (p := ⟨b, 7, none⟩) hb v7) (p := ⟨b, 8, none⟩) hb v8) (p := ⟨b, 9, none⟩) hb v9) (p := ⟨b, 10, none⟩) hb v10)
set_option maxHeartbeats 1600000 in
theorem opened_err {G : List Nat} {E : Nat → Addr} (w : World) (s : Value) (g : Nat) (hE : EAt G E w) (i1 : 1 ∈ G)
    (hR : Calls Tryd.prog 51 #[s] w fun e w' => e = .returned (.tuple #[.slice none 0 0, .int .i64 0, .iface 137 (.pointer (some (E g)))]) ∧ Gr w w') :
    Calls Tryd.prog 30 #[s] w fun e w' => e = .returned (.tuple #[.pointer none, (Value.iface 137 (.pointer (some (E 1))))]) ∧ Gr w w' := by
  replace hR := Lib.hid hR
  go_enter Tryd.func30, Tryd.ntmps30
  go_wp2_with fail
  refine (hR.out).mono ?_
  rintro e wa ⟨rfl, ga⟩
  obtain ⟨ca, fa, sa⟩ := ga.cells
  try simp only [size_drewN] at ca fa sa
  try simp only [World.size_alloc] at ca fa sa
  try simp only [World.size_drew] at ca fa sa
  try simp only [World.size_setCell] at ca fa sa
  have he := (hE.gr ga).c0 i1
  clear ca fa
  go_upto_region 3 with fail
  go_region
  go_wp2_with fail
  go_ret2
  exact ⟨rfl, (by repeat (first | exact Gr.refl _ | apply Gr.alloc | apply Gr.drew | apply Gr.drewN | (refine Gr.setCell ?_ (by first | (simp; done) | (simp; omega)) _) | (refine Gr.trans ?_ (by assumption))))⟩
set_option maxHeartbeats 1600000 in
theorem opened_none {G : List Nat} {E : Nat → Addr} (w : World) (s : Value) (hE : EAt G E w) (i1 : 1 ∈ G)
    (hR : Calls Tryd.prog 51 #[s] w fun e w' => e = .returned (.tuple #[.slice none 0 0, .int .i64 0, .nilIface]) ∧ Gr w w') :
    Calls Tryd.prog 30 #[s] w fun e w' => e = .returned (.tuple #[.pointer none, (Value.iface 137 (.pointer (some (E 1))))]) ∧ Gr w w' := by
  replace hR := Lib.hid hR
  go_enter Tryd.func30, Tryd.ntmps30
  go_wp2_with fail
  refine (hR.out).mono ?_
  rintro e wa ⟨rfl, ga⟩
  obtain ⟨ca, fa, sa⟩ := ga.cells
  try simp only [size_drewN] at ca fa sa
  try simp only [World.size_alloc] at ca fa sa
  try simp only [World.size_drew] at ca fa sa
  try simp only [World.size_setCell] at ca fa sa
  have he := (hE.gr ga).c0 i1
  clear ca fa
  go_upto_region 3 with fail
  go_region
  go_wp2_with fail
  go_ret2
  exact ⟨rfl, (by repeat (first | exact Gr.refl _ | apply Gr.alloc | apply Gr.drew | apply Gr.drewN | (refine Gr.setCell ?_ (by first | (simp; done) | (simp; omega)) _) | (refine Gr.trans ?_ (by assumption))))⟩
/-- The question of nothing. -/
abbrev askZ : Value := .agg #[.int .i64 0, .int .i64 0, .int .i64 0, .int .i64 0, .int .i64 0, .int .i64 0, .int .i64 0, .int .i64 0, .int .i64 0, .slice none 0 0, .int .i64 0]
set_option maxRecDepth 100000 in
set_option maxHeartbeats 1600000 in
theorem getAsk_shut {E : Nat → Addr} (w : World) (s : Value)
    (hO : ∀ w1, Gr w w1 → Calls Tryd.prog 30 #[s] w1 fun e w' => e = .returned (.tuple #[.pointer none, (Value.iface 137 (.pointer (some (E 1))))]) ∧ Gr w1 w') :
    Calls Tryd.prog 20 #[s] w fun e w' => e = .returned (.tuple #[askZ, (Value.iface 137 (.pointer (some (E 1))))]) ∧ Gr w w' := by
  replace hO := Lib.hid hO
  go_enter Tryd.func20, Tryd.ntmps20
  go_wp2_with fail
  refine (hO.out _ ((Gr.refl w).alloc _)).mono ?_
  rintro e wa ⟨rfl, ga⟩
  obtain ⟨ca, fa, sa⟩ := ga.cells
  try simp only [size_drewN] at ca fa sa
  try simp only [World.size_alloc] at ca fa sa
  try simp only [World.size_drew] at ca fa sa
  try simp only [World.size_setCell] at ca fa sa
  have za0 : w.heap.size < wa.heap.size := by omega
  have ya0 : w.heap.size ≤ wa.heap.size := by omega
  have ka0 := fun o => ca (w.heap.size) o (by omega)
  have ja0 := fun o => fa (w.heap.size) o (by omega)
  go_wp2_with fail
  refine bodyPost_ret (v := .tuple #[askZ, (Value.iface 137 (.pointer (some (E 1))))]) ?_ rfl ⟨rfl, ?_⟩
  · refine (res_cell (b := w.heap.size) (t := 31) Tryd.results20 _ _ (((Blk.new w _ _).gr ga).set11 ?_ _ _ _ _ _ _ _ _ _ _ _) ?_ Tryd.underlying31 (by kernel_rfl)).trans ?_
    · rfl
    · simp
    · simp
  · exact (((Gr.refl w).alloc _).trans ga).set11 (Nat.le_refl _) _ _ _ _ _ _ _ _ _ _ _
end Go.Proofs.YtlgbnjaoadlolaaDoor
