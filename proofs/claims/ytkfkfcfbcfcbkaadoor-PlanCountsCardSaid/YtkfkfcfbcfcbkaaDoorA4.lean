/- alive of layer 8's laws. -/
import Derived.Test.YtkfkfcfbcfcbkaaDoorA3
namespace Go.Proofs.YtkfkfcfbcfcbkaaDoor
open Go.RowKit

theorem share_ex : partV (shareS [⟨1, 1, 2⟩, ⟨2, 1, 3⟩]) = .agg #[.int .u64 0, .int .u64 5, .int .u64 0, .int .u64 6] := by
  show Value.agg #[.int .u64 (hiW 5), .int .u64 (loW 5), .int .u64 (hiW 6), .int .u64 (loW 6)] = _
  rfl

theorem srvsAt_two {w : World} {b : Nat} {s t : Srv} (hb : b < w.heap.size) (h0 : w.cell? ⟨b, 0, none⟩ = some (.int .i64 s.k)) (h1 : w.cell? ⟨b, 1, none⟩ = some (.int .i64 s.q)) (h2 : w.cell? ⟨b, 2, none⟩ = some (.int .i64 s.t))
    (h3 : w.cell? ⟨b, 3, none⟩ = some (.int .i64 t.k)) (h4 : w.cell? ⟨b, 4, none⟩ = some (.int .i64 t.q)) (h5 : w.cell? ⟨b, 5, none⟩ = some (.int .i64 t.t)) : SrvsAt w (some ⟨b, 0, none⟩) [s, t] := by
  intro i x hx
  match i, hx with
  | 0, hx => obtain rfl := Option.some.inj hx; exact ⟨b, 0, rfl, hb, h0, h1, h2⟩
  | 1, hx => obtain rfl := Option.some.inj hx; exact ⟨b, 0, rfl, hb, h3, h4, h5⟩

set_option maxHeartbeats 800000 in
theorem alive08 {G : List Nat} {E : Nat → Addr} (w : World) (hE : EAt G E w) (i0 : 0 ∈ G) :
    Calls Tryd.prog 14 #[] w fun e w' => e = .returned (.bool true) ∧ Gr w w' := by
  have hs := fun (b : Nat) (w : World) hl => servers_yes (some ⟨b, 0, none⟩) [⟨1, 1, 2⟩, ⟨2, 1, 3⟩] 2 w hl (by decide) (by decide)
  rw [share_ex] at hs
  have hs := Lib.hid hs
  go_enter Tryd.func14, Tryd.ntmps14
  go_wp2_with fail
  refine (hs.out _ _ ?_).mono ?_
  · exact srvsAt_two (by simp) (by simp [go_sem]) (by simp [go_sem]) (by simp [go_sem]) (by simp [go_sem]) (by simp [go_sem]) (by simp [go_sem])
  rintro e wa ⟨rfl, ga⟩
  have ea := hE.gr (((Gr.refl w).alloc _).trans ga)
  have e0 := (ea.gr ((Gr.refl _).alloc (.cells #[.int .u64 0, .int .u64 5, .int .u64 0, .int .u64 6] 41)))
  have hc := e0.c0 i0
  have he := fun w => eql_same E 0 w
  go_wp2_with fail
  go_region_held3 (fun w' => w'.cell? ⟨wa.heap.size, 0, none⟩ = some (.int .u64 0) ∧ w'.cell? ⟨wa.heap.size, 1, none⟩ = some (.int .u64 5) ∧ w'.cell? ⟨wa.heap.size, 2, none⟩ = some (.int .u64 0) ∧ w'.cell? ⟨wa.heap.size, 3, none⟩ = some (.int .u64 6) ∧ w'.cell? ⟨0, 0, none⟩ = some (.iface 113 (.pointer (some (E 0))))) (simp (maxDischargeDepth := 8) [go_sem, *])
    (first | (go_at_call 16; refine (checkServer_no 1 3 2 _ (e0.gr ((Gr.refl _).drew)) i0 rfl).mono ?_; rintro e wc ⟨rfl, gc⟩; obtain ⟨cc, fc, sc⟩ := gc.cells; simp only [World.size_alloc, World.size_drew] at cc))
  go_wp2
  go_ret
  refine ⟨rfl, ?_⟩
  repeat (first | exact Gr.refl _ | apply Gr.alloc | apply Gr.drew | apply Gr.drewN | (refine Gr.setCell ?_ (by simp) _) | (refine Gr.trans ?_ (by assumption)))
end Go.Proofs.YtkfkfcfbcfcbkaaDoor
