/- Package demand: Server, Request, Servers, Requests; alive of layer 11's laws. -/
import Derived.Test.YtkfkfcfbcfcbkaaDoorD1
namespace Go.Proofs.YtkfkfcfbcfcbkaaDoor
open Go.RowKit

theorem srvsAt_one {w : World} {b : Nat} {s : Srv} (hb : b < w.heap.size) (h0 : w.cell? ⟨b, 0, none⟩ = some (.int .i64 s.k)) (h1 : w.cell? ⟨b, 1, none⟩ = some (.int .i64 s.q)) (h2 : w.cell? ⟨b, 2, none⟩ = some (.int .i64 s.t)) : SrvsAt w (some ⟨b, 0, none⟩) [s] := by
  intro i x hx
  match i, hx with
  | 0, hx => obtain rfl := Option.some.inj hx; exact ⟨b, 0, rfl, hb, h0, h1, h2⟩

/-- What is wrong with one server and a length. -/
def chk1 (s : Srv) (n : Int) : Option Nat := if s.leg = false then some 0 else if n < 0 ∨ 1099511627776 < n then some 2 else none
theorem chk1_eq (s : Srv) (n : Int) : chkS [s] n = chk1 s n := by
  unfold chkS chk1 allLeg
  simp
theorem chk1_none {s : Srv} {n : Int} (h1 : s.leg = true) (h2 : LenOk n) : chk1 s n = none := by
  unfold chk1; rw [if_neg (by rw [h1]; decide), if_neg (by unfold LenOk at h2; omega)]

set_option maxHeartbeats 400000 in
theorem server_yes (s : Srv) (n : Int) (w : World) (h : chk1 s n = none) :
    Calls Tryd.prog 25 #[.agg #[.int .i64 s.k, .int .i64 s.q, .int .i64 s.t], .int .i64 n] w fun e w' => e = .returned (.tuple #[.int .i64 (askedI s n), .nilIface]) ∧ Gr w w' := by
  rw [← chk1_eq] at h
  have hs := fun (b : Nat) (w : World) hl => sum_asked_yes (some ⟨b, 0, none⟩) [s] 1 n w hl h
  have e1 : sumI (fun s => askedI s n) [s] = askedI s n := by rw [sumI_cons]; simp [sumI]
  rw [e1] at hs
  have hs := Lib.hid hs
  clear h e1
  go_enter Tryd.func25, Tryd.ntmps25
  go_wp2_with fail
  refine (hs.out _ _ ?_).mono ?_
  · exact srvsAt_one (by simp) (by simp [go_sem]) (by simp [go_sem]) (by simp [go_sem])
  rintro e wa ⟨rfl, ga⟩
  go_wp2_with fail
  go_ret2
  refine ⟨rfl, ?_⟩
  repeat (first | exact Gr.refl _ | apply Gr.alloc | apply Gr.drew | apply Gr.drewN | (refine Gr.setCell ?_ (by simp) _) | (refine Gr.trans ?_ (by assumption)))
set_option maxHeartbeats 400000 in
theorem server_no {G : List Nat} {E : Nat → Addr} (s : Srv) (n : Int) (w : World) (hE : EAt G E w) (i0 : 0 ∈ G) (i3 : 3 ∈ G) (i2 : 2 ∈ G) (g : Nat) (h : chk1 s n = some g) :
    Calls Tryd.prog 25 #[.agg #[.int .i64 s.k, .int .i64 s.q, .int .i64 s.t], .int .i64 n] w fun e w' => e = .returned (.tuple #[.int .i64 0, .iface 113 (.pointer (some (E g)))]) ∧ Gr w w' := by
  rw [← chk1_eq] at h
  have h := Lib.hid h
  have hs := fun (F : Value) (b : Nat) (w : World) hE hl => sum_no (G := G) (E := E) F (some ⟨b, 0, none⟩) [s] 1 n w hE i0 i3 i2 hl (by unfold maxLen; simp) g h.out
  have hs := Lib.hid hs
  go_enter Tryd.func25, Tryd.ntmps25
  go_wp2_with fail
  refine (hs.out _ _ _ ?_ ?_).mono ?_
  · exact hE.gr (((Gr.refl _).alloc _).alloc _)
  · exact srvsAt_one (by simp) (by simp [go_sem]) (by simp [go_sem]) (by simp [go_sem])
  rintro e wa ⟨rfl, ga⟩
  go_wp2_with fail
  go_ret2
  refine ⟨rfl, ?_⟩
  repeat (first | exact Gr.refl _ | apply Gr.alloc | apply Gr.drew | apply Gr.drewN | (refine Gr.setCell ?_ (by simp) _) | (refine Gr.trans ?_ (by assumption)))
set_option maxHeartbeats 400000 in
theorem dservers_yes (a : Option Addr) (l : List Srv) (c : Nat) (n : Int) (w : World) (hl : SrvsAt w a l) (h : chkS l n = none) :
    Calls Tryd.prog 27 #[.slice a l.length c, .int .i64 n] w fun e w' => e = .returned (.tuple #[.int .i64 (sumI (fun s => askedI s n) l), .nilIface]) ∧ Gr w w' := by
  have h := Lib.hid h
  go_enter Tryd.func27, Tryd.ntmps27
  go_wp2_with fail
  refine (sum_asked_yes a l c n _ hl h.out).mono ?_
  rintro e wa ⟨rfl, ga⟩
  obtain ⟨ca, fa, sa⟩ := ga.cells
  try simp only [World.size_alloc] at ca fa sa
  try simp only [World.size_drew] at ca fa sa
  try simp only [World.size_setCell] at ca fa sa
  go_wp2_with fail
  go_ret2
  exact ⟨rfl, ga⟩
set_option maxHeartbeats 400000 in
theorem dservers_no {G : List Nat} {E : Nat → Addr} (a : Option Addr) (l : List Srv) (c : Nat) (n : Int) (w : World) (hE : EAt G E w) (i0 : 0 ∈ G) (i3 : 3 ∈ G) (i2 : 2 ∈ G) (hl : SrvsAt w a l) (hm : l.length ≤ maxLen) (g : Nat) (h : chkS l n = some g) :
    Calls Tryd.prog 27 #[.slice a l.length c, .int .i64 n] w fun e w' => e = .returned (.tuple #[.int .i64 0, .iface 113 (.pointer (some (E g)))]) ∧ Gr w w' := by
  have h := Lib.hid h
  go_enter Tryd.func27, Tryd.ntmps27
  go_wp2_with fail
  refine (sum_no _ a l c n _ hE i0 i3 i2 hl hm g h.out).mono ?_
  rintro e wa ⟨rfl, ga⟩
  obtain ⟨ca, fa, sa⟩ := ga.cells
  try simp only [World.size_alloc] at ca fa sa
  try simp only [World.size_drew] at ca fa sa
  try simp only [World.size_setCell] at ca fa sa
  go_wp2_with fail
  go_ret2
  exact ⟨rfl, ga⟩

set_option maxHeartbeats 400000 in
theorem request_yes (s : Srv) (n : Int) (w : World) (h : chk1 s n = none) :
    Calls Tryd.prog 26 #[.agg #[.int .i64 s.k, .int .i64 s.q, .int .i64 s.t], .int .i64 n] w fun e w' => e = .returned (.tuple #[.int .i64 (reqI s n), .nilIface]) ∧ Gr w w' := by
  rw [← chk1_eq] at h
  have hs := fun (b : Nat) (w : World) hl => sum_requested_yes (some ⟨b, 0, none⟩) [s] 1 n w hl h
  have e1 : sumI (fun s => reqI s n) [s] = reqI s n := by rw [sumI_cons]; simp [sumI]
  rw [e1] at hs
  have hs := Lib.hid hs
  clear h e1
  go_enter Tryd.func26, Tryd.ntmps26
  go_wp2_with fail
  refine (hs.out _ _ ?_).mono ?_
  · exact srvsAt_one (by simp) (by simp [go_sem]) (by simp [go_sem]) (by simp [go_sem])
  rintro e wa ⟨rfl, ga⟩
  go_wp2_with fail
  go_ret2
  refine ⟨rfl, ?_⟩
  repeat (first | exact Gr.refl _ | apply Gr.alloc | apply Gr.drew | apply Gr.drewN | (refine Gr.setCell ?_ (by simp) _) | (refine Gr.trans ?_ (by assumption)))
set_option maxHeartbeats 400000 in
theorem request_no {G : List Nat} {E : Nat → Addr} (s : Srv) (n : Int) (w : World) (hE : EAt G E w) (i0 : 0 ∈ G) (i3 : 3 ∈ G) (i2 : 2 ∈ G) (g : Nat) (h : chk1 s n = some g) :
    Calls Tryd.prog 26 #[.agg #[.int .i64 s.k, .int .i64 s.q, .int .i64 s.t], .int .i64 n] w fun e w' => e = .returned (.tuple #[.int .i64 0, .iface 113 (.pointer (some (E g)))]) ∧ Gr w w' := by
  rw [← chk1_eq] at h
  have h := Lib.hid h
  have hs := fun (F : Value) (b : Nat) (w : World) hE hl => sum_no (G := G) (E := E) F (some ⟨b, 0, none⟩) [s] 1 n w hE i0 i3 i2 hl (by unfold maxLen; simp) g h.out
  have hs := Lib.hid hs
  go_enter Tryd.func26, Tryd.ntmps26
  go_wp2_with fail
  refine (hs.out _ _ _ ?_ ?_).mono ?_
  · exact hE.gr (((Gr.refl _).alloc _).alloc _)
  · exact srvsAt_one (by simp) (by simp [go_sem]) (by simp [go_sem]) (by simp [go_sem])
  rintro e wa ⟨rfl, ga⟩
  go_wp2_with fail
  go_ret2
  refine ⟨rfl, ?_⟩
  repeat (first | exact Gr.refl _ | apply Gr.alloc | apply Gr.drew | apply Gr.drewN | (refine Gr.setCell ?_ (by simp) _) | (refine Gr.trans ?_ (by assumption)))
set_option maxHeartbeats 400000 in
theorem drequests_yes (a : Option Addr) (l : List Srv) (c : Nat) (n : Int) (w : World) (hl : SrvsAt w a l) (h : chkS l n = none) :
    Calls Tryd.prog 28 #[.slice a l.length c, .int .i64 n] w fun e w' => e = .returned (.tuple #[.int .i64 (sumI (fun s => reqI s n) l), .nilIface]) ∧ Gr w w' := by
  have h := Lib.hid h
  go_enter Tryd.func28, Tryd.ntmps28
  go_wp2_with fail
  refine (sum_requested_yes a l c n _ hl h.out).mono ?_
  rintro e wa ⟨rfl, ga⟩
  obtain ⟨ca, fa, sa⟩ := ga.cells
  try simp only [World.size_alloc] at ca fa sa
  try simp only [World.size_drew] at ca fa sa
  try simp only [World.size_setCell] at ca fa sa
  go_wp2_with fail
  go_ret2
  exact ⟨rfl, ga⟩
set_option maxHeartbeats 400000 in
theorem drequests_no {G : List Nat} {E : Nat → Addr} (a : Option Addr) (l : List Srv) (c : Nat) (n : Int) (w : World) (hE : EAt G E w) (i0 : 0 ∈ G) (i3 : 3 ∈ G) (i2 : 2 ∈ G) (hl : SrvsAt w a l) (hm : l.length ≤ maxLen) (g : Nat) (h : chkS l n = some g) :
    Calls Tryd.prog 28 #[.slice a l.length c, .int .i64 n] w fun e w' => e = .returned (.tuple #[.int .i64 0, .iface 113 (.pointer (some (E g)))]) ∧ Gr w w' := by
  have h := Lib.hid h
  go_enter Tryd.func28, Tryd.ntmps28
  go_wp2_with fail
  refine (sum_no _ a l c n _ hE i0 i3 i2 hl hm g h.out).mono ?_
  rintro e wa ⟨rfl, ga⟩
  obtain ⟨ca, fa, sa⟩ := ga.cells
  try simp only [World.size_alloc] at ca fa sa
  try simp only [World.size_drew] at ca fa sa
  try simp only [World.size_setCell] at ca fa sa
  go_wp2_with fail
  go_ret2
  exact ⟨rfl, ga⟩

theorem asked_ex : askedI ⟨1, 2, 5⟩ 14 = 4 := by decide
theorem req_ex : reqI ⟨3, 2, 5⟩ 1 = 4 := by decide

set_option maxHeartbeats 400000 in
theorem alive11 (w : World) : Calls Tryd.prog 24 #[] w fun e w' => e = .returned (.bool true) ∧ Gr w w' := by
  have h1 := fun w => server_yes ⟨1, 2, 5⟩ 14 w (by decide)
  have h2 := fun w => request_yes ⟨3, 2, 5⟩ 1 w (by decide)
  rw [asked_ex] at h1
  rw [req_ex] at h2
  have h1 := Lib.hid h1
  have h2 := Lib.hid h2
  go_enter Tryd.func24, Tryd.ntmps24
  go_wp2_with fail
  refine (h1.out _).mono ?_
  rintro e wa ⟨rfl, ga⟩
  obtain ⟨ca, fa, sa⟩ := ga.cells
  try simp only [World.size_alloc] at ca fa sa
  try simp only [World.size_drew] at ca fa sa
  try simp only [World.size_setCell] at ca fa sa
  go_wp2_with fail
  refine (h2.out _).mono ?_
  rintro e wb ⟨rfl, gb⟩
  obtain ⟨cb, fb, sb⟩ := gb.cells
  try simp only [World.size_alloc] at cb fb sb
  try simp only [World.size_drew] at cb fb sb
  try simp only [World.size_setCell] at cb fb sb
  go_wp2_with fail
  go_ret
  exact ⟨rfl, ga.trans gb⟩
end Go.Proofs.YtkfkfcfbcfcbkaaDoor
