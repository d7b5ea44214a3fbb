/- Package demand: Server, Request, Servers, Requests; alive of layer 11's laws. -/
import Derived.Test.YtmookdgeblcjnaaDoorD1
namespace Go.Proofs.YtmookdgeblcjnaaDoor
open Go.RowKit

theorem srvsAt_one {w : World} {b : Nat} {s : Srv} (hb : b < w.heap.size) (h0 : w.cell? ⟨b, 0, none⟩ = some (.int .i64 s.k)) (h1 : w.cell? ⟨b, 1, none⟩ = some (.int .i64 s.q)) (h2 : w.cell? ⟨b, 2, none⟩ = some (.int .i64 s.t)) : SrvsAt w (some ⟨b, 0, none⟩) [s] := by
  intro i x hx
  match i, hx with
  | 0, hx => obtain rfl := Option.some.inj hx; exact ⟨b, 0, rfl, hb, h0, h1, h2⟩

/-- What is wrong with one server and a length. -/
def chk1 (s : Srv) (n : Int) : Option Nat := if s.leg = false then some 0 else if n < 0 ∨ 1099511627776 < n then some 2 else none
theorem chk1_eq (s : Srv) (n : Int) : chkS [s] n = chk1 s n := by
  unfold chkS chk1 allLeg
  simp
theorem chk1_none {s : Srv} {n : Int} (h1 : s.leg = true) (h2 : LenOk n) : chk1 s n = none := by
  unfold chk1; rw [if_neg (by rw [h1]; decide), if_neg (by unfold LenOk at h2; omega)]

set_option maxHeartbeats 400000 in
theorem dservers_yes (a : Option Addr) (l : List Srv) (c : Nat) (n : Int) (w : World) (hl : SrvsAt w a l) (h : chkS l n = none) :
    Calls Tryd.prog 29 #[.slice a l.length c, .int .i64 n] w fun e w' => e = .returned (.tuple #[.int .i64 (sumI (fun s => askedI s n) l), .nilIface]) ∧ Gr w w' := by
  have h := Lib.hid h
  go_enter Tryd.func29, Tryd.ntmps29
  go_wp2_with fail
  refine (sum_asked_yes a l c n _ hl h.out).mono ?_
  rintro e wa ⟨rfl, ga⟩
  obtain ⟨ca, fa, sa⟩ := ga.cells
  try simp only [size_drewN] at ca fa sa
  try simp only [World.size_alloc] at ca fa sa
  try simp only [World.size_drew] at ca fa sa
  try simp only [World.size_setCell] at ca fa sa
  go_wp2_with fail
  go_ret2
  exact ⟨rfl, ga⟩
set_option maxHeartbeats 400000 in
theorem dservers_no {G : List Nat} {E : Nat → Addr} (a : Option Addr) (l : List Srv) (c : Nat) (n : Int) (w : World) (hE : EAt G E w) (i0 : 0 ∈ G) (i3 : 3 ∈ G) (i2 : 2 ∈ G) (hl : SrvsAt w a l) (hm : l.length ≤ maxLen) (g : Nat) (h : chkS l n = some g) :
    Calls Tryd.prog 29 #[.slice a l.length c, .int .i64 n] w fun e w' => e = .returned (.tuple #[.int .i64 0, .iface 146 (.pointer (some (E g)))]) ∧ Gr w w' := by
  have h := Lib.hid h
  go_enter Tryd.func29, Tryd.ntmps29
  go_wp2_with fail
  refine (sum_no _ a l c n _ hE i0 i3 i2 hl hm g h.out).mono ?_
  rintro e wa ⟨rfl, ga⟩
  obtain ⟨ca, fa, sa⟩ := ga.cells
  try simp only [size_drewN] at ca fa sa
  try simp only [World.size_alloc] at ca fa sa
  try simp only [World.size_drew] at ca fa sa
  try simp only [World.size_setCell] at ca fa sa
  go_wp2_with fail
  go_ret2
  exact ⟨rfl, ga⟩

set_option maxHeartbeats 400000 in
theorem drequests_yes (a : Option Addr) (l : List Srv) (c : Nat) (n : Int) (w : World) (hl : SrvsAt w a l) (h : chkS l n = none) :
    Calls Tryd.prog 32 #[.slice a l.length c, .int .i64 n] w fun e w' => e = .returned (.tuple #[.int .i64 (sumI (fun s => reqI s n) l), .nilIface]) ∧ Gr w w' := by
  have h := Lib.hid h
  go_enter Tryd.func32, Tryd.ntmps32
  go_wp2_with fail
  refine (sum_requested_yes a l c n _ hl h.out).mono ?_
  rintro e wa ⟨rfl, ga⟩
  obtain ⟨ca, fa, sa⟩ := ga.cells
  try simp only [size_drewN] at ca fa sa
  try simp only [World.size_alloc] at ca fa sa
  try simp only [World.size_drew] at ca fa sa
  try simp only [World.size_setCell] at ca fa sa
  go_wp2_with fail
  go_ret2
  exact ⟨rfl, ga⟩
set_option maxHeartbeats 400000 in
theorem drequests_no {G : List Nat} {E : Nat → Addr} (a : Option Addr) (l : List Srv) (c : Nat) (n : Int) (w : World) (hE : EAt G E w) (i0 : 0 ∈ G) (i3 : 3 ∈ G) (i2 : 2 ∈ G) (hl : SrvsAt w a l) (hm : l.length ≤ maxLen) (g : Nat) (h : chkS l n = some g) :
    Calls Tryd.prog 32 #[.slice a l.length c, .int .i64 n] w fun e w' => e = .returned (.tuple #[.int .i64 0, .iface 146 (.pointer (some (E g)))]) ∧ Gr w w' := by
  have h := Lib.hid h
  go_enter Tryd.func32, Tryd.ntmps32
  go_wp2_with fail
  refine (sum_no _ a l c n _ hE i0 i3 i2 hl hm g h.out).mono ?_
  rintro e wa ⟨rfl, ga⟩
  obtain ⟨ca, fa, sa⟩ := ga.cells
  try simp only [size_drewN] at ca fa sa
  try simp only [World.size_alloc] at ca fa sa
  try simp only [World.size_drew] at ca fa sa
  try simp only [World.size_setCell] at ca fa sa
  go_wp2_with fail
  go_ret2
  exact ⟨rfl, ga⟩

theorem asked_ex : askedI ⟨1, 2, 5⟩ 14 = 4 := by decide
theorem req_ex : reqI ⟨3, 2, 5⟩ 1 = 4 := by decide

end Go.Proofs.YtmookdgeblcjnaaDoor
