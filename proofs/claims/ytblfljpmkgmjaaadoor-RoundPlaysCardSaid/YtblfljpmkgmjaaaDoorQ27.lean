/- The opener of a script: a list of Op. -/
import Derived.Test.YtblfljpmkgmjaaaDoorL3
namespace Go.Proofs.YtblfljpmkgmjaaaDoor
open Go.ChangeShapes Go.WideShapes Go.ChangeAt Go.RowKit Go.Deep Go.Joins

/-- One call of a script. -/
structure OpM where
  kd : Int
  wh : Int
  fr : Int
  b : Bal
  acc : Bal
  L : List EntM
  a : Option Addr
  c : Nat
abbrev OpM.cells (x : OpM) : List Value := [.int .i64 x.kd, .int .i64 x.wh, .int .i64 x.fr, .int .i64 x.b.r, .int .i64 x.b.n, .int .i64 x.acc.r, .int .i64 x.acc.n, .slice x.a x.L.length x.c]
theorem OpM.cells_len (x : OpM) : x.cells.length = 8 := rfl
/-- A call's ledger lies in memory. -/
def OpM.ok (W : World) (x : OpM) : Prop := LedM Any W x.a x.L ∧ x.L.length * 96 ≤ 140737488351232
section
variable {H : Type} {enc : TypeId × Value → H} {W : World}

set_option maxRecDepth 100000 in
theorem op_of_trod (n : Nat) (cs : List Value) (y : DataW H × List MemPlace) (h : DataW.trod enc Tryd.prog W 0 (fun _ => true) true n 67 cs = some y) : ∃ s : OpM, cs = s.cells ∧ I64 s.wh ∧ ((y.1.weights Tryd.prog 67).all (· ≤ reachBytes) = true → s.ok W) := by
  have hc : Tryd.prog.cellsOf 67 = 8 := by kernel_rfl
  have hci : Tryd.prog.cellsOf 3 = 1 := by kernel_rfl
  have hcb : Tryd.prog.cellsOf 39 = 2 := by kernel_rfl
  have hcl : Tryd.prog.cellsOf 41 = 1 := by kernel_rfl
  obtain ⟨xs, m2, _, hy2, hlen, hxl, hf⟩ := DataW.trod_struct Tryd.underlying67 h
  rw [hc] at hlen
  match cs, hlen with
  | [c0, c1, c2, c3, c4, c5, c6, c7], _ =>
    match xs, hxl with
    | [z0, z1, z2, z3, z4, z5], _ =>
      have u0 : DataW.trod enc Tryd.prog W 0 (fun _ => true) true m2 3 (List.take (Tryd.prog.cellsOf 3) (List.drop 0 [c0, c1, c2, c3, c4, c5, c6, c7])) = some z0 := hf 0 _ rfl
      rw [hci] at u0
      have u1 : DataW.trod enc Tryd.prog W 0 (fun _ => true) true m2 3 (List.take (Tryd.prog.cellsOf 3) (List.drop 1 [c0, c1, c2, c3, c4, c5, c6, c7])) = some z1 := hf 1 _ rfl
      rw [hci] at u1
      have u2 : DataW.trod enc Tryd.prog W 0 (fun _ => true) true m2 3 (List.take (Tryd.prog.cellsOf 3) (List.drop 2 [c0, c1, c2, c3, c4, c5, c6, c7])) = some z2 := hf 2 _ rfl
      rw [hci] at u2
      have u3 : DataW.trod enc Tryd.prog W 0 (fun _ => true) true m2 39 (List.take (Tryd.prog.cellsOf 39) (List.drop 3 [c0, c1, c2, c3, c4, c5, c6, c7])) = some z3 := hf 3 _ rfl
      rw [hcb] at u3
      have u4 : DataW.trod enc Tryd.prog W 0 (fun _ => true) true m2 39 (List.take (Tryd.prog.cellsOf 39) (List.drop 5 [c0, c1, c2, c3, c4, c5, c6, c7])) = some z4 := hf 4 _ rfl
      rw [hcb] at u4
      have u5 : DataW.trod enc Tryd.prog W 0 (fun _ => true) true m2 41 (List.take (Tryd.prog.cellsOf 41) (List.drop 7 [c0, c1, c2, c3, c4, c5, c6, c7])) = some z5 := hf 5 _ rfl
      rw [hcl] at u5
      obtain ⟨kd, e0, _, w0⟩ := DataW.trod_int Tryd.underlying3 u0
      obtain ⟨wh, e1, _, w1⟩ := DataW.trod_int Tryd.underlying3 u1
      obtain ⟨fr, e2, _, w2⟩ := DataW.trod_int Tryd.underlying3 u2
      obtain ⟨b, e3, w3, _⟩ := bal_of_trod _ _ _ u3
      obtain ⟨acc, e4, w4, _⟩ := bal_of_trod _ _ _ u4
      obtain ⟨a, c, L, e5, r1, r2, r3, r4, r5, r6⟩ := recs_of_trod (k := 10) (bytes := 96) (code := EntM.cells) Tryd.underlying41 (by kernel_rfl) (by kernel_rfl) (by omega) EntM.cells_len (ent_of_trod (enc := enc) (W := W)) u5
      simp at e0 e1 e2 e3 e4 e5
      obtain ⟨e3a, e3b⟩ := e3
      obtain ⟨e4a, e4b⟩ := e4
      subst e0 e1 e2 e3a e3b e4a e4b e5
      refine ⟨⟨kd, wh, fr, b, acc, L, a, c⟩, rfl, i64_of_wf w1, fun hw => ?_⟩
      rw [hy2] at hw
      simp only [DataW.weights, Tryd.underlying67, List.map_cons, List.map_nil, DataW.weightsEach, List.all_append, Bool.and_eq_true] at hw
      have h6 := r6 hw.2.2.2.2.2.1
      exact ⟨⟨r1, fun x hx => (r5 x hx).ok (h6.2 x hx)⟩, by have := h6.1; unfold reachBytes at this; show L.length * 96 ≤ _; omega⟩
set_option maxRecDepth 100000 in
theorem open_ops {base : Nat} {v : Value} {d : DataW H} {p : List MemPlace} (hval : Value.okWide Tryd.prog W .any base 57 v) (h : DataW.Trod enc Tryd.prog W 0 (fun _ => true) true 57 v d p) :
    ∃ (a : Option Addr) (c : Nat) (L : List OpM), v = .slice a L.length c ∧ RecsIn Any 8 OpM.cells W a L ∧ (∀ x ∈ L, I64 x.wh) ∧ L.length ≤ maxLen ∧ ((d.weights Tryd.prog 57).all (· ≤ reachBytes) = true → L.length * 80 ≤ reachBytes ∧ ∀ x ∈ L, x.ok W) := by
  obtain ⟨a0, len, cap, rfl⟩ := okWide_slice Tryd.underlying57 hval
  obtain ⟨fuel, hf⟩ := h
  obtain ⟨a, c, L, hcs, r1, r2, r3, r4, r5, r6⟩ := recs_of_trod (k := 8) (bytes := 80) (code := OpM.cells) Tryd.underlying57 (by kernel_rfl) (by kernel_rfl) (by omega) OpM.cells_len (op_of_trod (enc := enc) (W := W)) hf
  simp [Value.cells] at hcs
  obtain ⟨rfl, rfl, rfl⟩ := hcs
  exact ⟨_, _, L, rfl, r1, r5, by omega, r6⟩
end
end Go.Proofs.YtblfljpmkgmjaaaDoor
