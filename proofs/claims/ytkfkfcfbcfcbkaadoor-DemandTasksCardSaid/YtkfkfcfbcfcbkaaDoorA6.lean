/- almonernum.Num: the number of a sentinel. -/
import Derived.Test.YtkfkfcfbcfcbkaaDoorA2
namespace Go.Proofs.YtkfkfcfbcfcbkaaDoor
open Go.RowKit

/-- The sentinels' variables, in the document's order. -/
def errNos : List Nat := [2, 4, 5, 6, 7, 8, 3, 9, 10, 0, 1, 11, 12, 13, 14, 15]
def numI (g : Nat) : Int := (errNos.idxOf g : Int) + 1
def numCells (E : Nat → Addr) : Array Value := #[(Value.iface 113 (.pointer (some (E 2)))), (Value.iface 113 (.pointer (some (E 4)))), (Value.iface 113 (.pointer (some (E 5)))), (Value.iface 113 (.pointer (some (E 6)))), (Value.iface 113 (.pointer (some (E 7)))), (Value.iface 113 (.pointer (some (E 8)))), (Value.iface 113 (.pointer (some (E 3)))), (Value.iface 113 (.pointer (some (E 9)))), (Value.iface 113 (.pointer (some (E 10)))), (Value.iface 113 (.pointer (some (E 0)))), (Value.iface 113 (.pointer (some (E 1)))), (Value.iface 113 (.pointer (some (E 11)))), (Value.iface 113 (.pointer (some (E 12)))), (Value.iface 113 (.pointer (some (E 13)))), (Value.iface 113 (.pointer (some (E 14)))), (Value.iface 113 (.pointer (some (E 15))))]
theorem numCells_get (E : Nat → Addr) (k : Nat) (h : k < 16) : (numCells E)[k]? = some (.iface 113 (.pointer (some (E (errNos.getD k 0))))) := by
  match k, h with
  | 0, _ => rfl
  | 1, _ => rfl
  | 2, _ => rfl
  | 3, _ => rfl
  | 4, _ => rfl
  | 5, _ => rfl
  | 6, _ => rfl
  | 7, _ => rfl
  | 8, _ => rfl
  | 9, _ => rfl
  | 10, _ => rfl
  | 11, _ => rfl
  | 12, _ => rfl
  | 13, _ => rfl
  | 14, _ => rfl
  | 15, _ => rfl
  | k + 16, h => exact absurd h (by omega)

set_option maxHeartbeats 400000 in
theorem num_nil (w : World) : Calls Tryd.prog 31 #[.nilIface] w fun e w' => e = .returned (.int .i64 0) ∧ w = w' := by
  go_enter Tryd.func31, Tryd.ntmps31
  go_wp2
  go_ret
  exact ⟨rfl, rfl⟩

theorem errNos_lt {g : Nat} (h : g ∈ errNos) : errNos.idxOf g < 16 := List.idxOf_lt_length_of_mem h
theorem errNos_at {g : Nat} (h : g ∈ errNos) : errNos.getD (errNos.idxOf g) 0 = g := by
  rw [List.getD_eq_getElem?_getD, List.getElem?_eq_getElem (List.idxOf_lt_length_of_mem h)]
  simp
theorem errNos_ne {g : Nat} {k : Nat} (h : k < errNos.idxOf g) (hk : k < 16) : errNos.getD k 0 ≠ g := by
  intro e
  have hk' : k < errNos.length := hk
  rw [List.getD_eq_getElem?_getD, List.getElem?_eq_getElem hk', Option.getD_some] at e
  have h' : k < errNos.findIdx (· == g) := h
  have := List.not_of_lt_findIdx h'
  simp [e] at this
theorem errNos_mem {k : Nat} (hk : k < 16) : errNos.getD k 0 ∈ errNos := by
  have hk' : k < errNos.length := hk
  rw [List.getD_eq_getElem?_getD, List.getElem?_eq_getElem hk', Option.getD_some]
  exact List.getElem_mem hk'

theorem numCells_at (w : World) (E : Nat → Addr) (k : Nat) (h : k < 16) : (w.alloc (.cells (numCells E) 31)).cell? ⟨w.heap.size, k, none⟩ = some (.iface 113 (.pointer (some (E (errNos.getD k 0))))) := by
  rw [← numCells_get E k h, World.cell?, heap_alloc_new w _]
  rfl

set_option maxRecDepth 100000 in
set_option maxHeartbeats 1600000 in
theorem num_any {G : List Nat} {E : Nat → Addr} (g : Nat) (w : World) (hE : EAt G E w) (hG : ∀ x ∈ errNos, x ∈ G) (hg : g ∈ errNos) :
    Calls Tryd.prog 31 #[.iface 113 (.pointer (some (E g)))] w fun e w' => e = .returned (.int .i64 (numI g)) ∧ Gr w w' := by
  have hj := errNos_lt hg
  have e0 := hE.c0 (hG 2 (by decide))
  have e1 := hE.c0 (hG 4 (by decide))
  have e2 := hE.c0 (hG 5 (by decide))
  have e3 := hE.c0 (hG 6 (by decide))
  have e4 := hE.c0 (hG 7 (by decide))
  have e5 := hE.c0 (hG 8 (by decide))
  have e6 := hE.c0 (hG 3 (by decide))
  have e7 := hE.c0 (hG 9 (by decide))
  have e8 := hE.c0 (hG 10 (by decide))
  have e9 := hE.c0 (hG 0 (by decide))
  have e10 := hE.c0 (hG 1 (by decide))
  have e11 := hE.c0 (hG 11 (by decide))
  have e12 := hE.c0 (hG 12 (by decide))
  have e13 := hE.c0 (hG 13 (by decide))
  have e14 := hE.c0 (hG 14 (by decide))
  have e15 := hE.c0 (hG 15 (by decide))
  go_enter Tryd.func31, Tryd.ntmps31
  have hall : ∀ k, k < 16 → (w.alloc (.cells #[(Value.iface 113 (.pointer (some (E 2)))), (Value.iface 113 (.pointer (some (E 4)))), (Value.iface 113 (.pointer (some (E 5)))), (Value.iface 113 (.pointer (some (E 6)))), (Value.iface 113 (.pointer (some (E 7)))), (Value.iface 113 (.pointer (some (E 8)))), (Value.iface 113 (.pointer (some (E 3)))), (Value.iface 113 (.pointer (some (E 9)))), (Value.iface 113 (.pointer (some (E 10)))), (Value.iface 113 (.pointer (some (E 0)))), (Value.iface 113 (.pointer (some (E 1)))), (Value.iface 113 (.pointer (some (E 11)))), (Value.iface 113 (.pointer (some (E 12)))), (Value.iface 113 (.pointer (some (E 13)))), (Value.iface 113 (.pointer (some (E 14)))), (Value.iface 113 (.pointer (some (E 15))))] 31)).cell? ⟨w.heap.size, k, none⟩ = some (.iface 113 (.pointer (some (E (errNos.getD k 0))))) := fun k hk => numCells_at w E k hk
  have hgr : Gr w (w.alloc (.cells #[(Value.iface 113 (.pointer (some (E 2)))), (Value.iface 113 (.pointer (some (E 4)))), (Value.iface 113 (.pointer (some (E 5)))), (Value.iface 113 (.pointer (some (E 6)))), (Value.iface 113 (.pointer (some (E 7)))), (Value.iface 113 (.pointer (some (E 8)))), (Value.iface 113 (.pointer (some (E 3)))), (Value.iface 113 (.pointer (some (E 9)))), (Value.iface 113 (.pointer (some (E 10)))), (Value.iface 113 (.pointer (some (E 0)))), (Value.iface 113 (.pointer (some (E 1)))), (Value.iface 113 (.pointer (some (E 11)))), (Value.iface 113 (.pointer (some (E 12)))), (Value.iface 113 (.pointer (some (E 13)))), (Value.iface 113 (.pointer (some (E 14)))), (Value.iface 113 (.pointer (some (E 15))))] 31)) := (Gr.refl w).alloc _
  replace hall := Lib.hid hall
  go_wp2_with fail
  clear e0 e1 e2 e3 e4 e5 e6 e7 e8 e9 e10 e11 e12 e13 e14 e15
  generalize w.alloc (.cells #[(Value.iface 113 (.pointer (some (E 2)))), (Value.iface 113 (.pointer (some (E 4)))), (Value.iface 113 (.pointer (some (E 5)))), (Value.iface 113 (.pointer (some (E 6)))), (Value.iface 113 (.pointer (some (E 7)))), (Value.iface 113 (.pointer (some (E 8)))), (Value.iface 113 (.pointer (some (E 3)))), (Value.iface 113 (.pointer (some (E 9)))), (Value.iface 113 (.pointer (some (E 10)))), (Value.iface 113 (.pointer (some (E 0)))), (Value.iface 113 (.pointer (some (E 1)))), (Value.iface 113 (.pointer (some (E 11)))), (Value.iface 113 (.pointer (some (E 12)))), (Value.iface 113 (.pointer (some (E 13)))), (Value.iface 113 (.pointer (some (E 14)))), (Value.iface 113 (.pointer (some (E 15))))] 31) = W at *
  go_loop [27] (fun i => ∃ k : Nat, k ≤ errNos.idxOf g ∧ i = .int .i64 k) (fun i => 16 - (intOf i).toNat)
  case atStart => exact ⟨0, Nat.zero_le _, rfl⟩
  case round =>
    obtain ⟨k, hk, rfl⟩ := hrel
    have hk16 : k < 16 := by omega
    have hcell := hall.out k hk16
    by_cases hlt : k < errNos.idxOf g
    · have heq := eql_other (hE.gr hgr) (hG _ hg) (hG _ (errNos_mem hk16)) (Ne.symm (errNos_ne hlt hk16))
      obtain ⟨q, hq⟩ : ∃ q, q = errNos.getD k 0 := ⟨_, rfl⟩
      rw [← hq] at hcell heq
      clear hq
      go_wp2_with fail
      go_round
      case rel => exact ⟨k + 1, by omega, by go_num⟩
      case measure => simp [intOf]; omega
    · obtain rfl : k = errNos.idxOf g := by omega
      rw [errNos_at hg] at hcell
      have heq := eql_same E g W
      clear hlt
      go_wp2_with fail
      go_ret
      exact ⟨ret1 rfl, hgr⟩
end Go.Proofs.YtkfkfcfbcfcbkaaDoor
