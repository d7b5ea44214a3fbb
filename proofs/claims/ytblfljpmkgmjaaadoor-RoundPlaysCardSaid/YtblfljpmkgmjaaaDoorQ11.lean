/- almonernum.Num. Printed by gen_q11.py. -/
import Derived.Test.YtblfljpmkgmjaaaDoorQ10
namespace Go.Proofs.YtblfljpmkgmjaaaDoor
open Go.RowKit

/-- The sentinels, in the order of their numbers. -/
def sentG : List Nat := [2, 4, 1, 5, 6, 7, 8, 9, 10, 11, 12, 13, 14, 15, 3, 0]
abbrev senV (E : Nat → Addr) (g : Nat) : Value := .iface 194 (.pointer (some (E g)))
set_option maxRecDepth 100000 in
set_option maxHeartbeats 1600000 in
theorem num_nil (w : World) : Calls Tryd.prog 28 #[.nilIface] w fun e w' => e = .returned (.int .i64 0) ∧ Gr w w' := by
  go_enter Tryd.func28, Tryd.ntmps28
  go_wp2_with fail
  go_ret
  exact ⟨rfl, Gr.refl _⟩
theorem sent_nodup : ∀ j k g : Nat, sentG[j]? = some g → sentG[k]? = some g → j = k := by
  intro j k g hj hk
  have h : ∀ j, j < 16 → ∀ k, k < 16 → sentG[j]? = sentG[k]? → j = k := by decide
  exact h j (get_lt hj) k (get_lt hk) (hj.trans hk.symm)
set_option maxRecDepth 100000 in
set_option maxHeartbeats 3200000 in
theorem num_err {G : List Nat} {E : Nat → Addr} (w : World) (hE : EAt G E w) (hG : ∀ g ∈ sentG, g ∈ G) (k g : Nat) (hk : sentG[k]? = some g) :
    Calls Tryd.prog 28 #[senV E g] w fun e w' => e = .returned (.int .i64 ((k : Int) + 1)) ∧ Gr w w' := by
  have l0 := hE.c0 (hG 2 (by decide))
  have l1 := hE.c0 (hG 4 (by decide))
  have l2 := hE.c0 (hG 1 (by decide))
  have l3 := hE.c0 (hG 5 (by decide))
  have l4 := hE.c0 (hG 6 (by decide))
  have l5 := hE.c0 (hG 7 (by decide))
  have l6 := hE.c0 (hG 8 (by decide))
  have l7 := hE.c0 (hG 9 (by decide))
  have l8 := hE.c0 (hG 10 (by decide))
  have l9 := hE.c0 (hG 11 (by decide))
  have l10 := hE.c0 (hG 12 (by decide))
  have l11 := hE.c0 (hG 13 (by decide))
  have l12 := hE.c0 (hG 14 (by decide))
  have l13 := hE.c0 (hG 15 (by decide))
  have l14 := hE.c0 (hG 3 (by decide))
  have l15 := hE.c0 (hG 0 (by decide))
  have hk16 : k < 16 := get_lt hk
  obtain ⟨W, hW⟩ : ∃ W, W = w.alloc (.cells #[(Value.iface 194 (.pointer (some (E 2)))), (Value.iface 194 (.pointer (some (E 4)))), (Value.iface 194 (.pointer (some (E 1)))), (Value.iface 194 (.pointer (some (E 5)))), (Value.iface 194 (.pointer (some (E 6)))), (Value.iface 194 (.pointer (some (E 7)))), (Value.iface 194 (.pointer (some (E 8)))), (Value.iface 194 (.pointer (some (E 9)))), (Value.iface 194 (.pointer (some (E 10)))), (Value.iface 194 (.pointer (some (E 11)))), (Value.iface 194 (.pointer (some (E 12)))), (Value.iface 194 (.pointer (some (E 13)))), (Value.iface 194 (.pointer (some (E 14)))), (Value.iface 194 (.pointer (some (E 15)))), (Value.iface 194 (.pointer (some (E 3)))), (Value.iface 194 (.pointer (some (E 0))))] 27) := ⟨_, rfl⟩
  have g1 : Gr w W := by rw [hW]; exact (Gr.refl w).alloc _
  have hB : Blk W w.heap.size ((sentG.map (senV E)).toArray) 27 := by rw [hW]; exact Blk.new w _ _
  have hcell : ∀ (j x : Nat), sentG[j]? = some x → W.cell? ⟨w.heap.size, j, none⟩ = some (senV E x) := fun j x hj => hB.cell (by
    have : (sentG.map (senV E))[j]? = some (senV E x) := by rw [List.getElem?_map, hj]; rfl
    simpa using this)
  have hlen : sentG.length = 16 := rfl
  have hsame := fun w => eql_same E g w
  have hoth := fun x (hx : x ∈ sentG) (hn : g ≠ x) (w' : World) (gg : Gr w w') => eql_other (hE.gr gg) (hG g (List.mem_of_getElem? hk)) (hG x hx) hn
  replace hW := Lib.hid hW
  replace hB := Lib.hid hB
  replace hcell := Lib.hid hcell
  replace hk := Lib.hid hk
  replace hlen := Lib.hid hlen
  replace hoth := Lib.hid hoth
  replace g1 := Lib.hid g1
  clear hE hG
  go_enter Tryd.func28, Tryd.ntmps28
  go_upto_region 4 with fail
  rw [← hW.out]
  go_wp2_with fail
  go_loop [27] (fun iv => ∃ j : Nat, j ≤ k ∧ iv = .int .i64 j) (fun iv => 16 - (intOf iv).toNat)
  case atStart => exact ⟨0, Nat.zero_le _, rfl⟩
  case round =>
    obtain ⟨j, hj, rfl⟩ := hrel
    have hj16 : (j : Int) < 16 := by omega
    obtain ⟨x, hx⟩ := get_some sentG j (by rw [hlen.out]; omega)
    have cj := hcell.out j x hx
    have hwr : IntKind.i64.wrap ((j : Int) + 1) = (j : Int) + 1 := by rw [IntKind.wrap_i64]; omega
    by_cases hjk : j = k
    · have hxg : x = g := by have := hk.out; rw [← hjk, hx] at this; exact Option.some.inj this
      rw [hxg] at cj
      replace hx := Lib.hid hx
      replace hxg := Lib.hid hxg
      replace hjk := Lib.hid hjk
      go_wp2_with fail
      go_ret
      exact ⟨by rw [← hjk.out]; rfl, g1.out⟩
    · have hne : g ≠ x := fun e => hjk (sent_nodup j k g (by rw [hx, e]) hk.out)
      have ho := hoth.out x (List.mem_of_getElem? hx) hne W g1.out
      replace hx := Lib.hid hx
      replace hjk := Lib.hid hjk
      replace hne := Lib.hid hne
      go_wp2_with fail
      go_round
      case rel => exact ⟨j + 1, by have := hjk.out; omega, by go_num⟩
      case measure => simp [intOf]; omega
end Go.Proofs.YtblfljpmkgmjaaaDoor
