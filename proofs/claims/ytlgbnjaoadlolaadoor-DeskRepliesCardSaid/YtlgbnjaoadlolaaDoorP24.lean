/- desk: checkReply, PutReply, Refuse; almonerref20: ReplyInForm, PutReply, SameReply. -/
import Derived.Test.YtlgbnjaoadlolaaDoorP23
import Derived.Test.YtlgbnjaoadlolaaDoorL6
namespace Go.Proofs.YtlgbnjaoadlolaaDoor
open Go.RowKit

def repN (r : Rep) : List Int := [r.cl, r.nu, r.co, r.id]
def allN (l : List Int) : Bool := l.all fun n => decide (0 ≤ n ∧ n ≤ 1099511627776)
/-- An answer in form, and its payload. -/
def repF (r : Rep) : Bool := allN (repN r) && decide (r.tree.length ≤ 16000)
def repB (r : Rep) : List UInt8 := listB (repN r) ++ (numB r.tree.length ++ r.tree)
theorem okN_nums {l : List Int} (h : allN l = true) : Nums l := fun n hn => by
  unfold allN at h
  exact of_decide_eq_true (List.all_eq_true.1 h n hn)
theorem okN_bad {l : List Int} {k : Nat} {v : Int} (hv : l[k]? = some v) (h : ¬ (0 ≤ v ∧ v ≤ 1099511627776)) : allN l = false := by
  unfold allN
  rw [List.all_eq_false]
  exact ⟨v, List.mem_of_getElem? hv, by simpa using h⟩
theorem okN_all {l : List Int} (h : ∀ (k : Nat) (v : Int), l[k]? = some v → 0 ≤ v ∧ v ≤ 1099511627776) : allN l = true := by
  unfold allN
  rw [List.all_eq_true]
  intro n hn
  obtain ⟨k, hk⟩ := List.mem_iff_getElem?.1 hn
  exact decide_eq_true (h k n hk)
set_option maxRecDepth 100000 in
set_option maxHeartbeats 3200000 in
theorem checkReply_any {G : List Nat} {E : Nat → Addr} (w : World) (hE : EAt G E w) (i0 : 0 ∈ G) (r : Rep) (a : Option Addr) (c : Nat) :
    Calls Tryd.prog 25 #[.agg #[.int .i64 r.cl, .int .i64 r.nu, .int .i64 r.co, .int .i64 r.id, .slice a r.tree.length c]] w fun e w' => e = .returned (entV E (repF r)) ∧ Gr w w' := by
  obtain ⟨N, hN⟩ : ∃ N, N = repN r := ⟨_, rfl⟩
  have hNl : N.length = 4 := by rw [hN]; rfl
  have hF : repF r = (allN N && decide (r.tree.length ≤ 16000)) := by rw [hN]; rfl
  obtain ⟨F, hFF⟩ : ∃ F, repF r = F := ⟨_, rfl⟩
  rw [hFF] at hF ⊢
  have gw : Gr w (w.alloc (.cells #[.int .i64 r.cl, .int .i64 r.nu, .int .i64 r.co, .int .i64 r.id, .slice a r.tree.length c] 24)) := (Gr.refl w).alloc _
  have he := (hE.gr gw).c0 i0
  replace hN := Lib.hid hN
  replace hF := Lib.hid hF
  replace hFF := Lib.hid hFF
  go_enter Tryd.func25, Tryd.ntmps25
  go_wp2_with fail
  go_loop [14] (fun kv => ∃ k : Nat, k ≤ 4 ∧ kv = .int .i64 k ∧ Hid (∀ j v, j < k → N[j]? = some v → 0 ≤ v ∧ v ≤ 1099511627776)) (fun kv => 4 - (intOf kv).toNat)
  case atStart => exact ⟨0, by omega, rfl, Lib.hid (fun j v h => by omega)⟩
  case round =>
    obtain ⟨k, hk, rfl, hall⟩ := hrel
    by_cases hlt : k < 4
    · have hlt2 : (k : Int) < 4 := by omega
      obtain ⟨v, hv⟩ := get_some N k (by omega)
      have hcs : (#[.int .i64 r.cl, .int .i64 r.nu, .int .i64 r.co, .int .i64 r.id] : Array Value)[k]? = some (.int .i64 v) := by
        have hv2 := hv
        rw [hN.out] at hv2
        show ((repN r).map (Value.int .i64)).toArray[k]? = _
        rw [List.getElem?_toArray, List.getElem?_map, hv2]
        rfl
      have hix := fun w => idx_run w Tryd.underlying62 hlt hcs
      replace hcs := Lib.hid hcs
      by_cases hgood : 0 ≤ v ∧ v ≤ 1099511627776
      · have hall2 : ∀ j v, j < k + 1 → N[j]? = some v → 0 ≤ v ∧ v ≤ 1099511627776 := fun j x hj hx => by
          by_cases hjk : j < k
          · exact hall.out j x hjk hx
          · obtain rfl : j = k := by omega
            rw [hv] at hx; cases hx; exact hgood
        obtain ⟨h1, h2⟩ := hgood
        replace hall2 := Lib.hid hall2
        replace hv := Lib.hid hv
        go_wp2_with fail
        go_round
        case rel => exact ⟨k + 1, by omega, by go_num, hall2⟩
        case measure => simp [intOf]; omega
      · have hbad : F = false := by rw [hF.out, okN_bad hv hgood]; rfl
        replace hv := Lib.hid hv
        replace hbad := Lib.hid hbad
        by_cases h1 : v < 0
        · clear hgood
          go_wp2_with fail
          go_ret
          exact ⟨by rw [hbad.out]; rfl, gw⟩
        · have h2 : 1099511627776 < v := by omega
          clear hgood
          go_wp2_with fail
          go_ret
          exact ⟨by rw [hbad.out]; rfl, gw⟩
    · have hk4 : k = 4 := by omega
      have hk4b : decide ((k : Int) < 4) = false := decide_eq_false (by omega)
      have hok : allN N = true := okN_all fun j v hj => hall.out j v (by have := get_lt hj; omega) hj
      have hF2 := hF.out
      rw [hok, Bool.true_and] at hF2
      replace hok := Lib.hid hok
      replace hk4 := Lib.hid hk4
      by_cases ht : r.tree.length ≤ 16000
      · rw [decide_eq_true ht] at hF2
        replace hF2 := Lib.hid hF2
        have ht2 : ¬ (16000 : Int) < r.tree.length := by omega
        go_wp2_with fail
        go_ret
        exact ⟨by rw [hF2.out]; rfl, gw⟩
      · rw [decide_eq_false ht] at hF2
        replace hF2 := Lib.hid hF2
        have ht2 : (16000 : Int) < r.tree.length := by omega
        go_wp2_with fail
        go_ret
        exact ⟨by rw [hF2.out]; rfl, gw⟩
set_option maxRecDepth 100000 in
set_option maxHeartbeats 3200000 in
theorem rInForm_any (w : World) (r : Rep) (a : Option Addr) (c : Nat) :
    Calls Tryd.prog 13 #[.agg #[.int .i64 r.cl, .int .i64 r.nu, .int .i64 r.co, .int .i64 r.id, .slice a r.tree.length c]] w fun e w' => e = .returned (.bool (repF r)) ∧ Gr w w' := by
  obtain ⟨N, hN⟩ : ∃ N, N = repN r := ⟨_, rfl⟩
  have hNl : N.length = 4 := by rw [hN]; rfl
  have hF : repF r = (allN N && decide (r.tree.length ≤ 16000)) := by rw [hN]; rfl
  obtain ⟨F, hFF⟩ : ∃ F, repF r = F := ⟨_, rfl⟩
  rw [hFF] at hF ⊢
  have gw : Gr w ((w.alloc (.cells #[.int .i64 r.cl, .int .i64 r.nu, .int .i64 r.co, .int .i64 r.id, .slice a r.tree.length c] 24)).alloc (.cells #[.int .i64 r.cl, .int .i64 r.nu, .int .i64 r.co, .int .i64 r.id] 3)) := ((Gr.refl w).alloc _).alloc _
  have hbk : Blk ((w.alloc (.cells #[.int .i64 r.cl, .int .i64 r.nu, .int .i64 r.co, .int .i64 r.id, .slice a r.tree.length c] 24)).alloc (.cells #[.int .i64 r.cl, .int .i64 r.nu, .int .i64 r.co, .int .i64 r.id] 3)) (w.heap.size + 1) #[.int .i64 r.cl, .int .i64 r.nu, .int .i64 r.co, .int .i64 r.id] 3 := Blk.new1 (by simp)
  replace hN := Lib.hid hN
  replace hF := Lib.hid hF
  replace hFF := Lib.hid hFF
  replace hbk := Lib.hid hbk
  go_enter Tryd.func13, Tryd.ntmps13
  go_wp2_with fail
  go_loop [15] (fun kv => ∃ k : Nat, k ≤ 4 ∧ kv = .int .i64 k ∧ Hid (∀ j v, j < k → N[j]? = some v → 0 ≤ v ∧ v ≤ 1099511627776)) (fun kv => 4 - (intOf kv).toNat)
  case atStart => exact ⟨0, by omega, rfl, Lib.hid (fun j v h => by omega)⟩
  case round =>
    obtain ⟨k, hk, rfl, hall⟩ := hrel
    by_cases hlt : k < 4
    · have hlt2 : (k : Int) < 4 := by omega
      obtain ⟨v, hv⟩ := get_some N k (by omega)
      have hcs : (#[.int .i64 r.cl, .int .i64 r.nu, .int .i64 r.co, .int .i64 r.id] : Array Value)[k]? = some (.int .i64 v) := by
        have hv2 := hv
        rw [hN.out] at hv2
        show ((repN r).map (Value.int .i64)).toArray[k]? = _
        rw [List.getElem?_toArray, List.getElem?_map, hv2]
        rfl
      have hcl := hbk.out.cell hcs
      replace hcs := Lib.hid hcs
      by_cases hgood : 0 ≤ v ∧ v ≤ 1099511627776
      · have hall2 : ∀ j v, j < k + 1 → N[j]? = some v → 0 ≤ v ∧ v ≤ 1099511627776 := fun j x hj hx => by
          by_cases hjk : j < k
          · exact hall.out j x hjk hx
          · obtain rfl : j = k := by omega
            rw [hv] at hx; cases hx; exact hgood
        obtain ⟨h1, h2⟩ := hgood
        replace hall2 := Lib.hid hall2
        replace hv := Lib.hid hv
        go_wp2_with fail
        go_round
        case rel => exact ⟨k + 1, by omega, by go_num, hall2⟩
        case measure => simp [intOf]; omega
      · have hbad : F = false := by rw [hF.out, okN_bad hv hgood]; rfl
        replace hv := Lib.hid hv
        replace hbad := Lib.hid hbad
        by_cases h1 : v < 0
        · clear hgood
          go_wp2_with fail
          go_ret
          exact ⟨retb hbad.out.symm, gw⟩
        · have h2 : 1099511627776 < v := by omega
          clear hgood
          go_wp2_with fail
          go_ret
          exact ⟨retb hbad.out.symm, gw⟩
    · have hk4 : k = 4 := by omega
      have hk4b : decide ((k : Int) < 4) = false := decide_eq_false (by omega)
      have hok : allN N = true := okN_all fun j v hj => hall.out j v (by have := get_lt hj; omega) hj
      have hF2 := hF.out
      rw [hok, Bool.true_and] at hF2
      replace hok := Lib.hid hok
      replace hk4 := Lib.hid hk4
      by_cases ht : r.tree.length ≤ 16000
      · rw [decide_eq_true ht] at hF2
        replace hF2 := Lib.hid hF2
        have ht2 : (r.tree.length : Int) ≤ 16000 := by omega
        go_wp2_with fail
        go_ret
        exact ⟨retb (by rw [hF2.out]), gw⟩
      · rw [decide_eq_false ht] at hF2
        replace hF2 := Lib.hid hF2
        have ht2 : ¬ (r.tree.length : Int) ≤ 16000 := by omega
        go_wp2_with fail
        go_ret
        exact ⟨retb (by rw [hF2.out]), gw⟩
end Go.Proofs.YtlgbnjaoadlolaaDoor
