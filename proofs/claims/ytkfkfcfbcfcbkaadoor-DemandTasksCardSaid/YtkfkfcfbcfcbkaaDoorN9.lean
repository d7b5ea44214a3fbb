/- almonerref08: Tasks; what plan and the reference tell of servers and tasks, each in one contract. -/
import Derived.Test.YtkfkfcfbcfcbkaaDoorN8
import Derived.Test.YtkfkfcfbcfcbkaaDoorA6
namespace Go.Proofs.YtkfkfcfbcfcbkaaDoor
open Go.RowKit

def srvErr (l : List Srv) : Option Nat := if allLeg l = false then some 0 else if 8 < l.length then some 3 else none
def tskErr (l : List Tsk) : Option Nat := if tasksOk l = false then some 1 else none
def numO : Option Nat → Int
  | none => 0
  | some g => numI g
def errV (E : Nat → Addr) : Option Nat → Value
  | none => .nilIface
  | some g => errAt E g
/-- The words of a share, noughts where there is an error. -/
def pw (o : Option Nat) (p : Int × Int) (i : Nat) : Int :=
  match o with
  | some _ => 0
  | none => match i with
    | 0 => hiW p.1
    | 1 => loW p.1
    | 2 => hiW p.2
    | _ => loW p.2
abbrev pv (o : Option Nat) (p : Int × Int) : Value := .agg #[.int .u64 (pw o p 0), .int .u64 (pw o p 1), .int .u64 (pw o p 2), .int .u64 (pw o p 3)]
theorem pv_some (g : Nat) (p : Int × Int) : pv (some g) p = partZ := rfl
theorem pv_none (p : Int × Int) : pv none p = partV p := rfl

theorem plan_servers {G : List Nat} {E : Nat → Addr} (a : Option Addr) (l : List Srv) (c : Nat) (w : World) (hE : EAt G E w) (hG : ∀ x ∈ errNos, x ∈ G) (hl : SrvsAt w a l) (hm : l.length ≤ maxLen) :
    Calls Tryd.prog 20 #[.slice a l.length c] w fun e w' => e = .returned (.tuple #[pv (srvErr l) (shareS l), errV E (srvErr l)]) ∧ Gr w w' := by
  unfold srvErr
  split
  · rename_i h; exact servers_no a l c w hE (hG _ (by decide)) hl hm h
  · rename_i h
    have h : allLeg l = true := by simpa using h
    split
    · rename_i h8; exact servers_full a l c w hE (hG _ (by decide)) hl hm h h8
    · rename_i h8; exact servers_yes a l c w hl h (by omega)
theorem ref_servers (a : Option Addr) (l : List Srv) (c : Nat) (w : World) (hl : SrvsAt w a l) (hm : l.length ≤ maxLen) :
    Calls Tryd.prog 29 #[.slice a l.length c] w fun e w' => e = .returned (.tuple #[pv (srvErr l) (shareS l), .int .i64 (numO (srvErr l))]) ∧ Gr w w' := by
  unfold srvErr
  split
  · rename_i h; exact rservers_no a l c w hl hm h
  · rename_i h
    have h : allLeg l = true := by simpa using h
    split
    · rename_i h8; exact rservers_full a l c w hl hm h h8
    · rename_i h8; exact rservers_yes a l c w hl h (by omega)
theorem plan_tasks {G : List Nat} {E : Nat → Addr} (a : Option Addr) (l : List Tsk) (c : Nat) (w : World) (hE : EAt G E w) (hG : ∀ x ∈ errNos, x ∈ G) (hl : TsksAt w a l) (hm : l.length ≤ maxLen) :
    Calls Tryd.prog 39 #[.slice a l.length c] w fun e w' => e = .returned (.tuple #[pv (tskErr l) (shareT l), errV E (tskErr l)]) ∧ Gr w w' := by
  unfold tskErr
  split
  · rename_i h; exact tasks_no a l c w hE (hG _ (by decide)) hl hm h
  · rename_i h
    exact tasks_yes a l c w hl (by simpa using h)
theorem num_errV {G : List Nat} {E : Nat → Addr} (o : Option Nat) (w : World) (hE : EAt G E w) (hG : ∀ x ∈ errNos, x ∈ G) (ho : ∀ g, o = some g → g ∈ errNos) :
    Calls Tryd.prog 31 #[errV E o] w fun e w' => e = .returned (.int .i64 (numO o)) ∧ Gr w w' := by
  cases o with
  | none => exact (num_nil w).mono fun _ _ ⟨h1, h2⟩ => ⟨h1, h2 ▸ Gr.refl _⟩
  | some g => exact num_any g w hE hG (ho g rfl)
theorem srvErr_mem {l : List Srv} : ∀ g, srvErr l = some g → g ∈ errNos := by
  intro g h
  unfold srvErr at h
  split at h
  · obtain rfl := Option.some.inj h; decide
  · split at h
    · obtain rfl := Option.some.inj h; decide
    · cases h
theorem tskErr_mem {l : List Tsk} : ∀ g, tskErr l = some g → g ∈ errNos := by
  intro g h
  unfold tskErr at h
  split at h
  · obtain rfl := Option.some.inj h; decide
  · cases h

theorem tskErr_bad {l : List Tsk} (h : allLegT l = false ∨ 8 < l.length) : tskErr l = some 1 := by
  unfold tskErr tasksOk
  rw [if_pos]
  rcases h with h | h
  · rw [h]; rfl
  · rw [decide_eq_false (by omega), Bool.and_false]
theorem tskErr_good {l : List Tsk} (h : allLegT l = true) (h8 : l.length ≤ 8) : tskErr l = none := by
  unfold tskErr tasksOk
  rw [if_neg]
  rw [h, decide_eq_true h8]; decide
theorem allLegT_not {l : List Tsk} {i : Nat} {s : Tsk} (hi : l[i]? = some s) (h : s.leg = false) : allLegT l = false := by
  cases hh : allLegT l
  · rfl
  · rw [allLegT_get hh hi] at h; cases h
theorem shareT_bd' (l : List Tsk) (i : Nat) (hi : i ≤ l.length) (h : allLegT (l.take i) = true) :
    0 ≤ (shareT (l.take i)).1 ∧ (shareT (l.take i)).1 ≤ i * P256 i ∧ 1 ≤ (shareT (l.take i)).2 ∧ (shareT (l.take i)).2 ≤ P256 i := by
  have := shareT_bd (l.take i) h i (by rw [List.length_take]; omega)
  rwa [List.take_take, Nat.min_self] at this

set_option maxRecDepth 100000 in
set_option maxHeartbeats 3200000 in
theorem ref_tasks (a : Option Addr) (l : List Tsk) (c : Nat) (w : World) (hl : TsksAt w a l) (hm : l.length ≤ maxLen) :
    Calls Tryd.prog 40 #[.slice a l.length c] w fun e w' => e = .returned (.tuple #[pv (tskErr l) (shareT l), .int .i64 (numO (tskErr l))]) ∧ Gr w w' := by
  unfold maxLen at hm
  go_enter Tryd.func40, Tryd.ntmps40
  go_wp2_with fail
  go_loopw [11] (fun i wx => ∃ j : Nat, j ≤ l.length ∧ (j = 0 ∨ l.length ≤ 8) ∧ allLegT (l.take j) = true ∧ i = .int .i64 j ∧ Gr w wx ∧ w.heap.size + 1 < wx.heap.size ∧ (∀ o, wx.frozen? ⟨w.heap.size, o, none⟩ = false) ∧ wx.cell? ⟨w.heap.size, 0, none⟩ = some (.int .u64 0) ∧ wx.cell? ⟨w.heap.size, 1, none⟩ = some (.int .u64 0) ∧ wx.cell? ⟨w.heap.size, 2, none⟩ = some (.int .u64 0) ∧ wx.cell? ⟨w.heap.size, 3, none⟩ = some (.int .u64 0) ∧ (∀ o, wx.frozen? ⟨w.heap.size + 1, o, none⟩ = false) ∧ wx.cell? ⟨w.heap.size + 1, 0, none⟩ = some (.int .u64 (hiW (shareT (l.take j)).1)) ∧ wx.cell? ⟨w.heap.size + 1, 1, none⟩ = some (.int .u64 (loW (shareT (l.take j)).1)) ∧ wx.cell? ⟨w.heap.size + 1, 2, none⟩ = some (.int .u64 (hiW (shareT (l.take j)).2)) ∧ wx.cell? ⟨w.heap.size + 1, 3, none⟩ = some (.int .u64 (loW (shareT (l.take j)).2))) (fun i _ => l.length - (intOf i).toNat)
  case atStart => exact ⟨0, Nat.zero_le _, .inl rfl, rfl, rfl, ((Gr.refl _).alloc _).alloc _, by simp, fun o => by simp [go_sem], by simp [go_sem], by simp [go_sem], by simp [go_sem], by simp [go_sem], fun o => by simp [go_sem], by simp [go_sem]; rfl, by simp [go_sem]; rfl, by simp [go_sem]; rfl, by simp [go_sem]; rfl⟩
  case round =>
    obtain ⟨j, hj, hj8, hal, rfl, gx, zx, qf, q0, q1, q2, q3, fx, x0, x1, x2, x3⟩ := hrel
    have zx0 : w.heap.size < wr.heap.size := by omega
    have bd := shareT_bd' l j hj hal
    replace hal := Lib.hid hal
    by_cases hlt2 : j < l.length
    · obtain ⟨s, hs⟩ := get_some l j hlt2
      obtain ⟨b, off, rfl, hb, h0, h1, h2, h3⟩ := (hl.gr gx) j s hs
      have hc := rlegalTask_any s
      by_cases h8 : 8 < l.length
      · have ht := tskErr_bad (.inr h8)
        replace ht := Lib.hid ht
        clear bd hj8
        cases hleg : s.leg
        all_goals
          rw [hleg] at hc
          replace hc := Lib.hid hc
          replace hleg := Lib.hid hleg
          go_wp2_with fail
          refine (hc.out _).mono ?_
          rintro e wa ⟨rfl, ga⟩
          obtain ⟨ca, fa, sa⟩ := ga.cells
          try simp only [World.size_alloc] at ca fa sa
          try simp only [World.size_drew] at ca fa sa
          try simp only [World.size_setCell] at ca fa sa
          have za0 : w.heap.size < wa.heap.size := by omega
          have ya0 : w.heap.size ≤ wa.heap.size := by omega
          have ka0 := fun o => ca (w.heap.size) o (by omega)
          have ja0 := fun o => fa (w.heap.size) o (by omega)
          have za1 : w.heap.size + 1 < wa.heap.size := by omega
          have ka1 := fun o => ca (w.heap.size + 1) o (by omega)
          have ja1 := fun o => fa (w.heap.size + 1) o (by omega)
          go_wp2_with fail
          refine bodyPost_ret (v := .tuple #[partZ, .int .i64 11]) (by simp (maxDischargeDepth := 8) [results, Tryd.results40, go_sem, *]) rfl ⟨by rw [ht.out]; rfl, ?_⟩
          repeat (first | exact Gr.refl _ | apply Gr.alloc | apply Gr.drew | apply Gr.drewN | (refine Gr.setCell ?_ (by simp) _) | (refine Gr.trans ?_ (by assumption)))
      · cases hleg : s.leg
        · have ht := tskErr_bad (.inl (allLegT_not hs hleg))
          replace ht := Lib.hid ht
          clear bd hj8
          rw [hleg] at hc
          replace hc := Lib.hid hc
          replace hleg := Lib.hid hleg
          go_wp2_with fail
          refine (hc.out _).mono ?_
          rintro e wa ⟨rfl, ga⟩
          obtain ⟨ca, fa, sa⟩ := ga.cells
          try simp only [World.size_alloc] at ca fa sa
          try simp only [World.size_drew] at ca fa sa
          try simp only [World.size_setCell] at ca fa sa
          have za0 : w.heap.size < wa.heap.size := by omega
          have ya0 : w.heap.size ≤ wa.heap.size := by omega
          have ka0 := fun o => ca (w.heap.size) o (by omega)
          have ja0 := fun o => fa (w.heap.size) o (by omega)
          have za1 : w.heap.size + 1 < wa.heap.size := by omega
          have ka1 := fun o => ca (w.heap.size + 1) o (by omega)
          have ja1 := fun o => fa (w.heap.size + 1) o (by omega)
          go_wp2_with fail
          refine bodyPost_ret (v := .tuple #[partZ, .int .i64 11]) (by simp (maxDischargeDepth := 8) [results, Tryd.results40, go_sem, *]) rfl ⟨by rw [ht.out]; rfl, ?_⟩
          repeat (first | exact Gr.refl _ | apply Gr.alloc | apply Gr.drew | apply Gr.drewN | (refine Gr.setCell ?_ (by simp) _) | (refine Gr.trans ?_ (by assumption)))
        · have hleg1 := (Tsk.leg_iff _).1 hleg
          obtain ⟨s1, s2, s3, s4, s5, s6, s7, s8, s9⟩ := share_step (by omega) bd ⟨hleg1.1, Int.le_trans hleg1.2.1 hleg1.2.2.1, hleg1.2.2.2.1⟩
          have hsn : shareT (l.take (j + 1)) = plusP (shareT (l.take j)) s.c s.p := by rw [take_snoc hs, shareT_snoc]
          have hal2 : allLegT (l.take (j + 1)) = true := by rw [take_snoc hs, allLegT_snoc, hal.out, hleg]; rfl
          replace hsn := Lib.hid hsn
          replace hal2 := Lib.hid hal2
          rw [hleg] at hc
          replace hc := Lib.hid hc
          replace hleg := Lib.hid hleg
          generalize shareT (l.take j) = p at *
          obtain ⟨n, d⟩ := p
          dsimp only at s1 s2 s3 s4 s5 s6 s7 s8 s9 x0 x1 x2 x3
          clear bd
          go_wp2_with fail
          refine (hc.out _).mono ?_
          rintro e wa ⟨rfl, ga⟩
          obtain ⟨ca, fa, sa⟩ := ga.cells
          try simp only [World.size_alloc] at ca fa sa
          try simp only [World.size_drew] at ca fa sa
          try simp only [World.size_setCell] at ca fa sa
          have za0 : w.heap.size < wa.heap.size := by omega
          have ya0 : w.heap.size ≤ wa.heap.size := by omega
          have ka0 := fun o => ca (w.heap.size) o (by omega)
          have ja0 := fun o => fa (w.heap.size) o (by omega)
          have za1 : w.heap.size + 1 < wa.heap.size := by omega
          have ka1 := fun o => ca (w.heap.size + 1) o (by omega)
          have ja1 := fun o => fa (w.heap.size + 1) o (by omega)
          have za2 : wr.heap.size < wa.heap.size := by omega
          have ya2 : wr.heap.size ≤ wa.heap.size := by omega
          have ka2 := fun o => ca (wr.heap.size) o (by omega)
          have ja2 := fun o => fa (wr.heap.size) o (by omega)
          go_wp2_with fail
          refine (rshare_any n d s.c s.p _ s1 s2 s3 s4 s5 s6 s7 s8 s9).mono ?_
          rintro e wp ⟨rfl, gp⟩
          obtain ⟨cp, fp, sp⟩ := gp.cells
          try simp only [World.size_alloc] at cp fp sp
          try simp only [World.size_drew] at cp fp sp
          try simp only [World.size_setCell] at cp fp sp
          have zp0 : w.heap.size < wp.heap.size := by omega
          have yp0 : w.heap.size ≤ wp.heap.size := by omega
          have kp0 := fun o => cp (w.heap.size) o (by omega)
          have jp0 := fun o => fp (w.heap.size) o (by omega)
          have zp1 : w.heap.size + 1 < wp.heap.size := by omega
          have kp1 := fun o => cp (w.heap.size + 1) o (by omega)
          have jp1 := fun o => fp (w.heap.size + 1) o (by omega)
          have zp2 : wr.heap.size < wp.heap.size := by omega
          have yp2 : wr.heap.size ≤ wp.heap.size := by omega
          have kp2 := fun o => cp (wr.heap.size) o (by omega)
          have jp2 := fun o => fp (wr.heap.size) o (by omega)
          go_wp2_with fail
          go_roundw
          case rel =>
            refine ⟨j + 1, by omega, .inr (by omega), hal2.out, by go_num, ?_, by simp; omega, fun o => by simp [go_sem, *], ?_, ?_, ?_, ?_, fun o => by simp [go_sem, *], ?_, ?_, ?_, ?_⟩
            focus
              repeat (first | exact Gr.refl _ | apply Gr.alloc | apply Gr.drew | apply Gr.drewN | (refine Gr.setCell ?_ (by simp) _) | (refine Gr.trans ?_ (by assumption)))
            all_goals (first | (simp (maxDischargeDepth := 8) [go_sem, *]; done) | (rw [hsn.out]; simp (maxDischargeDepth := 8) [go_sem, plusP, *]))
          case measure => simp [intOf]; omega
    · have hj' : j = l.length := by omega
      subst hj'
      rw [List.take_length] at x0 x1 x2 x3 hal
      have ht : tskErr l = none := tskErr_good hal.out (by rcases hj8 with h | h <;> omega)
      replace ht := Lib.hid ht
      go_wp2_with fail
      refine bodyPost_ret (v := .tuple #[partV (shareT l), .int .i64 0]) (by simp (maxDischargeDepth := 8) [results, Tryd.results40, go_sem, *]) rfl ⟨by rw [ht.out]; rfl, ?_⟩
      repeat (first | exact Gr.refl _ | apply Gr.alloc | apply Gr.drew | apply Gr.drewN | (refine Gr.setCell ?_ (by simp) _) | (refine Gr.trans ?_ (by assumption)))
end Go.Proofs.YtkfkfcfbcfcbkaaDoor
