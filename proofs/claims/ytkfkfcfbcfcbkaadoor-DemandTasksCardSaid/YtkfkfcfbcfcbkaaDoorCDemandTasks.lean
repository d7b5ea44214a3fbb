/- THE LAW DemandTasks: for every input the call returns true, and each argument reads behind the call as it read before; the listed sentinels hold what their initialisers lay. -/
import Derived.Test.YtkfkfcfbcfcbkaaDoorB10
import Derived.Test.YtkfkfcfbcfcbkaaDoorL2
import Derived.Test.YtkfkfcfbcfcbkaaDoorCards
import Derived.Test.YtkfkfcfbcfcbkaaDoorTie
namespace Go.Proofs.YtkfkfcfbcfcbkaaDoor.demandTasks
open Go.ChangeShapes Go.WideShapes Go.ChangeAt Go.RowKit Go.Deep

theorem laid_eq : Rows.demandTasksRow.laid = ([(2, (Rows.demandTasksRow.laid.getD 0 default).1, [97, 108, 109, 111, 110, 101, 114, 58, 32, 110, 117, 109, 98, 101, 114]), (4, (Rows.demandTasksRow.laid.getD 1 default).1, [97, 108, 109, 111, 110, 101, 114, 58, 32, 111, 118, 101, 114]), (5, (Rows.demandTasksRow.laid.getD 2 default).1, [97, 108, 109, 111, 110, 101, 114, 58, 32, 98, 121, 116, 101, 115]), (6, (Rows.demandTasksRow.laid.getD 3 default).1, [97, 108, 109, 111, 110, 101, 114, 58, 32, 115, 117, 109]), (7, (Rows.demandTasksRow.laid.getD 4 default).1, [97, 108, 109, 111, 110, 101, 114, 58, 32, 103, 111, 110, 101]), (8, (Rows.demandTasksRow.laid.getD 5 default).1, [97, 108, 109, 111, 110, 101, 114, 58, 32, 116, 104, 101, 114, 101]), (3, (Rows.demandTasksRow.laid.getD 6 default).1, [97, 108, 109, 111, 110, 101, 114, 58, 32, 102, 117, 108, 108]), (9, (Rows.demandTasksRow.laid.getD 7 default).1, [97, 108, 109, 111, 110, 101, 114, 58, 32, 108, 97, 114, 103, 101]), (10, (Rows.demandTasksRow.laid.getD 8 default).1, [97, 108, 109, 111, 110, 101, 114, 58, 32, 108, 111, 115, 116]), (0, (Rows.demandTasksRow.laid.getD 9 default).1, [97, 108, 109, 111, 110, 101, 114, 58, 32, 115, 101, 114, 118, 101, 114]), (1, (Rows.demandTasksRow.laid.getD 10 default).1, [97, 108, 109, 111, 110, 101, 114, 58, 32, 116, 97, 115, 107]), (11, (Rows.demandTasksRow.laid.getD 11 default).1, [97, 108, 109, 111, 110, 101, 114, 58, 32, 116, 105, 103, 104, 116]), (12, (Rows.demandTasksRow.laid.getD 12 default).1, [97, 108, 109, 111, 110, 101, 114, 58, 32, 100, 101, 101, 112]), (13, (Rows.demandTasksRow.laid.getD 13 default).1, [97, 108, 109, 111, 110, 101, 114, 58, 32, 98, 117, 115, 121]), (14, (Rows.demandTasksRow.laid.getD 14 default).1, [97, 108, 109, 111, 110, 101, 114, 58, 32, 98, 97, 108, 108, 111, 116]), (15, (Rows.demandTasksRow.laid.getD 15 default).1, [97, 108, 109, 111, 110, 101, 114, 58, 32, 115, 116, 97, 116, 101])] : List (Nat × String × List UInt8)).map sent := by kernel_rfl
theorem door_met (os : Os) (args : Array Value) : laidMetH Tryd.prog Rows.demandTasksRow.laid ((World.doorLaid Tryd.prog 400 os).forCall (fun _ _ => 0) ⟨#[], args, []⟩).memory := by
  rw [MakeChecks.laidMetH_plain _ _ _ (by kernel_rfl)]
  exact laidMet_of_run' 8 (by kernel_rfl) (by kernel_rfl)

set_option maxRecDepth 100000 in
theorem lifted (os : Os) (started : os.Started) (H : Type) (enc : TypeId × Value → H) :
    ReturnsInHanded {} Tryd.checked os 13 .any (fun w args => (Rows.demandTasksSpec.pre enc Tryd.prog Tryd.f13 [] false w args ∧ laidMetH Tryd.prog Rows.demandTasksRow.laid w) ∧ sizedMet enc Tryd.prog Tryd.f13 (OpenSpec.ofChange Rows.demandTasksSpec) false w args)
      (Rows.demandTasksSpec.post enc Tryd.prog Tryd.f13 false true false false) := by
  refine returnsInHanded_of_change_and (C := Tryd.checked) (X := fun w _ => laidMetH Tryd.prog Rows.demandTasksRow.laid w) (fun _ _ _ hh h => h.of_heap hh) own started (by kernel_rfl) Tryd.func13
    (ChangeSpec.witness_shaped (enc := enc) (C := Tryd.checked) (os := os) (X := fun w _ => laidMetH Tryd.prog Rows.demandTasksRow.laid w) false (World.doorLaid Tryd.prog 400 os) #[.slice none 0 0, .int .i64 0, .int .i64 0] 8 rfl (World.shaped_of_RefB (by kernel_rfl) (by kernel_rfl)) (by kernel_rfl) (by kernel_rfl) (by kernel_rfl) (door_met os _)) ?_
  intro W base args ds gs before hval0 hW _ hsz0 hL _
  have hval : ∀ (j : Nat) t v, Tryd.f13.params[j]? = some t → args[j]? = some v → Value.okWide Tryd.prog W .any base t v := hval0
  have hW' := hW
  obtain ⟨p, q, hA0, hV, rfl, hfz, hnd⟩ := hW
  have hA : DataW.TrodAll enc Tryd.prog W 0 (fun _ => true) true Tryd.f13.params.toList args.toList ds p := hA0
  rw [Tryd.params13] at hA hval
  obtain ⟨v0, vs0, d0, ds0, p0, q0, hargs, rfl, rfl, h0, r0⟩ := trodAll_cons hA
  obtain ⟨v1, vs1, d1, ds1, p1, q1, rfl, rfl, rfl, h1, r1⟩ := trodAll_cons r0
  obtain ⟨v2, vs2, d2, ds2, p2, q2, rfl, rfl, rfl, h2, r2⟩ := trodAll_cons r1
  obtain ⟨rfl, rfl, rfl⟩ := trodAll_nil r2
  obtain rfl : args = #[v0, v1, v2] := by cases args; simp_all
  obtain ⟨rfl, rfl⟩ := trodVars_none hV
  have hsz : (DataW.weightsEach Tryd.prog [29, 3, 3] [d0, d1, d2]).all (· ≤ reachBytes) = true := hsz0
  simp only [DataW.weightsEach, List.all_append, Bool.and_eq_true] at hsz
  obtain ⟨y0, y1, y2, _⟩ := hsz
  obtain ⟨a0, c0, l0, rfl, hl0, hc0, z0, w0⟩ := open_tsks (hval 0 29 v0 rfl rfl) h0
  obtain ⟨n1, rfl, w1⟩ := open_i64 (hval 1 3 v1 rfl rfl) h1
  obtain ⟨n2, rfl, w2⟩ := open_i64 (hval 2 3 v2 rfl rfl) h2
  rw [laid_eq] at hL
  obtain ⟨E, hE⟩ := eat_of_laid _ (by kernel_rfl) (by kernel_rfl) hL
  refine (demandTasks_walk a0 l0 c0 n1 n2 W hE (by decide) hl0 (z0 y0) hc0).mono fun e W' ⟨he, hg⟩ => ?_
  subst he
  exact ⟨_, rfl, post_law (by kernel_rfl) (by kernel_rfl) rfl ⟨rfl, rfl, rfl⟩ hW' hg⟩

theorem said : Rows.DemandTasksSaid :=
  OpenClaim.holds_of_wide 13 Tryd.f13 rfl rfl rfl rfl rfl rfl rfl ⟨rfl, rfl, rfl, rfl, rfl⟩ rfl rfl rfl rfl rfl (by kernel_rfl) Tryd.func13 (by kernel_rfl)
    (of_decide_eq_true (by kernel_rfl)) (by unfold Func.isWrapper; first | (rw [if_pos (by decide +kernel)]; kernel_rfl) | (rw [if_neg (by decide +kernel)]; exact ⟨rfl, rfl⟩))
    (fun os started H enc _ => lifted os started H enc)

theorem plain (f : FuncId) (fn : Func) (hf : Tryd.pinned.checked.prog.funcNamed Rows.demandTasksRow.func = some f) (hfn : Tryd.pinned.checked.prog.funcs[f]? = some fn) :
    true = Tryd.pinned.checked.prog.looks [] ∧ ∀ (j : Nat) t, fn.params[j]? = some t → Tryd.pinned.checked.prog.wantsStandIn t = false := by
  obtain rfl : f = 13 := Option.some.inj ((show Tryd.prog.funcNamed Rows.demandTasksRow.func = some 13 by kernel_rfl).symm.trans hf) |>.symm
  obtain rfl : fn = Tryd.f13 := (Option.some.inj (Tryd.func13.symm.trans hfn)).symm
  refine ⟨by kernel_rfl, fun j t ht => ?_⟩
  rw [Tryd.params13] at ht
  have hm : t ∈ [29, 3, 3] := by
    have := Array.mem_of_getElem? ht
    simpa using this
  have hall : ([29, 3, 3].all fun u => !Tryd.prog.wantsStandIn u) = true := by kernel_rfl
  exact (show Tryd.prog.wantsStandIn t = false by simpa using List.all_eq_true.1 hall t hm)

/-- THE CARD. -/
theorem card : Rows.DemandTasksCardSaid :=
  Claim7.holds_tied_plain_at .later [] _ _ _ _ said (fun _ h => by cases h) (by kernel_rfl) (fun _ h => by cases h) demandTasks_row_tie rfl ⟨rfl, rfl⟩ (by kernel_rfl) rfl plain (by kernel_rfl)
#print axioms card
end Go.Proofs.YtkfkfcfbcfcbkaaDoor.demandTasks
