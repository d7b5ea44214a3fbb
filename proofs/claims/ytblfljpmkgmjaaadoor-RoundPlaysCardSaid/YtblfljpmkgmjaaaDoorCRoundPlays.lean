/- THE LAW RoundPlays: for every input the call returns true, and each argument reads behind the call as it read before; the listed sentinels hold what their initialisers lay. -/
import Derived.Test.YtblfljpmkgmjaaaDoorQ32
import Derived.Test.YtblfljpmkgmjaaaDoorL3
import Derived.Test.YtblfljpmkgmjaaaDoorCards
import Derived.Test.YtblfljpmkgmjaaaDoorTie
namespace Go.Proofs.YtblfljpmkgmjaaaDoor.roundPlays
open Go.ChangeShapes Go.WideShapes Go.ChangeAt Go.RowKit Go.Deep

theorem laid_eq : Rows.roundPlaysRow.laid = ([(2, (Rows.roundPlaysRow.laid.getD 0 default).1, [97, 108, 109, 111, 110, 101, 114, 58, 32, 110, 117, 109, 98, 101, 114]), (4, (Rows.roundPlaysRow.laid.getD 1 default).1, [97, 108, 109, 111, 110, 101, 114, 58, 32, 111, 118, 101, 114]), (1, (Rows.roundPlaysRow.laid.getD 2 default).1, [97, 108, 109, 111, 110, 101, 114, 58, 32, 98, 121, 116, 101, 115]), (5, (Rows.roundPlaysRow.laid.getD 3 default).1, [97, 108, 109, 111, 110, 101, 114, 58, 32, 115, 117, 109]), (6, (Rows.roundPlaysRow.laid.getD 4 default).1, [97, 108, 109, 111, 110, 101, 114, 58, 32, 103, 111, 110, 101]), (7, (Rows.roundPlaysRow.laid.getD 5 default).1, [97, 108, 109, 111, 110, 101, 114, 58, 32, 116, 104, 101, 114, 101]), (8, (Rows.roundPlaysRow.laid.getD 6 default).1, [97, 108, 109, 111, 110, 101, 114, 58, 32, 102, 117, 108, 108]), (9, (Rows.roundPlaysRow.laid.getD 7 default).1, [97, 108, 109, 111, 110, 101, 114, 58, 32, 108, 97, 114, 103, 101]), (10, (Rows.roundPlaysRow.laid.getD 8 default).1, [97, 108, 109, 111, 110, 101, 114, 58, 32, 108, 111, 115, 116]), (11, (Rows.roundPlaysRow.laid.getD 9 default).1, [97, 108, 109, 111, 110, 101, 114, 58, 32, 115, 101, 114, 118, 101, 114]), (12, (Rows.roundPlaysRow.laid.getD 10 default).1, [97, 108, 109, 111, 110, 101, 114, 58, 32, 116, 97, 115, 107]), (13, (Rows.roundPlaysRow.laid.getD 11 default).1, [97, 108, 109, 111, 110, 101, 114, 58, 32, 116, 105, 103, 104, 116]), (14, (Rows.roundPlaysRow.laid.getD 12 default).1, [97, 108, 109, 111, 110, 101, 114, 58, 32, 100, 101, 101, 112]), (15, (Rows.roundPlaysRow.laid.getD 13 default).1, [97, 108, 109, 111, 110, 101, 114, 58, 32, 98, 117, 115, 121]), (3, (Rows.roundPlaysRow.laid.getD 14 default).1, [97, 108, 109, 111, 110, 101, 114, 58, 32, 98, 97, 108, 108, 111, 116]), (0, (Rows.roundPlaysRow.laid.getD 15 default).1, [97, 108, 109, 111, 110, 101, 114, 58, 32, 115, 116, 97, 116, 101])] : List (Nat × String × List UInt8)).map sent := by kernel_rfl
theorem door_met (os : Os) (args : Array Value) : laidMetH Tryd.prog Rows.roundPlaysRow.laid ((World.doorLaid Tryd.prog 400 os).forCall (fun _ _ => 0) ⟨#[], args, []⟩).memory := by
  rw [MakeChecks.laidMetH_plain _ _ _ (by kernel_rfl)]
  exact laidMet_of_run' 8 (by kernel_rfl) (by kernel_rfl)

set_option maxRecDepth 100000 in
theorem lifted (os : Os) (started : os.Started) (H : Type) (enc : TypeId × Value → H) :
    ReturnsInHanded {} Tryd.checked os 6 .any (fun w args => (Rows.roundPlaysSpec.pre enc Tryd.prog Tryd.f6 [] false w args ∧ laidMetH Tryd.prog Rows.roundPlaysRow.laid w) ∧ sizedMet enc Tryd.prog Tryd.f6 (OpenSpec.ofChange Rows.roundPlaysSpec) false w args)
      (Rows.roundPlaysSpec.post enc Tryd.prog Tryd.f6 false true false false) := by
  refine returnsInHanded_of_change_and (C := Tryd.checked) (X := fun w _ => laidMetH Tryd.prog Rows.roundPlaysRow.laid w) (fun _ _ _ hh h => h.of_heap hh) own started (by kernel_rfl) Tryd.func6
    (ChangeSpec.witness_shaped (enc := enc) (C := Tryd.checked) (os := os) (X := fun w _ => laidMetH Tryd.prog Rows.roundPlaysRow.laid w) false (World.doorLaid Tryd.prog 400 os) #[.int .i64 0, .agg #[.int .i64 0, .int .i64 0, .int .i64 0, .int .i64 0, .int .i64 0, .int .i64 0, .int .i64 0, .int .i64 0, .slice none 0 0, .int .i64 0], .slice none 0 0] 8 rfl (World.shaped_of_RefB (by kernel_rfl) (by kernel_rfl)) (by kernel_rfl) (by kernel_rfl) (by kernel_rfl) (door_met os _)) ?_
  intro W base args ds gs before hval0 hW _ hsz0 hL _
  have hval : ∀ (j : Nat) t v, Tryd.f6.params[j]? = some t → args[j]? = some v → Value.okWide Tryd.prog W .any base t v := hval0
  have hW' := hW
  obtain ⟨p, q, hA0, hV, rfl, hfz, hnd⟩ := hW
  have hA : DataW.TrodAll enc Tryd.prog W 0 (fun _ => true) true Tryd.f6.params.toList args.toList ds p := hA0
  rw [Tryd.params6] at hA hval
  obtain ⟨v0, vs0, d0, ds0, p0, q0, hargs, rfl, rfl, h0, r0⟩ := trodAll_cons hA
  obtain ⟨v1, vs1, d1, ds1, p1, q1, rfl, rfl, rfl, h1, r1⟩ := trodAll_cons r0
  obtain ⟨v2, vs2, d2, ds2, p2, q2, rfl, rfl, rfl, h2, r2⟩ := trodAll_cons r1
  obtain ⟨rfl, rfl, rfl⟩ := trodAll_nil r2
  obtain rfl : args = #[v0, v1, v2] := by cases args; simp_all
  obtain ⟨rfl, rfl⟩ := trodVars_none hV
  have hsz : (DataW.weightsEach Tryd.prog [3, 36, 57] [d0, d1, d2]).all (· ≤ reachBytes) = true := hsz0
  simp only [DataW.weightsEach, List.all_append, Bool.and_eq_true] at hsz
  obtain ⟨y0, y1, y2, _⟩ := hsz
  obtain ⟨n0, rfl, w0⟩ := open_i64 (hval 0 3 v0 rfl rfl) h0
  obtain ⟨x1, rfl, w1, hx1⟩ := open_ent (hval 1 36 v1 rfl rfl) h1
  obtain ⟨a2, c2, l2, rfl, hs2, w2, z2, hw2⟩ := open_ops (hval 2 57 v2 rfl rfl) h2
  rw [laid_eq] at hL
  obtain ⟨E, hE⟩ := eat_of_laid _ (by kernel_rfl) (by kernel_rfl) hL
  refine (roundPlays_any W hE (by decide) n0 x1 (hx1 y1) a2 c2 l2 hs2 (by have := (hw2 y2).1; unfold reachBytes at this; exact this) (hw2 y2).2).mono fun e W' ⟨he, hg⟩ => ?_
  subst he
  exact ⟨_, rfl, post_law (by kernel_rfl) (by kernel_rfl) rfl ⟨rfl, rfl, rfl⟩ hW' hg⟩

theorem said : Rows.RoundPlaysSaid :=
  OpenClaim.holds_of_wide 6 Tryd.f6 rfl rfl rfl rfl rfl rfl rfl ⟨rfl, rfl, rfl, rfl, rfl⟩ rfl rfl rfl rfl rfl (by kernel_rfl) Tryd.func6 (by kernel_rfl)
    (of_decide_eq_true (by kernel_rfl)) (by unfold Func.isWrapper; first | (rw [if_pos (by decide +kernel)]; kernel_rfl) | (rw [if_neg (by decide +kernel)]; exact ⟨rfl, rfl⟩))
    (fun os started H enc _ => lifted os started H enc)

theorem plain (f : FuncId) (fn : Func) (hf : Tryd.pinned.checked.prog.funcNamed Rows.roundPlaysRow.func = some f) (hfn : Tryd.pinned.checked.prog.funcs[f]? = some fn) :
    true = Tryd.pinned.checked.prog.looks [] ∧ ∀ (j : Nat) t, fn.params[j]? = some t → Tryd.pinned.checked.prog.wantsStandIn t = false := by
  obtain rfl : f = 6 := Option.some.inj ((show Tryd.prog.funcNamed Rows.roundPlaysRow.func = some 6 by kernel_rfl).symm.trans hf) |>.symm
  obtain rfl : fn = Tryd.f6 := (Option.some.inj (Tryd.func6.symm.trans hfn)).symm
  refine ⟨by kernel_rfl, fun j t ht => ?_⟩
  rw [Tryd.params6] at ht
  have hm : t ∈ [3, 36, 57] := by
    have := Array.mem_of_getElem? ht
    simpa using this
  have hall : ([3, 36, 57].all fun u => !Tryd.prog.wantsStandIn u) = true := by kernel_rfl
  exact (show Tryd.prog.wantsStandIn t = false by simpa using List.all_eq_true.1 hall t hm)

/-- THE CARD. -/
theorem card : Rows.RoundPlaysCardSaid :=
  Claim7.holds_tied_plain_at .later [] _ _ _ _ said (fun _ h => by cases h) (by kernel_rfl) (fun _ h => by cases h) roundPlays_row_tie rfl ⟨rfl, rfl⟩ (by kernel_rfl) rfl plain (by kernel_rfl)
#print axioms card
end Go.Proofs.YtblfljpmkgmjaaaDoor.roundPlays
