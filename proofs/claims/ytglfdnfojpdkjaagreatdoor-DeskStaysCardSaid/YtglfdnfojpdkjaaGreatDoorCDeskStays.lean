/- THE LAW DeskStays: for every input the call returns true, and each argument reads behind the call as it read before; the listed sentinels hold what their initialisers lay. -/
import Derived.Test.YtglfdnfojpdkjaaGreatDoorY7
import Derived.Test.YtglfdnfojpdkjaaGreatDoorY8
import Derived.Test.YtglfdnfojpdkjaaGreatDoorJ44
import Derived.Test.YtglfdnfojpdkjaaGreatDoorCards
import Derived.Test.YtglfdnfojpdkjaaGreatDoorTie
namespace Go.Proofs.YtglfdnfojpdkjaaGreatDoor.deskStays
open Go.ChangeShapes Go.WideShapes Go.ChangeAt Go.RowKit Go.Deep

theorem laid_eq : Rows.deskStaysRow.laid = ([(2, (Rows.deskStaysRow.laid.getD 0 default).1, [97, 108, 109, 111, 110, 101, 114, 58, 32, 110, 117, 109, 98, 101, 114]), (0, (Rows.deskStaysRow.laid.getD 1 default).1, [97, 108, 109, 111, 110, 101, 114, 58, 32, 103, 111, 110, 101]), (7, (Rows.deskStaysRow.laid.getD 2 default).1, [97, 108, 109, 111, 110, 101, 114, 58, 32, 102, 117, 108, 108]), (3, (Rows.deskStaysRow.laid.getD 3 default).1, [97, 108, 109, 111, 110, 101, 114, 58, 32, 108, 97, 114, 103, 101]), (4, (Rows.deskStaysRow.laid.getD 4 default).1, [97, 108, 109, 111, 110, 101, 114, 58, 32, 115, 101, 114, 118, 101, 114]), (6, (Rows.deskStaysRow.laid.getD 5 default).1, [97, 108, 109, 111, 110, 101, 114, 58, 32, 116, 97, 115, 107]), (5, (Rows.deskStaysRow.laid.getD 6 default).1, [97, 108, 109, 111, 110, 101, 114, 58, 32, 116, 105, 103, 104, 116]), (1, (Rows.deskStaysRow.laid.getD 7 default).1, [97, 108, 109, 111, 110, 101, 114, 58, 32, 115, 116, 97, 116, 101])] : List (Nat × String × List UInt8)).map sent := by kernel_rfl
theorem door_met (os : Os) (args : Array Value) : laidMetH Tryz.prog Rows.deskStaysRow.laid ((World.doorLaid Tryz.prog 400 os).forCall (fun _ _ => 0) ⟨#[], args, []⟩).memory := by
  rw [MakeChecks.laidMetH_plain _ _ _ (by kernel_rfl)]
  exact laidMet_of_run' 8 (by kernel_rfl) (by kernel_rfl)

set_option maxRecDepth 100000 in
theorem lifted (os : Os) (started : os.Started) (H : Type) (enc : TypeId × Value → H) :
    ReturnsInHanded {} Tryz.checked os 4 .any (fun w args => (Rows.deskStaysSpec.pre enc Tryz.prog Tryz.f4 [] false w args ∧ laidMetH Tryz.prog Rows.deskStaysRow.laid w) ∧ sizedMet enc Tryz.prog Tryz.f4 (OpenSpec.ofChange Rows.deskStaysSpec) false w args)
      (Rows.deskStaysSpec.post enc Tryz.prog Tryz.f4 false true false false) := by
  refine returnsInHanded_of_change_and (C := Tryz.checked) (X := fun w _ => laidMetH Tryz.prog Rows.deskStaysRow.laid w) (fun _ _ _ hh h => h.of_heap hh) own started (by kernel_rfl) Tryz.func4
    (ChangeSpec.witness_shaped (enc := enc) (C := Tryz.checked) (os := os) (X := fun w _ => laidMetH Tryz.prog Rows.deskStaysRow.laid w) false (World.doorLaid Tryz.prog 400 os) #[.slice none 0 0, .slice none 0 0, .agg #[.int .i64 0, .int .i64 0, .int .i64 0, .int .i64 0, .int .i64 0, .int .i64 0, .int .i64 0, .int .i64 0, .int .i64 0, .slice none 0 0, .int .i64 0]] 8 rfl (World.shaped_of_RefB (by kernel_rfl) (by kernel_rfl)) (by kernel_rfl) (by kernel_rfl) (by kernel_rfl) (door_met os _)) ?_
  intro W base args ds gs before hval0 hW _ hsz0 hL _
  have hval : ∀ (j : Nat) t v, Tryz.f4.params[j]? = some t → args[j]? = some v → Value.okWide Tryz.prog W .any base t v := hval0
  have hW' := hW
  obtain ⟨p, q, hA0, hV, rfl, hfz, hnd⟩ := hW
  have hA : DataW.TrodAll enc Tryz.prog W 0 (fun _ => true) true Tryz.f4.params.toList args.toList ds p := hA0
  rw [Tryz.params4] at hA hval
  obtain ⟨v0, vs0, d0, ds0, p0, q0, hargs, rfl, rfl, h0, r0⟩ := trodAll_cons hA
  obtain ⟨v1, vs1, d1, ds1, p1, q1, rfl, rfl, rfl, h1, r1⟩ := trodAll_cons r0
  obtain ⟨v2, vs2, d2, ds2, p2, q2, rfl, rfl, rfl, h2, r2⟩ := trodAll_cons r1
  obtain ⟨rfl, rfl, rfl⟩ := trodAll_nil r2
  obtain rfl : args = #[v0, v1, v2] := by cases args; simp_all
  obtain ⟨rfl, rfl⟩ := trodVars_none hV
  have hsz : (DataW.weightsEach Tryz.prog [22, 22, 29] [d0, d1, d2]).all (· ≤ reachBytes) = true := hsz0
  simp only [DataW.weightsEach, List.all_append, Bool.and_eq_true] at hsz
  obtain ⟨y0, y1, y2, _⟩ := hsz
  obtain ⟨a0, c0, l0, rfl, hc0, hp0, w0, hl0⟩ := open_ents2 (hval 0 22 v0 rfl rfl) h0
  obtain ⟨a1, c1, l1, rfl, hc1, hp1, w1, hl1⟩ := open_ents2 (hval 1 22 v1 rfl rfl) h1
  obtain ⟨k2, x2, rfl, i2, w2, hx2⟩ := open_q (hval 2 29 v2 rfl rfl) h2
  rw [laid_eq] at hL
  obtain ⟨E, hE⟩ := eat_of_laid _ (by kernel_rfl) (by kernel_rfl) hL
  refine (deskStays_any W hE (by decide) (by decide) (by decide) (by decide) (by decide) (by decide) a0 c0 l0 (hl0 y0).1 (fun x hx => ⟨(w0 x hx).1, (w0 x hx).2.1, (w0 x hx).2.2.1⟩) (by have h := (hl0 y0).2; unfold reachBytes at h; exact h) hp0 a1 c1 l1 (hl1 y1).1 (fun x hx => ⟨(w1 x hx).1, (w1 x hx).2.1, (w1 x hx).2.2.1⟩) (by have h := (hl1 y1).2; unfold reachBytes at h; exact h) hc1 k2 x2 ⟨w2.1, w2.2.1, w2.2.2.1⟩).mono fun e W' ⟨he, hg⟩ => ?_
  subst he
  exact ⟨_, rfl, post_law (by kernel_rfl) (by kernel_rfl) rfl ⟨rfl, rfl, rfl⟩ hW' hg⟩

theorem said : Rows.DeskStaysSaid :=
  OpenClaim.holds_of_wide 4 Tryz.f4 rfl rfl rfl rfl rfl rfl rfl ⟨rfl, rfl, rfl, rfl, rfl⟩ rfl rfl rfl rfl rfl (by kernel_rfl) Tryz.func4 (by kernel_rfl)
    (of_decide_eq_true (by kernel_rfl)) (by unfold Func.isWrapper; first | (rw [if_pos (by decide +kernel)]; kernel_rfl) | (rw [if_neg (by decide +kernel)]; exact ⟨rfl, rfl⟩))
    (fun os started H enc _ => lifted os started H enc)

theorem plain (f : FuncId) (fn : Func) (hf : Tryz.pinned.checked.prog.funcNamed Rows.deskStaysRow.func = some f) (hfn : Tryz.pinned.checked.prog.funcs[f]? = some fn) :
    false = Tryz.pinned.checked.prog.looks [] ∧ ∀ (j : Nat) t, fn.params[j]? = some t → Tryz.pinned.checked.prog.wantsStandIn t = false := by
  obtain rfl : f = 4 := Option.some.inj ((show Tryz.prog.funcNamed Rows.deskStaysRow.func = some 4 by kernel_rfl).symm.trans hf) |>.symm
  obtain rfl : fn = Tryz.f4 := (Option.some.inj (Tryz.func4.symm.trans hfn)).symm
  refine ⟨by kernel_rfl, fun j t ht => ?_⟩
  rw [Tryz.params4] at ht
  have hm : t ∈ [22, 22, 29] := by
    have := Array.mem_of_getElem? ht
    simpa using this
  have hall : ([22, 22, 29].all fun u => !Tryz.prog.wantsStandIn u) = true := by kernel_rfl
  exact (show Tryz.prog.wantsStandIn t = false by simpa using List.all_eq_true.1 hall t hm)

/-- THE CARD. -/
theorem card : Rows.DeskStaysCardSaid :=
  Claim7.holds_tied_plain_at .later [] _ _ _ _ said (fun _ h => by cases h) (by kernel_rfl) (fun _ h => by cases h) deskStays_row_tie rfl ⟨rfl, rfl⟩ (by kernel_rfl) rfl plain (by kernel_rfl)
#print axioms card
end Go.Proofs.YtglfdnfojpdkjaaGreatDoor.deskStays
