/- THE LAW VoterNumbers: for every input the call returns true, and each argument reads behind the call as it read before; the listed sentinels hold what their initialisers lay. -/
import Derived.Test.YteigofaccjaobaaGreatDoorKK19
import Derived.Test.YteigofaccjaobaaGreatDoorCards
import Derived.Test.YteigofaccjaobaaGreatDoorTie
namespace Go.Proofs.YteigofaccjaobaaGreatDoor.voterNumbers
open Go.ChangeShapes Go.WideShapes Go.ChangeAt Go.RowKit Go.Deep
theorem laid_eq:Rows.voterNumbersRow.laid = ([(1,(Rows.voterNumbersRow.laid.getD 0 default).1,[97,108,109,111,110,101,114,58,32,110,117,109,98,101,114]),(3,(Rows.voterNumbersRow.laid.getD 1 default).1,[97,108,109,111,110,101,114,58,32,98,121,116,101,115]),(9,(Rows.voterNumbersRow.laid.getD 2 default).1,[97,108,109,111,110,101,114,58,32,115,117,109]),(7,(Rows.voterNumbersRow.laid.getD 3 default).1,[97,108,109,111,110,101,114,58,32,103,111,110,101]),(2,(Rows.voterNumbersRow.laid.getD 4 default).1,[97,108,109,111,110,101,114,58,32,102,117,108,108]),(5,(Rows.voterNumbersRow.laid.getD 5 default).1,[97,108,109,111,110,101,114,58,32,108,97,114,103,101]),(0,(Rows.voterNumbersRow.laid.getD 6 default).1,[97,108,109,111,110,101,114,58,32,108,111,115,116]),(6,(Rows.voterNumbersRow.laid.getD 7 default).1,[97,108,109,111,110,101,114,58,32,98,97,108,108,111,116]),(4,(Rows.voterNumbersRow.laid.getD 8 default).1,[97,108,109,111,110,101,114,58,32,115,116,97,116,101])]:List (Nat × String × List UInt8)).map sent:=by kernel_rfl
theorem door_met (os:Os) (args:Array Value):laidMetH Tryz.prog Rows.voterNumbersRow.laid ((World.doorLaid Tryz.prog 400 os).forCall (fun _ _ => 0) ⟨#[],args,[]⟩).memory:=by
 rw [MakeChecks.laidMetH_plain _ _ _ (by kernel_rfl)];exact laidMet_of_run' 8 (by kernel_rfl) (by kernel_rfl)
set_option maxRecDepth 100000 in
theorem lifted (os:Os) (started:os.Started) (H:Type) (enc:TypeId × Value→H) :
 ReturnsInHanded {} Tryz.checked os 3 .any (fun w args => (Rows.voterNumbersSpec.pre enc Tryz.prog Tryz.f3 [] false w args∧laidMetH Tryz.prog Rows.voterNumbersRow.laid w)∧sizedMet enc Tryz.prog Tryz.f3 (OpenSpec.ofChange Rows.voterNumbersSpec) false w args)
  (Rows.voterNumbersSpec.post enc Tryz.prog Tryz.f3 false true false false):=by
 refine returnsInHanded_of_change_and (C:=Tryz.checked) (X:=fun w _ => laidMetH Tryz.prog Rows.voterNumbersRow.laid w) (fun _ _ _ hh h => h.of_heap hh) own started (by kernel_rfl) Tryz.func3
  (ChangeSpec.witness_shaped (enc:=enc) (C:=Tryz.checked) (os:=os) (X:=fun w _ => laidMetH Tryz.prog Rows.voterNumbersRow.laid w) false (World.doorLaid Tryz.prog 400 os) #[.agg #[.int .i64 0,.int .i64 0],.agg #[.int .i64 0,.int .i64 0],.int .i64 0] 8 rfl (World.shaped_of_RefB (by kernel_rfl) (by kernel_rfl)) (by kernel_rfl) (by kernel_rfl) (by kernel_rfl) (door_met os _)) ?_
 intro W base args ds gs before hval0 hW _ hsz0 hL _;have hval:∀ (j:Nat) t v,Tryz.f3.params[j]? = some t→args[j]? = some v→Value.okWide Tryz.prog W .any base t v:=hval0;have hW':=hW;obtain ⟨p,q,hA0,hV,rfl,hfz,hnd⟩:=hW;have hA:DataW.TrodAll enc Tryz.prog W 0 (fun _ => true) true Tryz.f3.params.toList args.toList ds p:=hA0;rw [Tryz.params3] at hA hval;obtain ⟨v0,vs0,d0,ds0,p0,q0,hargs,rfl,rfl,h0,r0⟩:=trodAll_cons hA;obtain ⟨v1,vs1,d1,ds1,p1,q1,rfl,rfl,rfl,h1,r1⟩:=trodAll_cons r0;obtain ⟨v2,vs2,d2,ds2,p2,q2,rfl,rfl,rfl,h2,r2⟩:=trodAll_cons r1;obtain ⟨rfl,rfl,rfl⟩:=trodAll_nil r2;obtain rfl:args = #[v0,v1,v2]:=by cases args;simp_all
 obtain ⟨rfl,rfl⟩:=trodVars_none hV;clear hsz0;obtain ⟨t0,rfl,w0⟩:=open_bal (hval 0 23 v0 rfl rfl) h0;obtain ⟨t1,rfl,w1⟩:=open_bal (hval 1 23 v1 rfl rfl) h1;obtain ⟨n2,rfl,w2⟩:=open_i64 (hval 2 3 v2 rfl rfl) h2;rw [laid_eq] at hL;obtain ⟨E,hE⟩:=eat_of_laid _ (by kernel_rfl) (by kernel_rfl) hL;refine (voterNumbers_any W hE (by decide) (by decide) (by decide) (by decide) (by decide) (by decide) (by decide) (by decide) t0 t1 n2 w2.1 w2.2).mono fun e W' ⟨he,hg⟩ => ?_
 subst he;exact ⟨_,rfl,post_law (by kernel_rfl) (by kernel_rfl) rfl ⟨rfl,rfl,rfl⟩ hW' hg⟩
theorem said:Rows.VoterNumbersSaid :=
 OpenClaim.holds_of_wide 3 Tryz.f3 rfl rfl rfl rfl rfl rfl rfl ⟨rfl,rfl,rfl,rfl,rfl⟩ rfl rfl rfl rfl rfl (by kernel_rfl) Tryz.func3 (by kernel_rfl)
  (of_decide_eq_true (by kernel_rfl)) (by unfold Func.isWrapper;first | (rw [if_pos (by decide +kernel)];kernel_rfl) | (rw [if_neg (by decide +kernel)];exact ⟨rfl,rfl⟩))
  (fun os started H enc _ => lifted os started H enc)
theorem plain (f:FuncId) (fn:Func) (hf:Tryz.pinned.checked.prog.funcNamed Rows.voterNumbersRow.func = some f) (hfn:Tryz.pinned.checked.prog.funcs[f]? = some fn) :
 true = Tryz.pinned.checked.prog.looks []∧∀ (j:Nat) t,fn.params[j]? = some t→Tryz.pinned.checked.prog.wantsStandIn t = false:=by
 obtain rfl:f = 3:=Option.some.inj ((show Tryz.prog.funcNamed Rows.voterNumbersRow.func = some 3 by kernel_rfl).symm.trans hf) |>.symm
 obtain rfl:fn = Tryz.f3:=(Option.some.inj (Tryz.func3.symm.trans hfn)).symm;refine ⟨by kernel_rfl,fun j t ht => ?_⟩;rw [Tryz.params3] at ht;have hm:t ∈ [23,23,3]:=by
  have:=Array.mem_of_getElem? ht;simpa using this
 have hall:([23,23,3].all fun u => !Tryz.prog.wantsStandIn u) = true:=by kernel_rfl
 exact (show Tryz.prog.wantsStandIn t = false by simpa using List.all_eq_true.1 hall t hm)
theorem card:Rows.VoterNumbersCardSaid :=
 Claim7.holds_tied_plain_at .later [] _ _ _ _ said (fun _ h => by cases h) (by kernel_rfl) (fun _ h => by cases h) voterNumbers_row_tie rfl ⟨rfl,rfl⟩ (by kernel_rfl) rfl plain (by kernel_rfl)
#print axioms card
end Go.Proofs.YteigofaccjaobaaGreatDoor.voterNumbers
