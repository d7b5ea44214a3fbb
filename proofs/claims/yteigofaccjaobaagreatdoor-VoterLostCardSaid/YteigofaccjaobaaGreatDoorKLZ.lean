/- THE LAW VoterLost: for every input the call returns true, and each argument reads behind the call as it read before; the listed sentinels hold what their initialisers lay. -/
import Derived.Test.YteigofaccjaobaaGreatDoorKL19
import Derived.Test.YteigofaccjaobaaGreatDoorCards
import Derived.Test.YteigofaccjaobaaGreatDoorTie
namespace Go.Proofs.YteigofaccjaobaaGreatDoor.voterLost
open Go.ChangeShapes Go.WideShapes Go.ChangeAt Go.RowKit Go.Deep
theorem laid_eq:Rows.voterLostRow.laid = ([(1,(Rows.voterLostRow.laid.getD 0 default).1,[97,108,109,111,110,101,114,58,32,110,117,109,98,101,114]),(3,(Rows.voterLostRow.laid.getD 1 default).1,[97,108,109,111,110,101,114,58,32,98,121,116,101,115]),(9,(Rows.voterLostRow.laid.getD 2 default).1,[97,108,109,111,110,101,114,58,32,115,117,109]),(7,(Rows.voterLostRow.laid.getD 3 default).1,[97,108,109,111,110,101,114,58,32,103,111,110,101]),(2,(Rows.voterLostRow.laid.getD 4 default).1,[97,108,109,111,110,101,114,58,32,102,117,108,108]),(5,(Rows.voterLostRow.laid.getD 5 default).1,[97,108,109,111,110,101,114,58,32,108,97,114,103,101]),(0,(Rows.voterLostRow.laid.getD 6 default).1,[97,108,109,111,110,101,114,58,32,108,111,115,116]),(6,(Rows.voterLostRow.laid.getD 7 default).1,[97,108,109,111,110,101,114,58,32,98,97,108,108,111,116]),(4,(Rows.voterLostRow.laid.getD 8 default).1,[97,108,109,111,110,101,114,58,32,115,116,97,116,101])]:List (Nat × String × List UInt8)).map sent:=by kernel_rfl
theorem door_met (os:Os) (args:Array Value):laidMetH Tryz.prog Rows.voterLostRow.laid ((World.doorLaid Tryz.prog 400 os).forCall (fun _ _ => 0) ⟨#[],args,[]⟩).memory:=by
 rw [MakeChecks.laidMetH_plain _ _ _ (by kernel_rfl)];exact laidMet_of_run' 8 (by kernel_rfl) (by kernel_rfl)
set_option maxRecDepth 100000 in
theorem lifted (os:Os) (started:os.Started) (H:Type) (enc:TypeId × Value→H) :
 ReturnsInHanded {} Tryz.checked os 4 .any (fun w args => (Rows.voterLostSpec.pre enc Tryz.prog Tryz.f4 [] false w args∧laidMetH Tryz.prog Rows.voterLostRow.laid w)∧sizedMet enc Tryz.prog Tryz.f4 (OpenSpec.ofChange Rows.voterLostSpec) false w args)
  (Rows.voterLostSpec.post enc Tryz.prog Tryz.f4 false true false false):=by
 refine returnsInHanded_of_change_and (C:=Tryz.checked) (X:=fun w _ => laidMetH Tryz.prog Rows.voterLostRow.laid w) (fun _ _ _ hh h => h.of_heap hh) own started (by kernel_rfl) Tryz.func4
  (ChangeSpec.witness_shaped (enc:=enc) (C:=Tryz.checked) (os:=os) (X:=fun w _ => laidMetH Tryz.prog Rows.voterLostRow.laid w) false (World.doorLaid Tryz.prog 400 os) #[.slice none 0 0,.slice none 0 0] 8 rfl (World.shaped_of_RefB (by kernel_rfl) (by kernel_rfl)) (by kernel_rfl) (by kernel_rfl) (by kernel_rfl) (door_met os _)) ?_
 intro W base args ds gs before hval0 hW _ hsz0 hL _;have hval:∀ (j:Nat) t v,Tryz.f4.params[j]? = some t→args[j]? = some v→Value.okWide Tryz.prog W .any base t v:=hval0;have hW':=hW;obtain ⟨p,q,hA0,hV,rfl,hfz,hnd⟩:=hW;have hA:DataW.TrodAll enc Tryz.prog W 0 (fun _ => true) true Tryz.f4.params.toList args.toList ds p:=hA0;rw [Tryz.params4] at hA hval;obtain ⟨v0,vs0,d0,ds0,p0,q0,hargs,rfl,rfl,h0,r0⟩:=trodAll_cons hA;obtain ⟨v1,vs1,d1,ds1,p1,q1,rfl,rfl,rfl,h1,r1⟩:=trodAll_cons r0;obtain ⟨rfl,rfl,rfl⟩:=trodAll_nil r1;obtain rfl:args = #[v0,v1]:=by cases args;simp_all
 obtain ⟨rfl,rfl⟩:=trodVars_none hV;have hsz:(DataW.weightsEach Tryz.prog [28,28] [d0,d1]).all (·≤reachBytes) = true:=hsz0;simp only [DataW.weightsEach,List.all_append,Bool.and_eq_true] at hsz;obtain ⟨y0,y1,_⟩:=hsz;obtain ⟨a0,c0,l0,rfl,hs0,w0,z0,hw0⟩:=open_ops18 (hval 0 28 v0 rfl rfl) h0;obtain ⟨a1,c1,l1,rfl,hs1,w1,z1,hw1⟩:=open_ops18 (hval 1 28 v1 rfl rfl) h1;rw [laid_eq] at hL;obtain ⟨E,hE⟩:=eat_of_laid _ (by kernel_rfl) (by kernel_rfl) hL;refine (voterLost_any W hE (by decide) (by decide) (by decide) (by decide) (by decide) (by decide) (by decide) (by decide) a0 a1 c0 c1 l0 l1 hs0 hs1 (hw0 y0).2 (hw1 y1).2 z0).mono fun e W' ⟨he,hg⟩ => ?_
 subst he;exact ⟨_,rfl,post_law (by kernel_rfl) (by kernel_rfl) rfl ⟨rfl,rfl,rfl⟩ hW' hg⟩
theorem said:Rows.VoterLostSaid :=
 OpenClaim.holds_of_wide 4 Tryz.f4 rfl rfl rfl rfl rfl rfl rfl ⟨rfl,rfl,rfl,rfl,rfl⟩ rfl rfl rfl rfl rfl (by kernel_rfl) Tryz.func4 (by kernel_rfl)
  (of_decide_eq_true (by kernel_rfl)) (by unfold Func.isWrapper;first | (rw [if_pos (by decide +kernel)];kernel_rfl) | (rw [if_neg (by decide +kernel)];exact ⟨rfl,rfl⟩))
  (fun os started H enc _ => lifted os started H enc)
theorem plain (f:FuncId) (fn:Func) (hf:Tryz.pinned.checked.prog.funcNamed Rows.voterLostRow.func = some f) (hfn:Tryz.pinned.checked.prog.funcs[f]? = some fn) :
 true = Tryz.pinned.checked.prog.looks []∧∀ (j:Nat) t,fn.params[j]? = some t→Tryz.pinned.checked.prog.wantsStandIn t = false:=by
 obtain rfl:f = 4:=Option.some.inj ((show Tryz.prog.funcNamed Rows.voterLostRow.func = some 4 by kernel_rfl).symm.trans hf) |>.symm
 obtain rfl:fn = Tryz.f4:=(Option.some.inj (Tryz.func4.symm.trans hfn)).symm;refine ⟨by kernel_rfl,fun j t ht => ?_⟩;rw [Tryz.params4] at ht;have hm:t ∈ [28,28]:=by
  have:=Array.mem_of_getElem? ht;simpa using this
 have hall:([28,28].all fun u => !Tryz.prog.wantsStandIn u) = true:=by kernel_rfl
 exact (show Tryz.prog.wantsStandIn t = false by simpa using List.all_eq_true.1 hall t hm)
theorem card:Rows.VoterLostCardSaid :=
 Claim7.holds_tied_plain_at .later [] _ _ _ _ said (fun _ h => by cases h) (by kernel_rfl) (fun _ h => by cases h) voterLost_row_tie rfl ⟨rfl,rfl⟩ (by kernel_rfl) rfl plain (by kernel_rfl)
#print axioms card
end Go.Proofs.YteigofaccjaobaaGreatDoor.voterLost
