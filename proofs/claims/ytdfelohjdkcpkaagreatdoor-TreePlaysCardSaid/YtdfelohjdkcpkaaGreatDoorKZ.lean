/- THE LAW TreePlays: for every input the call returns true, and each argument reads behind the call as it read before; the listed sentinels hold what their initialisers lay. -/
import Derived.Test.YtdfelohjdkcpkaaGreatDoorK29
import Derived.Test.YtdfelohjdkcpkaaGreatDoorK9
import Derived.Test.YtdfelohjdkcpkaaGreatDoorCards
import Derived.Test.YtdfelohjdkcpkaaGreatDoorTie
namespace Go.Proofs.YtdfelohjdkcpkaaGreatDoor.treePlays
open Go.ChangeShapes Go.WideShapes Go.ChangeAt Go.RowKit Go.Deep
theorem laid_eq:Rows.treePlaysRow.laid = ([(1,(Rows.treePlaysRow.laid.getD 0 default).1,[97,108,109,111,110,101,114,58,32,110,117,109,98,101,114]),(6,(Rows.treePlaysRow.laid.getD 1 default).1,[97,108,109,111,110,101,114,58,32,102,117,108,108]),(9,(Rows.treePlaysRow.laid.getD 2 default).1,[97,108,109,111,110,101,114,58,32,115,101,114,118,101,114]),(10,(Rows.treePlaysRow.laid.getD 3 default).1,[97,108,109,111,110,101,114,58,32,116,97,115,107]),(11,(Rows.treePlaysRow.laid.getD 4 default).1,[97,108,109,111,110,101,114,58,32,116,105,103,104,116])]:List (Nat × String × List UInt8)).map sent:=by kernel_rfl
theorem door_met (os:Os) (args:Array Value):laidMetH Tryz.prog Rows.treePlaysRow.laid ((World.doorLaid Tryz.prog 400 os).forCall (fun _ _ => 0) ⟨#[],args,[]⟩).memory:=by
 rw [MakeChecks.laidMetH_plain _ _ _ (by kernel_rfl)];exact laidMet_of_run' 8 (by kernel_rfl) (by kernel_rfl)
set_option maxRecDepth 100000 in
theorem lifted (os:Os) (started:os.Started) (H:Type) (enc:TypeId × Value→H) :
 ReturnsInHanded {} Tryz.checked os 3 .any (fun w args => (Rows.treePlaysSpec.pre enc Tryz.prog Tryz.f3 [] false w args∧laidMetH Tryz.prog Rows.treePlaysRow.laid w)∧sizedMet enc Tryz.prog Tryz.f3 (OpenSpec.ofChange Rows.treePlaysSpec) false w args)
  (Rows.treePlaysSpec.post enc Tryz.prog Tryz.f3 false true false false):=by
 refine returnsInHanded_of_change_and (C:=Tryz.checked) (X:=fun w _ => laidMetH Tryz.prog Rows.treePlaysRow.laid w) (fun _ _ _ hh h => h.of_heap hh) own started (by kernel_rfl) Tryz.func3
  (ChangeSpec.witness_shaped (enc:=enc) (C:=Tryz.checked) (os:=os) (X:=fun w _ => laidMetH Tryz.prog Rows.treePlaysRow.laid w) false (World.doorLaid Tryz.prog 400 os) #[.slice none 0 0] 8 rfl (World.shaped_of_RefB (by kernel_rfl) (by kernel_rfl)) (by kernel_rfl) (by kernel_rfl) (by kernel_rfl) (door_met os _)) ?_
 intro W base args ds gs before hval0 hW _ hsz0 hL _;have hval:∀ (j:Nat) t v,Tryz.f3.params[j]? = some t→args[j]? = some v→Value.okWide Tryz.prog W .any base t v:=hval0;have hW':=hW;obtain ⟨p,q,hA0,hV,rfl,hfz,hnd⟩:=hW;have hA:DataW.TrodAll enc Tryz.prog W 0 (fun _ => true) true Tryz.f3.params.toList args.toList ds p:=hA0;rw [Tryz.params3] at hA hval;obtain ⟨v0,vs0,d0,ds0,p0,q0,hargs,rfl,rfl,h0,r0⟩:=trodAll_cons hA;obtain ⟨rfl,rfl,rfl⟩:=trodAll_nil r0;obtain rfl:args = #[v0]:=by cases args;simp_all
 obtain ⟨rfl,rfl⟩:=trodVars_none hV;have hsz:(DataW.weightsEach Tryz.prog [22] [d0]).all (·≤reachBytes) = true:=hsz0;simp only [DataW.weightsEach,List.all_append,Bool.and_eq_true] at hsz;obtain ⟨y0,_⟩:=hsz;obtain ⟨a0,c0,l0,rfl,hl0,i0,z0,w0⟩:=open_ords (hval 0 22 v0 rfl rfl) h0;rw [laid_eq] at hL;obtain ⟨E,hE⟩:=eat_of_laid _ (by kernel_rfl) (by kernel_rfl) hL;refine (treePlays_any W hE (by decide) (by decide) (by decide) (by decide) a0 c0 l0 ⟨hl0,i0,w0 y0⟩).mono fun e W' ⟨he,hg⟩ => ?_
 subst he;exact ⟨_,rfl,post_law (by kernel_rfl) (by kernel_rfl) rfl ⟨rfl,rfl,rfl⟩ hW' hg⟩
theorem and_both {a b:Bool} (ha:a = true) (hb:b = true):(a && b) = true:=by rw [ha,hb];rfl
set_option maxRecDepth 100000 in
set_option maxHeartbeats 2000000 in
theorem closed:joinedFacts Tryz.pinned.checked.prog 3 Tryz.f3 Rows.treePlaysSpec Rows.treePlaysRow = true:=by
 unfold joinedFacts;iterate 31 refine and_both ?_ (by as_aux_lemma => kernel_rfl)
 as_aux_lemma => kernel_rfl
theorem said:Rows.TreePlaysSaid :=
 OpenClaim.holds_of_wide 3 Tryz.f3 rfl rfl rfl rfl rfl rfl rfl ⟨rfl,rfl,rfl,rfl,rfl⟩ rfl rfl rfl rfl rfl (by kernel_rfl) Tryz.func3 closed
  (of_decide_eq_true (by kernel_rfl)) (by unfold Func.isWrapper;first | (rw [if_pos (by decide +kernel)];kernel_rfl) | (rw [if_neg (by decide +kernel)];exact ⟨rfl,rfl⟩))
  (fun os started H enc _ => lifted os started H enc)
theorem plain (f:FuncId) (fn:Func) (hf:Tryz.pinned.checked.prog.funcNamed Rows.treePlaysRow.func = some f) (hfn:Tryz.pinned.checked.prog.funcs[f]? = some fn) :
 true = Tryz.pinned.checked.prog.looks []∧∀ (j:Nat) t,fn.params[j]? = some t→Tryz.pinned.checked.prog.wantsStandIn t = false:=by
 obtain rfl:f = 3:=Option.some.inj ((show Tryz.prog.funcNamed Rows.treePlaysRow.func = some 3 by kernel_rfl).symm.trans hf) |>.symm
 obtain rfl:fn = Tryz.f3:=(Option.some.inj (Tryz.func3.symm.trans hfn)).symm;refine ⟨by kernel_rfl,fun j t ht => ?_⟩;rw [Tryz.params3] at ht;have hm:t ∈ [22]:=by
  have:=Array.mem_of_getElem? ht;simpa using this
 have hall:([22].all fun u => !Tryz.prog.wantsStandIn u) = true:=by kernel_rfl
 exact (show Tryz.prog.wantsStandIn t = false by simpa using List.all_eq_true.1 hall t hm)
theorem card:Rows.TreePlaysCardSaid :=
 Claim7.holds_tied_plain_at .later [] _ _ _ _ said (fun _ h => by cases h) (by kernel_rfl) (fun _ h => by cases h) treePlays_row_tie rfl ⟨rfl,rfl⟩ (by kernel_rfl) rfl plain (by kernel_rfl)
#print axioms card
end Go.Proofs.YtdfelohjdkcpkaaGreatDoor.treePlays
