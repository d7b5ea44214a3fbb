/- THE LAW DeskAnswers: for every input the call returns true, and each argument reads behind the call as it read before; the listed sentinels hold what their initialisers lay. -/
import Derived.Test.YtdfelohjdkcpkaaGreatDoorKK30
import Derived.Test.YtdfelohjdkcpkaaGreatDoorCards
import Derived.Test.YtdfelohjdkcpkaaGreatDoorTie
set_option maxRecDepth 100000
set_option maxHeartbeats 2000000
namespace Go.Proofs.YtdfelohjdkcpkaaGreatDoor.deskAnswers
open Go.ChangeShapes Go.WideShapes Go.ChangeAt Go.RowKit Go.Deep
theorem laid_eq:Rows.deskAnswersRow.laid = ([(1,(Rows.deskAnswersRow.laid.getD 0 default).1,[97,108,109,111,110,101,114,58,32,110,117,109,98,101,114]),(0,(Rows.deskAnswersRow.laid.getD 1 default).1,[97,108,109,111,110,101,114,58,32,103,111,110,101]),(6,(Rows.deskAnswersRow.laid.getD 2 default).1,[97,108,109,111,110,101,114,58,32,102,117,108,108]),(7,(Rows.deskAnswersRow.laid.getD 3 default).1,[97,108,109,111,110,101,114,58,32,108,97,114,103,101]),(9,(Rows.deskAnswersRow.laid.getD 4 default).1,[97,108,109,111,110,101,114,58,32,115,101,114,118,101,114]),(10,(Rows.deskAnswersRow.laid.getD 5 default).1,[97,108,109,111,110,101,114,58,32,116,97,115,107]),(11,(Rows.deskAnswersRow.laid.getD 6 default).1,[97,108,109,111,110,101,114,58,32,116,105,103,104,116]),(15,(Rows.deskAnswersRow.laid.getD 7 default).1,[97,108,109,111,110,101,114,58,32,115,116,97,116,101])]:List (Nat × String × List UInt8)).map OM:=by kernel_rfl
theorem door_met (os:Os) (args:Array Value):laidMetH Tryz.prog Rows.deskAnswersRow.laid ((World.doorLaid Tryz.prog 400 os).forCall (fun _ _ => 0) ⟨#[],args,[]⟩).memory:=by
 rw [MakeChecks.laidMetH_plain _ _ _ (by kernel_rfl)];exact laidMet_of_run' 8 (by kernel_rfl) (by kernel_rfl)
theorem lifted (os:Os) (started:os.Started) (H:Type) (enc:TypeId × Value→H) :
 ReturnsInHanded {} Tryz.checked os 4 .any (fun w args => (Rows.deskAnswersSpec.pre enc Tryz.prog Tryz.f4 [] false w args∧laidMetH Tryz.prog Rows.deskAnswersRow.laid w)∧sizedMet enc Tryz.prog Tryz.f4 (OpenSpec.ofChange Rows.deskAnswersSpec) false w args)
  (Rows.deskAnswersSpec.post enc Tryz.prog Tryz.f4 false true false false):=by
 refine returnsInHanded_of_change_and (C:=Tryz.checked) (X:=fun w _ => laidMetH Tryz.prog Rows.deskAnswersRow.laid w) (fun _ _ _ hh h => h.of_heap hh) own started (by kernel_rfl) Tryz.func4
  (ChangeSpec.witness_shaped (enc:=enc) (C:=Tryz.checked) (os:=os) (X:=fun w _ => laidMetH Tryz.prog Rows.deskAnswersRow.laid w) false (World.doorLaid Tryz.prog 400 os) #[.slice none 0 0,.agg #[.int .i64 0,.int .i64 0,.int .i64 0,.int .i64 0,.int .i64 0,.int .i64 0,.int .i64 0,.int .i64 0,.int .i64 0,.slice none 0 0,.int .i64 0]] 8 rfl (World.shaped_of_RefB (by kernel_rfl) (by kernel_rfl)) (by kernel_rfl) (by kernel_rfl) (by kernel_rfl) (door_met os _)) ?_
 intro W base args ds gs before hval0 hW _ hsz0 hL _;have hval:∀ (j:Nat) t v,Tryz.f4.params[j]? = some t→args[j]? = some v→Value.okWide Tryz.prog W .any base t v:=hval0;have hW':=hW;obtain ⟨p,q,hA0,hV,rfl,hfz,hnd⟩:=hW;have hA:DataW.TrodAll enc Tryz.prog W 0 (fun _ => true) true Tryz.f4.params.toList args.toList ds p:=hA0;rw [Tryz.params4] at hA hval;obtain ⟨v0,vs0,d0,ds0,p0,q0,hargs,rfl,rfl,h0,r0⟩:=trodAll_cons hA;obtain ⟨v1,vs1,d1,ds1,p1,q1,rfl,rfl,rfl,h1,r1⟩:=trodAll_cons r0;obtain ⟨rfl,rfl,rfl⟩:=trodAll_nil r1;obtain rfl:args = #[v0,v1]:=by cases args;simp_all
 obtain ⟨rfl,rfl⟩:=trodVars_none hV;have hsz:(DataW.weightsEach Tryz.prog [45,47] [d0,d1]).all (·≤reachBytes) = true:=hsz0;simp only [DataW.weightsEach,List.all_append,Bool.and_eq_true] at hsz;obtain ⟨y0,y1,_⟩:=hsz;obtain ⟨a0,c0,l0,rfl,hc0,w0,hl0⟩:=MM (hval 0 45 v0 rfl rfl) h0;obtain ⟨k1,x1,rfl,i1,w1,hx1⟩:=Pk (hval 1 47 v1 rfl rfl) h1;rw [laid_eq] at hL;obtain ⟨E,hE⟩:=Ku _ (by kernel_rfl) (by kernel_rfl) hL;refine (GF W hE (by decide) (by decide) (by decide) (by decide) (by decide) (by decide) a0 c0 l0 (hl0 y0).1 (fun x hx => ⟨(w0 x hx).1,(w0 x hx).2.1,(w0 x hx).2.2.1⟩) (by have h:=(hl0 y0).2;unfold reachBytes at h;exact h) k1 x1 ⟨w1.1,w1.2.1,w1.2.2.1⟩).mono fun e W' ⟨he,hg⟩ => ?_
 subst he;exact ⟨_,rfl,NV (by kernel_rfl) (by kernel_rfl) rfl ⟨rfl,rfl,rfl⟩ hW' hg⟩
theorem and_both {a b:Bool} (ha:a = true) (hb:b = true):(a && b) = true:=by rw [ha,hb];rfl
theorem closed:joinedFacts Tryz.pinned.checked.prog 4 Tryz.f4 Rows.deskAnswersSpec Rows.deskAnswersRow = true:=by
 unfold joinedFacts;iterate 31 refine and_both ?_ (by as_aux_lemma => kernel_rfl)
 as_aux_lemma => kernel_rfl
theorem said:Rows.DeskAnswersSaid :=
 OpenClaim.holds_of_wide 4 Tryz.f4 rfl rfl rfl rfl rfl rfl rfl ⟨rfl,rfl,rfl,rfl,rfl⟩ rfl rfl rfl rfl rfl (by kernel_rfl) Tryz.func4 closed
  (of_decide_eq_true (by kernel_rfl)) (by unfold Func.isWrapper;first | (rw [if_pos (by decide +kernel)];kernel_rfl) | (rw [if_neg (by decide +kernel)];exact ⟨rfl,rfl⟩))
  (fun os started H enc _ => lifted os started H enc)
theorem plain (f:FuncId) (fn:Func) (hf:Tryz.pinned.checked.prog.funcNamed Rows.deskAnswersRow.func = some f) (hfn:Tryz.pinned.checked.prog.funcs[f]? = some fn) :
 true = Tryz.pinned.checked.prog.looks []∧∀ (j:Nat) t,fn.params[j]? = some t→Tryz.pinned.checked.prog.wantsStandIn t = false:=by
 obtain rfl:f = 4:=Option.some.inj ((show Tryz.prog.funcNamed Rows.deskAnswersRow.func = some 4 by kernel_rfl).symm.trans hf) |>.symm
 obtain rfl:fn = Tryz.f4:=(Option.some.inj (Tryz.func4.symm.trans hfn)).symm;refine ⟨by kernel_rfl,fun j t ht => ?_⟩;rw [Tryz.params4] at ht;have hm:t ∈ [45,47]:=by
  have:=Array.mem_of_getElem? ht;simpa using this
 have hall:([45,47].all fun u => !Tryz.prog.wantsStandIn u) = true:=by kernel_rfl
 exact (show Tryz.prog.wantsStandIn t = false by simpa using List.all_eq_true.1 hall t hm)
theorem card:Rows.DeskAnswersCardSaid :=
 Claim7.holds_tied_plain_at .later [] _ _ _ _ said (fun _ h => by cases h) (by kernel_rfl) (fun _ h => by cases h) deskAnswers_row_tie rfl ⟨rfl,rfl⟩ (by kernel_rfl) rfl plain (by kernel_rfl)
#print axioms card
end Go.Proofs.YtdfelohjdkcpkaaGreatDoor.deskAnswers
