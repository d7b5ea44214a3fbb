/- plan.Counts. -/
import Derived.Test.YtkfkfcfbcfcbkaaDoorM0
namespace Go.Proofs.YtkfkfcfbcfcbkaaDoor
open Go.ChangeShapes Go.WideShapes Go.RowKit Go.Deep Go.WideElems Go.MapKept
open Go.WideMaps (KeyLaw)
open Go.Maps (Keyed)
open Go.ChangeMaps (setBlock heap_setBlock_same modify_eq_set)

theorem Tryd.srvKeyed : Keyed Tryd.prog 27 := Keyed.of_law Tryd.srvLaw
theorem zeroInt (w : World) : (zeroValue 3).run Tryd.prog w = .ok (.int .i64 0) w := by kernel_rfl
theorem fit_of {es : Array MapEntry} {clock : Nat} {l : List Srv} (I : CInv es clock l) (hks : ∀ s ∈ l, KeyOk s) (hm : l.length ≤ maxLen) : Fit (H := Unit) Tryd.prog 27 (fun _ => some (.nil, [])) es clock :=
  ⟨Nat.le_trans I.size hm, I.st, fun x hx => by
    obtain ⟨s, hs, hk, _⟩ := I.ent x hx
    obtain ⟨kl, hkl⟩ := key_ok (hks s hs)
    exact ⟨(kl, .nil), by unfold rd; rw [hk, hkl]; rfl⟩⟩

section
variable {w : World} {b : Nat} {es : Array MapEntry} {clock : Nat} {l : List Srv}
theorem cnt_look (hb : w.heap[b]? = some (.map es clock)) (I : CInv es clock l) (hks : ∀ s ∈ l, KeyOk s) (hm : l.length ≤ maxLen) {s : Srv} (hs : KeyOk s) :
    (Instr.lookup 24 (.map (some b)) (srvV s) false).run Tryd.prog w = .ok (.int .i64 (cntS l s : Nat)) w := by
  obtain ⟨kl, hkl⟩ := key_ok hs
  rcases Maps.fit_look false Tryd.srvKeyed Tryd.underlying24 (zeroInt w) hb (fit_of I hks hm) hkl with ⟨h1, h2, _⟩ | ⟨e0, y, h1, h2, h3, _⟩
  · have hn : s ∉ l := fun hs => by obtain ⟨e, he, hk⟩ := I.all s hs; exact h2 e he hk
    rw [h1, cntS_zero hn]
    rfl
  · obtain ⟨t, ht, hk, hv⟩ := I.ent e0 h1
    obtain rfl : t = s := srvV_inj (hk.symm.trans h2)
    rw [h3, hv]
    rfl

theorem cnt_step (hb : w.heap[b]? = some (.map es clock)) (I : CInv es clock l) (hks : ∀ s ∈ l, KeyOk s) (hm : l.length < maxLen) {s : Srv} (hs : KeyOk s) :
    ∃ (st : Nat) (es1 : Array MapEntry) (clock1 : Nat), (Instr.mapEntry 24 (.map (some b)) (srvV s)).run Tryd.prog w = .ok (.tuple #[.int .i64 (cntS l s : Nat), .int .i64 st]) (setBlock w b (.map es1 clock1)) ∧
      (∀ w2 : World, w2.heap[b]? = some (.map es1 clock1) → (Instr.lookup 24 (.map (some b)) (srvV s) false).run Tryd.prog w2 = .ok (.int .i64 (cntS l s : Nat)) w2) ∧
      ∀ w2 : World, w2.heap[b]? = some (.map es1 clock1) → ∃ es' clock', (Instr.entryStore 24 (.map (some b)) (.int .i64 st) (.int .i64 ((cntS l s : Nat) + 1))).run Tryd.prog w2 = .ok () (setBlock w2 b (.map es' clock')) ∧ CInv es' clock' (l ++ [s]) := by
  obtain ⟨kl, hkl⟩ := key_ok hs
  have hm' : l.length ≤ maxLen := Nat.le_of_lt hm
  have F := fit_of I hks hm'
  obtain ⟨v0, st, es1, clock1, h1, h2, h3⟩ := entry_then_store Tryd.srvLaw Tryd.underlying24 zeroInt hb F hkl
  have same : ∀ {o o' : Obj}, setBlock w b o = setBlock w b o' → o = o' := by
    intro o o' h
    have e1 := heap_setBlock_same hb o
    have e2 := heap_setBlock_same hb o'
    rw [h] at e1
    exact (Option.some.inj (e2.symm.trans e1)).symm
  have hv0 : v0 = .int .i64 (cntS l s : Nat) := by
    rcases h2 with ⟨e0, he, hk, hv⟩ | ⟨hne, hv⟩
    · obtain ⟨t, ht, hkt, hvt⟩ := I.ent e0 he
      obtain rfl : t = s := srvV_inj (hkt.symm.trans hk)
      rw [hv, hvt]
    · have hn : s ∉ l := fun hs => by obtain ⟨e, he, hk⟩ := I.all s hs; exact hne e he hk
      rw [hv, cntS_zero hn]
      rfl
  subst hv0
  refine ⟨st, es1, clock1, h1, ?_, ?_⟩
  · intro w2 hw2
    rcases Tryd.srvKeyed.find w hkl es.toList F.keys with ⟨g1, g2⟩ | ⟨j, e0, g1, g2, g3⟩
    · have hent : (Instr.mapEntry 24 (.map (some b)) (srvV s)).run Tryd.prog w = .ok (.tuple #[.int .i64 0, goInt clock]) (setBlock w b (.map (es.push ⟨srvV s, .int .i64 0, clock⟩) (clock + 1))) := by
        simp [Instr.mapEntry, run_underlying Tryd.underlying24, MapKept.run_getObj_map hb, Tryd.srvKeyed.check w false hkl, g1, MapKept.run_setObj_map _ hb, Result.andThen, setBlock]
      rw [hent] at h1
      have h6 := same (Result.ok.inj h1).2
      cases h6
      have hn : s ∉ l := fun hs => by obtain ⟨e, he, hk⟩ := I.all s hs; exact g2 e he hk
      obtain ⟨s1, s2, s3⟩ := I.st
      have J := (cinv_new I s g2).1
      have F1 : Fit (H := Unit) Tryd.prog 27 (fun _ => some (.nil, [])) (es.push ⟨srvV s, .int .i64 0, clock⟩) (clock + 1) := by
        refine ⟨by simp; have := I.size; omega, ?_, ?_⟩
        · obtain ⟨j1, j2, j3⟩ := J.st
          refine ⟨?_, by simpa using j2, by simpa using j3⟩
          intro x hx
          simp only [Array.toList_push, List.mem_append, List.mem_singleton] at hx
          rcases hx with hx | rfl
          · exact Nat.lt_succ_of_lt (s1 x hx)
          · exact Nat.lt_succ_self _
        · intro x hx
          simp only [Array.toList_push, List.mem_append, List.mem_singleton] at hx
          rcases hx with hx | rfl
          · exact F.reads x hx
          · exact ⟨(kl, .nil), by unfold rd; rw [hkl]; rfl⟩
      rcases Maps.fit_look false Tryd.srvKeyed Tryd.underlying24 (zeroInt w2) hw2 F1 hkl with ⟨_, f2, _⟩ | ⟨e0, y, f1, f2, f3, _⟩
      · exact absurd rfl (f2 ⟨srvV s, .int .i64 0, clock⟩ (by simp))
      · simp only [Array.toList_push, List.mem_append, List.mem_singleton] at f1
        rcases f1 with f1 | rfl
        · exact absurd f2 (g2 e0 f1)
        · rw [f3, cntS_zero hn]; rfl
    · have hj : es[j]? = some e0 := by simpa using g2
      have hsame : es.modify j (fun e => { e with key := srvV s }) = es := by
        apply Array.ext'
        rw [Array.toList_modify, modify_eq_set _ _ _ _ g2]
        have : ({ e0 with key := srvV s } : MapEntry) = e0 := by rw [← g3]
        rw [this]
        exact set_self _ _ _ g2
      have hent : (Instr.mapEntry 24 (.map (some b)) (srvV s)).run Tryd.prog w = .ok (.tuple #[e0.val, goInt e0.born]) (setBlock w b (.map es clock)) := by
        simp [Instr.mapEntry, run_underlying Tryd.underlying24, MapKept.run_getObj_map hb, Tryd.srvKeyed.check w false hkl, g1, hj, g3, Tryd.srvKeyed.stays w hkl, hsame, MapKept.run_setObj_map _ hb, Result.andThen, setBlock]
      rw [hent] at h1
      have h6 := same (Result.ok.inj h1).2
      cases h6
      exact cnt_look hw2 I hks hm' hs
  · intro w2 hw2
    obtain ⟨es', clock', h4, h5⟩ := h3 w2 (.int .i64 ((cntS l s : Nat) + 1)) hw2
    refine ⟨es', clock', h4, ?_⟩
    rcases Tryd.srvKeyed.find w hkl es.toList F.keys with ⟨g1, g2⟩ | ⟨j, e0, g1, g2, g3⟩
    · have hupd : (Instr.mapUpdate 24 (.map (some b)) (srvV s) (.int .i64 ((cntS l s : Nat) + 1))).run Tryd.prog w = .ok () (setBlock w b (.map (es.push ⟨srvV s, .int .i64 ((cntS l s : Nat) + 1), clock⟩) (clock + 1))) := by
        simp [Instr.mapUpdate, run_underlying Tryd.underlying24, MapKept.run_getObj_map hb, Tryd.srvKeyed.check w false hkl, g1, MapKept.run_setObj_map _ hb, Result.andThen, setBlock]
      rw [hupd] at h5
      have h6 := same (Result.ok.inj h5).2
      cases h6
      exact (cinv_new I s g2).1
    · have hj : es[j]? = some e0 := by simpa using g2
      have hupd : (Instr.mapUpdate 24 (.map (some b)) (srvV s) (.int .i64 ((cntS l s : Nat) + 1))).run Tryd.prog w = .ok () (setBlock w b (.map (es.modify j (fun e' => { e' with key := srvV s, val := .int .i64 ((cntS l s : Nat) + 1) })) clock)) := by
        simp [Instr.mapUpdate, run_underlying Tryd.underlying24, MapKept.run_getObj_map hb, Tryd.srvKeyed.check w false hkl, g1, hj, g3, Tryd.srvKeyed.stays w hkl, MapKept.run_setObj_map _ hb, Result.andThen, setBlock]
      rw [hupd] at h5
      have h6 := same (Result.ok.inj h5).2
      cases h6
      exact (cinv_old I s g2 g3).1
end

theorem setBlock_gr {w0 w : World} (g : Gr w0 w) {b : Nat} (hb : w0.heap.size ≤ b) (o : Obj) : Gr w0 (setBlock w b o) :=
  ⟨g.os, g.tape, g.output, by simp [setBlock]; exact g.size, fun k hk => by rw [← g.block k hk]; exact Array.getElem?_setIfInBounds_ne (by omega)⟩

def CntP (l : List Srv) (w : World) (e : Ending) (w' : World) : Prop :=
  ∃ b es clock, e = .returned (.map (some b)) ∧ w'.heap[b]? = some (.map es clock) ∧ CInv es clock l ∧ w.heap.size ≤ b ∧ Gr w w'

set_option maxRecDepth 100000 in
set_option maxHeartbeats 1600000 in
theorem counts_any (a : Option Addr) (l : List Srv) (c : Nat) (w : World) (hl : SrvsAt w a l) (hm : l.length < maxLen) (hks : ∀ s ∈ l, KeyOk s) :
    Calls Tryd.prog 15 #[.slice a l.length c] w (CntP l w) := by
  have hm0 := hm
  unfold maxLen at hm0
  have hmm := @run_makeMap Tryd.prog
  replace hks := Lib.hid hks
  go_enter Tryd.func15, Tryd.ntmps15
  go_wp2_with fail
  go_loopw [9] (fun i wr => ∃ (k : Nat) (es : Array MapEntry) (clock : Nat), k ≤ l.length ∧ i = .int .i64 k ∧ wr.heap[w.heap.size]? = some (.map es clock) ∧ CInv es clock (l.take k) ∧ Gr w wr) (fun i _ => l.length - (intOf i).toNat)
  case atStart => exact ⟨0, #[], 0, Nat.zero_le _, rfl, heap_alloc_new w _, cinv_nil, (Gr.refl _).alloc _⟩
  case round =>
    obtain ⟨k, es, clock, hk, rfl, hb, I, hg⟩ := hrel
    by_cases hlt : k < l.length
    · obtain ⟨s, hs⟩ := get_some l k hlt
      obtain ⟨b, off, rfl, hbs, c0, c1, c2⟩ := (hl.gr hg) k s hs
      have hks' : ∀ s ∈ l.take k, KeyOk s := fun x hx => hks.out x (List.mem_of_mem_take hx)
      have hkm : (l.take k).length < maxLen := by rw [List.length_take]; omega
      have hsk := hks.out s (get_mem hs)
      have hcn : (cntS (l.take k) s : Int) ≤ l.length := by have := cntS_le (l.take k) s; rw [List.length_take] at this; omega
      have hwlt : w.heap.size < wr.heap.size := (Array.getElem?_eq_some_iff.1 hb).1
      have hb2 : ((wr.alloc (.cells #[.int .i64 s.k, .int .i64 s.q, .int .i64 s.t] 27)).drew).heap[w.heap.size]? = some (.map es clock) := by rw [← hb]; exact heap_alloc_old wr _ hwlt
      have hlook := cnt_look hb2 I hks' (Nat.le_of_lt hkm) hsk
      obtain ⟨st, es1, clock1, hent, hlk2, hsto⟩ := cnt_step hb2 I hks' hkm hsk
      have hlook2 := hlk2 _ (heap_setBlock_same hb2 _)
      obtain ⟨es', clock', hst1, I'⟩ := hsto _ (heap_setBlock_same hb2 _)
      clear hsto hlk2
      have hwr : IntKind.i64.wrap ((cntS (l.take k) s : Nat) + 1) = (cntS (l.take k) s : Nat) + 1 := by rw [IntKind.wrap_i64]; omega
      have hts := take_snoc hs
      replace hts := Lib.hid hts
      go_wp2_with fail
      go_region
      all_goals
        go_wp2_with fail
        go_roundw
        case rel => exact ⟨k + 1, es', clock', by omega, by go_num, heap_setBlock_same (heap_setBlock_same hb2 _) _, by rw [hts.out]; exact I', setBlock_gr (setBlock_gr ((hg.alloc _).drew) (Nat.le_refl _) _) (Nat.le_refl _) _⟩
        case measure => simp [intOf]; omega
    · have hall : l.take k = l := List.take_of_length_le (by omega)
      rw [hall] at I
      go_wp2_with fail
      go_ret
      exact ⟨_, es, clock, rfl, hb, I, Nat.le_refl _, hg⟩
end Go.Proofs.YtkfkfcfbcfcbkaaDoor
