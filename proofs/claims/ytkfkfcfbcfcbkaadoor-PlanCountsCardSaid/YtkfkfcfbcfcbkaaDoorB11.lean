/- The law PlanCounts. -/
import Derived.Test.YtkfkfcfbcfcbkaaDoorM1
import Derived.Laws.IdiomRangeMap
namespace Go.Proofs.YtkfkfcfbcfcbkaaDoor
open Go.ChangeShapes Go.WideShapes Go.RowKit Go.Deep Go.WideElems Go.MapKept

/-- What was there is there as it was; the tape may have been asked. -/
structure GrA (w w' : World) : Prop where
  os : w'.os = w.os
  output : w'.output = w.output
  size : w.heap.size ≤ w'.heap.size
  block : ∀ k, k < w.heap.size → w'.heap[k]? = w.heap[k]?
theorem GrA.of_gr {w w' : World} (g : Gr w w') : GrA w w' := ⟨g.os, g.output, g.size, g.block⟩
theorem GrA.trans {a b c : World} (h : GrA a b) (g : Gr b c) : GrA a c :=
  ⟨g.os.trans h.os, g.output.trans h.output, Nat.le_trans h.size g.size, fun k hk => (g.block k (Nat.lt_of_lt_of_le hk h.size)).trans (h.block k hk)⟩
theorem GrA.alike {a b c : World} (h : GrA a b) (g : c.Alike b) : GrA a c :=
  ⟨g.2.1.trans h.os, g.2.2.trans h.output, by rw [g.1]; exact h.size, fun k hk => by rw [g.1]; exact h.block k hk⟩
theorem GrA.out {w w' : World} (h : GrA w w') : ∃ w1, Gr w w1 ∧ w'.Alike w1 :=
  ⟨{ w' with tape := w.tape }, ⟨h.os, rfl, h.output, h.size, h.block⟩, rfl, rfl, rfl⟩
theorem SrvsAt.grA {w w' : World} {a : Option Addr} {l : List Srv} (h : SrvsAt w a l) (g : GrA w w') : SrvsAt w' a l := by
  obtain ⟨w1, g1, ha⟩ := g.out
  have h1 := h.gr g1
  intro i s hi
  obtain ⟨b, off, e, hb, h0, h1, h2⟩ := h1 i s hi
  have hc : ∀ x, w'.cell? x = w1.cell? x := fun x => World.cell?_of_block (by rw [ha.1])
  exact ⟨b, off, e, by rw [ha.1]; exact hb, by rw [hc]; exact h0, by rw [hc]; exact h1, by rw [hc]; exact h2⟩

theorem valI_eq (v : Value) : valI v = valOf v := by cases v <;> rfl
theorem seen_bd (seen : Array Nat) : ∀ (es : List MapEntry), (∀ e ∈ es, 0 ≤ valOf e.val) → 0 ≤ seenSum es seen ∧ seenSum es seen ≤ (es.map fun e => valOf e.val).sum
  | [], _ => ⟨Int.le_refl _, Int.le_refl _⟩
  | e :: r, h => by
    have h1 := h e (List.mem_cons_self ..)
    have h2 := seen_bd seen r (fun x hx => h x (List.mem_cons_of_mem _ hx))
    simp only [seenSum, List.map_cons, List.sum_cons]
    split <;> omega

set_option maxRecDepth 100000 in
set_option maxHeartbeats 3200000 in
theorem planCounts_walk {G : List Nat} {E : Nat → Addr} (a : Option Addr) (l : List Srv) (c : Nat) (w : World) (hE : EAt G E w) (i0 : 0 ∈ G) (hl : SrvsAt w a l) (hm : l.length * 24 ≤ 140737488351232) (hks : ∀ s ∈ l, KeyOk s) :
    Calls Tryd.prog 3 #[.slice a l.length c] w fun e w' => e = .returned (.bool true) ∧ GrA w w' := by
  have hmm : l.length < maxLen := by unfold maxLen; omega
  have hml : l.length ≤ 9223372036854775807 := by omega
  replace hks := Lib.hid hks
  go_enter Tryd.func3, Tryd.ntmps3
  go_wp2_with fail
  refine (alive08 _ hE i0).mono ?_
  rintro e wa ⟨rfl, ga⟩
  obtain ⟨ca, fa, sa⟩ := ga.cells
  try simp only [size_drewN] at ca fa sa
  try simp only [World.size_alloc] at ca fa sa
  try simp only [World.size_drew] at ca fa sa
  try simp only [World.size_setCell] at ca fa sa
  go_wp2_with fail
  refine (counts_any a l c _ (hl.gr ga) hmm hks.out).mono ?_
  rintro e wp ⟨bm, es, clock, rfl, hb, I, hbm, gp⟩
  have gwp : Gr w wp := ga.trans gp
  have hrg := run_range_map (P := Tryd.prog) wp 24 27 3 bm es clock Tryd.underlying24 hb
  have hvals : ∀ e ∈ es.toList, ∃ v : Int, e.val = .int .i64 v ∧ 0 ≤ v := fun e he => by
    obtain ⟨s, _, _, hv⟩ := I.ent e he
    exact ⟨_, hv, by omega⟩
  have hnn : ∀ e ∈ es.toList, 0 ≤ valOf e.val := fun e he => by
    obtain ⟨v, hv, h0⟩ := hvals e he
    rw [hv]; exact h0
  have htot : (es.toList.map fun e => valOf e.val).sum = (l.length : Int) := by
    rw [← I.sum]; congr 1
  replace htot := Lib.hid htot
  replace hvals := Lib.hid hvals
  replace hnn := Lib.hid hnn
  go_wp2_with fail
  go_loopw [4] (fun v wr => ∃ (w1 : World) (seen : Array Nat), w1.Alike wp ∧ wr = w1.alloc (.mapIter (some bm) clock seen clock) ∧ v = .int .i64 (seenSum es.toList seen)) (fun _ wr => (leftOf es (wr.iterSeen wp.heap.size)).size)
  case atStart => exact ⟨wp, #[], ⟨rfl, rfl, rfl⟩, rfl, by rw [seenSum_none]⟩
  case round =>
    obtain ⟨w1, seen, hal, rfl, rfl⟩ := hrel
    have hsz : w1.heap.size = wp.heap.size := by rw [hal.1]
    have hb1 : w1.heap[bm]? = some (.map es clock) := by rw [hal.1]; exact hb
    have law := run_next_map (P := Tryd.prog) w1 0 bm clock clock seen es clock hb1 I.st.1 (Nat.le_refl _)
    rw [hsz] at law
    rcases law with ⟨h0, hrun⟩ | ⟨e, he, w2, hal2, hrun⟩
    · have hnx : ∀ ty, (Instr.next (.pointer (some ⟨wp.heap.size, 0, none⟩)) false ty).run Tryd.prog (w1.alloc (.mapIter (some bm) clock seen clock)) = _ := fun _ => hrun
      have hsum : seenSum es.toList seen = l.length := by rw [seenSum_all es seen h0, htot.out]
      rw [hsum]
      clear hrun hrg
      have gz : GrA w (w1.alloc (.mapIter (some bm) clock seen clock)) := ((GrA.of_gr gwp).alike hal).trans ((Gr.refl _).alloc _)
      have hbz : (w1.alloc (.mapIter (some bm) clock seen clock)).heap[bm]? = some (.map es clock) := by
        rw [← hb1]; exact heap_alloc_old w1 _ (Array.getElem?_eq_some_iff.1 hb1).1
      have hlz := hl.grA gz
      go_wp2_with fail
      generalize w1.alloc (.mapIter (some bm) clock seen clock) = wz at *
      have hbzl : bm < wz.heap.size := (Array.getElem?_eq_some_iff.1 hbz).1
      clear hnx h0 hsum hvals hnn htot hb1 hal hsz
      go_loopw [31] (fun iv wr => ∃ k : Nat, k ≤ l.length ∧ iv = .int .i64 k ∧ Gr wz wr) (fun iv _ => l.length - (intOf iv).toNat)
      case atStart => exact ⟨0, Nat.zero_le _, rfl, Gr.refl _⟩
      case round =>
        obtain ⟨k, hk, rfl, hg⟩ := hrel
        by_cases hlt : k < l.length
        · obtain ⟨s, hs⟩ := get_some l k hlt
          obtain ⟨b, off, rfl, hbb, c0, c1, c2⟩ := (hlz.gr hg) k s hs
          by_cases h300 : (300 : Int) < k
          · go_wp2_with fail
            go_ret
            exact ⟨rfl, gz.trans (hg.alloc _)⟩
          · obtain ⟨wo, rfl⟩ : ∃ wo : World, wo = wr := ⟨_, rfl⟩
            have hsk := hks.out s (get_mem hs)
            replace hs := Lib.hid hs
            go_wp2_with fail
            go_loopw [40, 9] (fun jv nv wr => ∃ j : Nat, j ≤ l.length ∧ jv = .int .i64 j ∧ nv = .int .i64 (cntS (l.take j) s : Nat) ∧ Gr (wo.alloc (.cells #[.int .i64 s.k, .int .i64 s.q, .int .i64 s.t] 27)) wr) (fun jv _ _ => l.length - (intOf jv).toNat)
            case atStart => exact ⟨0, Nat.zero_le _, rfl, rfl, Gr.refl _⟩
            case round =>
              obtain ⟨j, hj, rfl, rfl, hgx⟩ := hrel
              obtain ⟨cx, fx, sx⟩ := hgx.cells
              simp only [World.size_alloc] at cx fx sx
              have zx : wo.heap.size < wr.heap.size := by omega
              have kx := fun o => cx wo.heap.size o (by omega)
              clear cx fx
              have hgz : Gr wz wr := (hg.alloc _).trans hgx
              have hcn := cntS_le (l.take j) s
              rw [List.length_take] at hcn
              by_cases hjl : j < l.length
              · obtain ⟨t, ht⟩ := get_some l j hjl
                obtain ⟨b', off', he', hbb', t0, t1, t2⟩ := (hlz.gr hgz) j t ht
                cases he'
                have hsn := cntS_snoc (l.take j) s t
                rw [← take_snoc ht] at hsn
                replace ht := Lib.hid ht
                by_cases hst : s = t
                · rw [if_pos (sameS_iff.2 hst)] at hsn
                  subst hst
                  replace hsn := Lib.hid hsn
                  have hc9 : (cntS (l.take j) s : Int) + 1 ≤ 9223372036854775807 := by omega
                  go_wp2_with fail
                  go_roundw
                  case rel => exact ⟨j + 1, by omega, by go_num, by rw [hsn.out]; go_num, hgx.alloc _⟩
                  case measure => simp [intOf]; omega
                · rw [if_neg (fun h => hst (sameS_iff.1 h))] at hsn
                  replace hsn := Lib.hid hsn
                  have hcase : ¬ t.k = s.k ∨ (t.k = s.k ∧ ¬ t.q = s.q) ∨ (t.k = s.k ∧ t.q = s.q ∧ ¬ t.t = s.t) := by
                    by_cases q1 : t.k = s.k
                    · by_cases q2 : t.q = s.q
                      · refine .inr (.inr ⟨q1, q2, fun q3 => hst ?_⟩)
                        obtain ⟨k1, k2, k3⟩ := s
                        obtain ⟨j1, j2, j3⟩ := t
                        simp_all
                      · exact .inr (.inl ⟨q1, q2⟩)
                    · exact .inl q1
                  clear hst
                  rcases hcase with q | ⟨q1, q⟩ | ⟨q1, q2, q⟩
                  · have e1 : (t.k == s.k) = false := by simpa using q
                    clear q
                    go_wp2_with fail
                    go_roundw
                    case rel => exact ⟨j + 1, by omega, by go_num, by rw [hsn.out]; rfl, hgx.alloc _⟩
                    case measure => simp [intOf]; omega
                  · have e1 : (t.q == s.q) = false := by simpa using q
                    rw [q1] at t0
                    clear q q1
                    go_wp2_with fail
                    go_roundw
                    case rel => exact ⟨j + 1, by omega, by go_num, by rw [hsn.out]; rfl, hgx.alloc _⟩
                    case measure => simp [intOf]; omega
                  · have e1 : (t.t == s.t) = false := by simpa using q
                    rw [q1] at t0
                    rw [q2] at t1
                    clear q q1 q2
                    go_wp2_with fail
                    go_roundw
                    case rel => exact ⟨j + 1, by omega, by go_num, by rw [hsn.out]; rfl, hgx.alloc _⟩
                    case measure => simp [intOf]; omega
              · have hall : l.take j = l := List.take_of_length_le (by omega)
                rw [hall]
                have hbx : wr.heap[bm]? = some (.map es clock) := by rw [hgz.block bm hbzl]; exact hbz
                have hlook := cnt_look hbx I hks.out (Nat.le_of_lt hmm) hsk
                go_wp2_with fail
                go_roundw
                case rel => exact ⟨k + 1, by omega, by go_num, hgz⟩
                case measure => simp [intOf]; omega
        · go_wp2_with fail
          go_ret
          exact ⟨rfl, gz.trans hg⟩
    · obtain ⟨v, hval, hv0⟩ := hvals.out e (mem_left he).1
      rw [hval] at hrun
      have hnx : ∀ ty, (Instr.next (.pointer (some ⟨wp.heap.size, 0, none⟩)) false ty).run Tryd.prog (w1.alloc (.mapIter (some bm) clock seen clock)) = _ := fun _ => hrun
      have hsz2 : w2.heap.size = wp.heap.size := by rw [hal2.1, hal.1]
      have hb2 : w2.heap[bm]? = some (.map es clock) := by rw [hal2.1]; exact hb1
      have hen := run_entry_map (P := Tryd.prog) w2 bm clock seen es clock e hb2 (mem_left he).1 I.st.2.1
      rw [hsz2, hval] at hen
      have hpush := seenSum_push seen e (mem_left he).2 es.toList I.st.2.1 (mem_left he).1
      rw [hval] at hpush
      have hbd := seen_bd seen es.toList hnn.out
      have hbd2 := seen_bd (seen.push e.born) es.toList hnn.out
      rw [htot.out] at hbd hbd2
      obtain ⟨b1, b2⟩ := hbd
      obtain ⟨b3, b4⟩ := hbd2
      have hpv : valOf (.int .i64 v) = v := rfl
      rw [hpv] at hpush
      have b5 : seenSum es.toList seen + v ≤ 9223372036854775807 := by omega
      replace hpush := Lib.hid hpush
      clear hpv hrun
      go_wp2_with fail
      go_roundw
      case rel =>
        exact ⟨w2, seen.push e.born, ⟨hal2.1.trans hal.1, hal2.2.1.trans hal.2.1, hal2.2.2.trans hal.2.2⟩, rfl, by rw [hpush.out]⟩
      case measure =>
        rw [← hsz2, World.iterSeen_alloc, hsz2, ← hsz, World.iterSeen_alloc]
        exact left_shrinks es seen e he
end Go.Proofs.YtkfkfcfbcfcbkaaDoor
