/- Sorting and compacting an own slice of ints. admit.deadlines. -/
import Derived.Test.YtglfdnfojpdkjaaGreatDoorJ17
import Derived.Test.YtglfdnfojpdkjaaGreatDoorQ0
import Derived.Lib.OwnBridge
import Derived.Test.YtglfdnfojpdkjaaGreatDoorJ16
namespace Go.Proofs.YtglfdnfojpdkjaaGreatDoor
section
open Go.RowKit Go.Sort Go.Lib

theorem flat_ints (l : List Int) : l.flatMap intC = l.map (Value.int .i64) := by
  induction l with
  | nil => rfl
  | cons a l ih => rw [List.flatMap_cons, ih]; rfl
theorem owns_grow {w : World} {base : Nat} {e : TypeId} {size : Nat} {v : Value} {n : Nat} {xs : List Value} (h : w.ownsRow base e size v n xs) (os : Array Obj) : (grow w os).ownsRow base e size v n xs := by
  refine ⟨h.1, ?_⟩
  rcases h.2 with hn | ⟨b, cap, cur, h1, h2, h3, h4⟩
  · exact .inl hn
  · exact .inr ⟨b, cap, cur, h1, h2, by rw [heap_grow_old w os (Array.getElem?_eq_some_iff.1 h3).1]; exact h3, h4⟩
theorem gr_grow {W w : World} (h : Gr W w) (os : Array Obj) : Gr W (grow w os) :=
  ⟨h.os, h.tape, h.output, by have := h.size; simp; omega, fun k hk => by rw [heap_grow_old w os (by have := h.size; omega)]; exact h.block k hk⟩

theorem sort_owned {W w : World} {base : Nat} {v : Value} {ls : List Int} (h : w.ownsRow base 3 1 v ls.length (ls.flatMap intC)) (g : Gr W w) (hb : W.heap.size ≤ base) (hl : ls.length ≤ 40000) :
    Calls Tryz.prog 166 #[v] w fun e w' => e = .returned (.tuple #[]) ∧ Gr W w' ∧ w'.ownsRow base 3 1 v ls.length ((ls.mergeSort fun x y => decide (x ≤ y)).flatMap intC) := by
  rw [flat_ints] at h
  rw [flat_ints]
  by_cases hv : v = .slice none 0 0
  · subst hv
    have h0 : ls.length = 0 := by
      rcases h.2 with ⟨_, h0⟩ | ⟨g, cap, cur, e0, _⟩
      · exact h0
      · cases e0
    obtain rfl := List.length_eq_zero_iff.1 h0
    refine (Tryz.slices_Sort_int_none none 0 w).mono ?_
    rintro e w' ⟨rfl, rfl⟩
    exact ⟨rfl, g, by simpa using h⟩
  · obtain ⟨q, cap, rfl, hbq, hq, hn, hm, hlen, hH⟩ := holds_of_ownsRow h hv
    refine (Tryz.slices_Sort_int q 0 cap ls w hH hq (by omega)).mono ?_
    rintro e w' ⟨rfl, n, os, rfl⟩
    refine ⟨rfl, gr_grow (below_putRow g (by omega)) os, owns_grow ?_ os⟩
    have := ownsRow_putRow (q := n) (k := ls.length) h (ys := ls.mergeSort fun x y => decide (x ≤ y)) (by simp) (Nat.le_refl _)
    rwa [List.take_of_length_le (by simp)] at this
theorem compact_owned {W w : World} {base : Nat} {v : Value} {ls : List Int} (h : w.ownsRow base 3 1 v ls.length (ls.flatMap intC)) (g : Gr W w) (hb : W.heap.size ≤ base) (hl : ls.length ≤ 40000) :
    Calls Tryz.prog 167 #[v] w fun e w' => ∃ v', e = .returned v' ∧ Gr W w' ∧ w'.ownsRow base 3 1 v' (compact ls).length ((compact ls).flatMap intC) := by
  rw [flat_ints] at h
  rw [flat_ints]
  by_cases hv : v = .slice none 0 0
  · subst hv
    have h0 : ls.length = 0 := by
      rcases h.2 with ⟨_, h0⟩ | ⟨g, cap, cur, e0, _⟩
      · exact h0
      · cases e0
    obtain rfl := List.length_eq_zero_iff.1 h0
    refine (Tryz.slices_Compact_int_empty none 0 w).mono ?_
    rintro e w' ⟨rfl, rfl⟩
    exact ⟨_, rfl, g, h⟩
  · obtain ⟨q, cap, rfl, hbq, hq, hn, hm, hlen, hH⟩ := holds_of_ownsRow h hv
    refine (Tryz.slices_Compact_int q 0 cap ls w hH (by omega) hn).mono ?_
    rintro e w' ⟨rfl, n, rfl⟩
    have hcl := compact_length_le ls
    refine ⟨_, rfl, below_putRow g (by omega), ?_⟩
    have := ownsRow_putRow (q := n) (k := (compact ls).length) h (ys := compact ls ++ List.replicate (ls.length - (compact ls).length) 0) (by simp; omega) hcl
    rwa [List.take_left'  rfl] at this

theorem mem_compact {ls : List Int} {x : Int} : x ∈ compact ls ↔ x ∈ ls := by
  unfold compact compactUpTo
  rw [List.mem_map]
  constructor
  · rintro ⟨j, hj, rfl⟩
    have h1 := List.mem_range.1 (List.mem_filter.1 hj).1
    have e1 : ls.toArray[j]! = ls[j] := by simp [getElem!_pos, h1]
    rw [e1]
    exact List.getElem_mem h1
  · intro hx
    obtain ⟨i, hi, rfl⟩ := List.getElem_of_mem hx
    have key : ∀ i, (hi : i < ls.length) → ∃ j, j ∈ (List.range ls.length).filter (keeps ls.toArray) ∧ ls.toArray[j]! = ls[i] := by
      intro i
      induction i with
      | zero =>
        intro hi
        exact ⟨0, List.mem_filter.2 ⟨List.mem_range.2 hi, by simp [keeps]⟩, by simp [getElem!_pos, hi]⟩
      | succ i ih =>
        intro hi
        by_cases he : ls[i + 1] = ls[i]
        · obtain ⟨j, hj, hj2⟩ := ih (by omega)
          exact ⟨j, hj, by rw [hj2, he]⟩
        · refine ⟨i + 1, List.mem_filter.2 ⟨List.mem_range.2 hi, ?_⟩, by simp [getElem!_pos, hi]⟩
          refine keeps_pos ?_
          simp [getElem!_pos, hi, show i < ls.length by omega]
          exact he
    exact key i hi

end

open Go.RowKit Go.Lib

/-- ls: the lengths up to MaxLook at which one of these deadlines falls. -/
def Deads (l : List Tsk) (ls : List Int) : Prop := ∀ x, x ∈ ls ↔ (x ≤ 4096 ∧ deadB l x = true)
theorem deads_nil : Deads [] [] := fun x => by simp [deadB]
theorem deads_snoc {l : List Tsk} {t : Tsk} {ls ls' : List Int} {j : Nat} (h : Deads l ls) (ht : LegT t) (hm : ∀ x, x ∈ ls' ↔ x ∈ ls ∨ ∃ i : Nat, i < j ∧ x = t.d + i * t.p) (h1 : 4096 < t.d + j * t.p) (h2 : ∀ i : Nat, i < j → t.d + i * t.p ≤ 4096) : Deads (l ++ [t]) ls' := by
  obtain ⟨a1, a2, a3, a4, a5, a6⟩ := ht
  intro x
  rw [hm x, h x]
  have e : deadB (l ++ [t]) x = (deadB l x || decide (t.d ≤ x ∧ (x - t.d) % t.p = 0)) := by unfold deadB; simp
  rw [e, Bool.or_eq_true, decide_eq_true_iff]
  constructor
  · rintro (⟨b1, b2⟩ | ⟨i, hi, rfl⟩)
    · exact ⟨b1, .inl b2⟩
    · refine ⟨h2 i hi, .inr ⟨?_, ?_⟩⟩
      · have := Int.mul_nonneg (show (0 : Int) ≤ i by omega) (show 0 ≤ t.p by omega)
        omega
      · rw [show t.d + i * t.p - t.d = i * t.p by omega, Int.mul_emod_left]
  · rintro ⟨b1, b2 | ⟨b2, b3⟩⟩
    · exact .inl ⟨b1, b2⟩
    · right
      have e1 := Int.mul_ediv_add_emod (x - t.d) t.p
      have e2 := Int.ediv_nonneg (show 0 ≤ x - t.d by omega) (show 0 ≤ t.p by omega)
      have e3 : (((x - t.d) / t.p).toNat : Int) = (x - t.d) / t.p := by omega
      generalize (x - t.d) / t.p = q at *
      have e4 : q * t.p = t.p * q := Int.mul_comm _ _
      refine ⟨q.toNat, ?_, by rw [e3]; omega⟩
      by_cases hq : q.toNat < j
      · exact hq
      · have e5 := Int.mul_le_mul_of_nonneg_right (show (j : Int) ≤ q by omega) (show 0 ≤ t.p by omega)
        omega
theorem steps_few {t : Tsk} (ht : LegT t) {j : Nat} (h : ∀ i : Nat, i < j → t.d + i * t.p ≤ 4096) : j ≤ 4096 := by
  obtain ⟨a1, a2, a3, a4, a5, a6⟩ := ht
  cases j with
  | zero => omega
  | succ j =>
    have h1 := h j (by omega)
    have h2 := Int.mul_le_mul_of_nonneg_left (show 1 ≤ t.p by omega) (show (0 : Int) ≤ j by omega)
    omega

theorem own_ne {w : World} {base : Nat} {e : TypeId} {size : Nat} {v : Value} {n : Nat} {xs : List Value} (h : w.ownsRow base e size v n xs) {b : Nat} {cs : Array Value} {t : TypeId} (hb : Blk w b cs t) (hte : t ≠ e) : some b ≠ v.ownBlock := by
  intro he
  obtain ⟨_, h | ⟨g, cap, cur, hv, hg, hh, _⟩⟩ := h
  · obtain ⟨rfl, _⟩ := h; simp [Value.ownBlock] at he
  · subst hv
    simp only [Value.ownBlock, Option.some.injEq] at he
    subst he
    unfold Blk at hb
    rw [hh] at hb
    cases hb
    exact hte rfl
theorem Blk.grown {w w' : World} {b : Nat} {cs : Array Value} {t : TypeId} {row : Option Nat} (h : Blk w b cs t) (hg : w.grownBy w' row) (hn : some b ≠ row) : Blk w' b cs t := by unfold Blk; rw [hg.block b h.lt hn]; exact h

set_option maxRecDepth 100000 in
set_option maxHeartbeats 3200000 in
theorem deadlines_any (a : Option Addr) (l : List Tsk) (c : Nat) (w : World) (hl : TsksAt w a l) (hok : tasksOk l = true) :
    Calls Tryz.prog 146 #[.slice a l.length c] w fun e w' => ∃ aL ls cL, e = .returned (.slice aL ls.length cL) ∧ ls.length ≤ 40000 ∧ Deads l ls ∧ IntsAt w' aL ls ∧ Gr w w' := by
  obtain ⟨i3, hi, hz0, hz1, hz2⟩ := info_parts Tryz.infoInt
  have h8 := (tasksOk_parts hok).2
  have hleg := fun k t (h : l[k]? = some t) => legT_mem hok h
  replace hok := Lib.hid hok
  replace hleg := Lib.hid hleg
  go_enter Tryz.func146, Tryz.ntmps146
  go_wp2_with fail
  go_loopw [9, 3] (fun iv ov wr => ∃ (k : Nat) (ls : List Int), k ≤ l.length ∧ iv = .int .i64 k ∧ ls.length ≤ k * 4096 ∧ Deads (l.take k) ls ∧ wr.ownsRow w.heap.size 3 1 ov ls.length (ls.flatMap intC) ∧ Gr w wr) (fun iv _ _ => l.length - (intOf iv).toNat)
  case atStart => exact ⟨0, [], Nat.zero_le _, rfl, by simp, by rw [List.take_zero]; exact deads_nil, World.ownsRow_nil _ _ _ _, Gr.refl _⟩
  case round =>
    obtain ⟨k, ls, hk, rfl, hln, hde, hown, hg⟩ := hrel
    replace hde := Lib.hid hde
    by_cases hlt : k < l.length
    · obtain ⟨t, ht⟩ := get_some l k hlt
      obtain ⟨b, off, rfl, hb, c0, c1, c2, c3⟩ := (hl.gr hg) k t ht
      have hlt' := hleg.out k t ht
      have hts := take_snoc ht
      obtain ⟨a1, a2, a3, a4, a5, a6⟩ := hlt'
      replace hts := Lib.hid hts
      replace ht := Lib.hid ht
      obtain ⟨wo, rfl⟩ : ∃ wo : World, wo = wr := ⟨_, rfl⟩
      have gwo := hg.alloc (.cells #[.int .i64 t.c, .int .i64 t.p, .int .i64 t.d, .int .i64 t.s] 115)
      have hB := Blk.new wo #[.int .i64 t.c, .int .i64 t.p, .int .i64 t.d, .int .i64 t.s] 115
      have hown0 := owns_gr hown ((Gr.refl wo).alloc (.cells #[.int .i64 t.c, .int .i64 t.p, .int .i64 t.d, .int .i64 t.s] 115))
      replace hB := Lib.hid hB
      have hwb : w.heap.size ≤ wo.heap.size := hg.size
      clear hown
      go_wp2_with fail
      go_loopw [6, 3] (fun lv ov wr => ∃ (j : Nat) (ls' : List Int), lv = .int .i64 (t.d + j * t.p) ∧ ls'.length = ls.length + j ∧ (∀ x, x ∈ ls' ↔ x ∈ ls ∨ ∃ i : Nat, i < j ∧ x = t.d + i * t.p) ∧ (∀ i : Nat, i < j → t.d + i * t.p ≤ 4096) ∧ wr.ownsRow w.heap.size 3 1 ov ls'.length (ls'.flatMap intC) ∧ Blk wr wo.heap.size #[.int .i64 t.c, .int .i64 t.p, .int .i64 t.d, .int .i64 t.s] 115 ∧ Gr w wr) (fun lv _ _ => 8192 - (intOf lv).toNat)
      case atStart => exact ⟨0, ls, by go_num, by omega, (fun x => by simp), (fun i hi => by omega), hown0, hB.out, gwo⟩
      case round =>
        obtain ⟨j, ls', rfl, hlj, hmem, hfew, hown, hBt, hgr⟩ := hrel
        have hj4 := steps_few ⟨a1, a2, a3, a4, a5, a6⟩ hfew
        have hjp : 0 ≤ (j : Int) * t.p := Int.mul_nonneg (by omega) (by omega)
        have hjp2 : (j : Int) * t.p ≤ 4096 * 256 := Int.mul_le_mul (by omega) (by omega) (by omega) (by omega)
        have c0 := hBt.cell (i := 1) (v := .int .i64 t.p) rfl
        have hjn : t.d + ((j + 1 : Nat) : Int) * t.p = t.d + (j : Int) * t.p + t.p := by push_cast; rw [Int.add_mul]; omega
        replace hmem := Lib.hid hmem
        replace hfew := Lib.hid hfew
        replace hBt := Lib.hid hBt
        have hsz := hgr.size
        have hwt : wo.heap.size < wr.heap.size := hBt.out.lt
        by_cases hle : t.d + (j : Int) * t.p ≤ 4096
        · obtain ⟨v0, hv0⟩ : ∃ v0, v0 = t.d + (j : Int) * t.p := ⟨_, rfl⟩
          rw [← hv0] at hle hjn ⊢
          have hmem2 : ∀ x, x ∈ ls' ++ [v0] ↔ x ∈ ls ∨ ∃ i : Nat, i < j + 1 ∧ x = t.d + i * t.p := fun x => by
            rw [List.mem_append, hmem.out x, List.mem_singleton]
            constructor
            · rintro ((h1 | ⟨i, hi, rfl⟩) | rfl)
              · exact .inl h1
              · exact .inr ⟨i, by omega, rfl⟩
              · exact .inr ⟨j, by omega, hv0⟩
            · rintro (h1 | ⟨i, hi, rfl⟩)
              · exact .inl (.inl h1)
              · by_cases hij : i = j
                · subst hij; exact .inr hv0.symm
                · exact .inl (.inr ⟨i, by omega, rfl⟩)
          have hfew2 : ∀ i : Nat, i < j + 1 → t.d + i * t.p ≤ 4096 := fun i hi => by
            by_cases hij : i = j
            · subst hij; omega
            · exact hfew.out i (by omega)
          have hj5 := steps_few ⟨a1, a2, a3, a4, a5, a6⟩ hfew2
          have hv1 : 0 ≤ v0 := by omega
          replace hmem2 := Lib.hid hmem2
          replace hfew2 := Lib.hid hfew2
          replace hv0 := Lib.hid hv0
          replace hjn := Lib.hid hjn
          have n1 : ls'.length + ([v0] : List Int).length ≤ maxLen := by unfold maxLen; simp; omega
          have n2 : (ls'.length + ([v0] : List Int).length) * 8 ≤ 140737488355328 := by simp; omega
          have n3 : w.heap.size ≤ wr.heap.size := hsz
          have n4 : (ls' ++ [v0]).length = ls.length + (j + 1) := by rw [List.length_append, hlj]; simp; omega
          replace n4 := Lib.hid n4
          go_wp2_with (at_builtin; refine wpList_append_recs (k := 1) (enc := intC) rfl _ _ 106 rfl w.heap.size 3 i3 _ 8 Tryz.underlying106 hi hz0 hz1 hz2 rfl (by decide) intC_len intC_one _ ls' rfl (hown.alloc _) (some ⟨wr.heap.size, 0, none⟩) 1 [v0] rfl (recs_alloc intC_len wr [v0] _ _ rfl) (fun h => by cases h) n1 n2 (le_alloc n3 _) ?_; intro v1 w1 hown1 hgr1; have hB1 := (hBt.out.alloc (.cells #[.int .i64 v0] 3)).grown hgr1 (own_ne hown hBt.out (by decide)); have hg1 : Gr w w1 := (hgr.alloc _).grown hgr1 (own_block hown); have c7 := hB1.cell (i := 1) (v := .int .i64 t.p) rfl; replace hB1 := Lib.hid hB1)
          go_roundw
          case rel => exact ⟨j + 1, _, by rw [hjn.out], n4.out, hmem2.out, hfew2.out, hown1, hB1.out, hg1⟩
          case measure => simp [intOf]; omega
        · have hgt : 4096 < t.d + (j : Int) * t.p := by omega
          have hd2 : Deads (l.take (k + 1)) ls' := by
            rw [hts.out]
            exact deads_snoc hde.out ⟨a1, a2, a3, a4, a5, a6⟩ hmem.out hgt hfew.out
          replace hd2 := Lib.hid hd2
          go_wp2_with fail
          go_roundw
          case rel => exact ⟨k + 1, ls', by omega, by go_num, by omega, hd2.out, hown, hgr⟩
          case measure => simp [intOf]; omega
    · have hall : l.take k = l := List.take_of_length_le (by omega)
      rw [hall] at hde
      have h40 : ls.length ≤ 40000 := by omega
      go_wp2_with fail
      refine (sort_owned hown hg (Nat.le_refl _) h40).mono ?_
      rintro e w2 ⟨rfl, g2, hown2⟩
      have hlm : (ls.mergeSort fun x y => decide (x ≤ y)).length = ls.length := List.length_mergeSort ls
      have hown3 : w2.ownsRow w.heap.size 3 1 u3 (ls.mergeSort fun x y => decide (x ≤ y)).length ((ls.mergeSort fun x y => decide (x ≤ y)).flatMap intC) := by rw [hlm]; exact hown2
      have hde2 : Deads l (compact (ls.mergeSort fun x y => decide (x ≤ y))) := fun x => by
        rw [mem_compact, List.mem_mergeSort]
        exact hde.out x
      have hlc := compact_length_le (ls.mergeSort fun x y => decide (x ≤ y))
      have hcm := compact_owned hown3 g2 (Nat.le_refl _) (by omega)
      have hlc2 : (compact (ls.mergeSort fun x y => decide (x ≤ y))).length ≤ 40000 := by omega
      generalize compact (ls.mergeSort fun x y => decide (x ≤ y)) = ls2 at *
      clear hown2 hown3 hown
      replace hde2 := Lib.hid hde2
      replace hcm := Lib.hid hcm
      go_wp2_with fail
      refine hcm.out.mono ?_
      rintro e w3 ⟨v3, rfl, g3, hown4⟩
      obtain ⟨a3, c3, rfl, hr3, _, _⟩ := recs_of_owns intC_len hown4
      replace hr3 := Lib.hid hr3
      clear hown4
      go_wp2_with fail
      go_ret
      exact ⟨a3, ls2, c3, rfl, hlc2, hde2.out, hr3.out, g3⟩
end Go.Proofs.YtglfdnfojpdkjaaGreatDoor
/- admit.Guest under PolicyDeadline. -/
namespace Go.Proofs.YtglfdnfojpdkjaaGreatDoor
open Go.RowKit

set_option maxHeartbeats 800000 in
theorem guest1_fn (lb : Nat) (a : Option Addr) (l : List Tsk) (c : Nat) (n : Int) (w : World) (hl : TsksAt w a l) (h : chkT l n = none) (hc : w.cell? ⟨lb, 0, none⟩ = some (.slice a l.length c)) :
    Calls Tryz.prog 144 #[.int .i64 n, .pointer (some ⟨lb, 0, none⟩)] w fun e w' => e = .returned (.tuple #[.int .i64 (tasksI l n), .nilIface]) ∧ Gr w w' := by
  have hd := dtasks_yes a l c n w hl h
  have hlb := cell_lt0 hc
  replace h := Lib.hid h
  replace hd := Lib.hid hd
  go_enter Tryz.func144, Tryz.ntmps144
  go_wp2_with fail
  refine (hd.out).mono ?_
  rintro e wa ⟨rfl, ga⟩
  obtain ⟨ca, fa, sa⟩ := ga.cells
  try simp only [size_drewN] at ca fa sa
  try simp only [World.size_alloc] at ca fa sa
  try simp only [World.size_drew] at ca fa sa
  try simp only [World.size_setCell] at ca fa sa
  go_wp2_with fail
  go_ret2
  exact ⟨rfl, ga⟩

theorem tasksI_bd {l : List Tsk} (h : tasksOk l = true) {n : Int} (hn : LenOk n) : 0 ≤ tasksI l n ∧ tasksI l n ≤ 8 * (1099511627776 + 256) + 256 := by
  have h1 := tsumI_bd h hn l.length
  have h2 := blkI_bd h (n := n) l.length
  rw [List.take_length] at h1 h2
  unfold tasksI
  split <;> omega

set_option maxRecDepth 100000 in
set_option maxHeartbeats 3200000 in
theorem below_tasks (s : Srv) (aL : Option Addr) (ls : List Int) (cL : Nat) (lb : Nat) (a : Option Addr) (l : List Tsk) (c : Nat) (w : World) (h : parOk s = true) (hL : IntsAt w aL ls) (hm : ls.length ≤ 40000) (hls : ∀ x ∈ ls, LenOk x) (hl : TsksAt w a l) (hk : ∀ x, LenOk x → chkT l x = none) (hok : tasksOk l = true) (hc : w.cell? ⟨lb, 0, none⟩ = some (.slice a l.length c)) :
    Calls Tryz.prog 132 #[.agg #[.int .i64 s.k, .int .i64 s.q, .int .i64 s.t], .slice aL ls.length cL, .func (.func 144) #[] #[.pointer (some ⟨lb, 0, none⟩)]] w fun e w' => e = .returned (.bool (belowB s ls (tasksI l))) ∧ Gr w w' := by
  have hlb := cell_lt0 hc
  unfold belowB
  replace hok := Lib.hid hok
  go_enter Tryz.func132, Tryz.ntmps132
  go_wp2_with fail
  go_loopw [14] (fun iv wr => ∃ k : Nat, k ≤ ls.length ∧ iv = .int .i64 k ∧ (ls.take k).all (fun l' => decide (tasksI l l' ≤ givI (rowI s) l')) = true ∧ Gr (w.alloc (.cells #[.int .i64 s.k, .int .i64 s.q, .int .i64 s.t] 24)) wr) (fun iv _ => ls.length - (intOf iv).toNat)
  case atStart => exact ⟨0, Nat.zero_le _, rfl, rfl, Gr.refl _⟩
  case round =>
    obtain ⟨k, hkl, rfl, hall, hg⟩ := hrel
    have gall : Gr w wr := ((Gr.refl w).alloc _).trans hg
    obtain ⟨cg, fg, sg⟩ := hg.cells
    simp only [World.size_alloc] at cg fg sg
    have k1 := fun o => cg w.heap.size o (by omega)
    clear cg fg
    replace hall := Lib.hid hall
    by_cases hlt : k < ls.length
    · obtain ⟨x, hx⟩ := get_some ls k hlt
      obtain ⟨b, off, rfl, hb, c0⟩ := (hL.gr gall).get hx
      have hxo := hls x (get_mem hx)
      have hts := take_snoc hx
      have hbd := tasksI_bd hok.out hxo
      have hgv := giv_nonneg (rowI_ok h) x
      have hgl := giv_le (rowI_ok h) hxo.1
      have hxo2 := hxo.2
      have hk1 := fun w' (g : Gr w w') => guest1_fn lb a l c x w' (hl.gr g) (hk x hxo) (by rw [g.cells.1 lb 0 hlb]; exact hc)
      have hbo := fun w' => bound_yes s x w' h hxo
      obtain ⟨v, hv⟩ : ∃ v, v = decide (tasksI l x ≤ givI (rowI s) x) := ⟨_, rfl⟩
      have hnext : (ls.take (k + 1)).all (fun l' => decide (tasksI l l' ≤ givI (rowI s) l')) = v := by
        rw [hts, List.all_append, hall.out, hv]; simp
      have hno : v = false → ls.all (fun l' => decide (tasksI l l' ≤ givI (rowI s) l')) = false := fun hvf => by
        cases hh : ls.all (fun l' => decide (tasksI l l' ≤ givI (rowI s) l')) with
        | false => rfl
        | true =>
          have := List.all_eq_true.1 hh x (get_mem hx)
          rw [← hv, hvf] at this
          cases this
      obtain ⟨hbd1, hbd2⟩ := hbd
      replace hnext := Lib.hid hnext
      replace hno := Lib.hid hno
      replace hk1 := Lib.hid hk1
      replace hbo := Lib.hid hbo
      clear hts
      replace hx := Lib.hid hx
      replace hxo := Lib.hid hxo
      cases v with
      | true =>
        have hle : tasksI l x ≤ givI (rowI s) x := of_decide_eq_true hv.symm
        clear hv
        go_wp2_with fail
        refine (hk1.out wr gall).mono ?_
        rintro e w2 ⟨rfl, g2⟩
        obtain ⟨c2, f2, s2⟩ := g2.cells
        have k2 := fun o => c2 w.heap.size o (by omega)
        clear c2 f2
        go_wp2_with fail
        refine (hbo.out _).mono ?_
        rintro e w3 ⟨rfl, g3⟩
        go_wp2_with fail
        go_roundw
        case rel => exact ⟨k + 1, by omega, by go_num, hnext.out, (hg.trans g2).trans g3⟩
        case measure => simp [intOf]; omega
      | false =>
        have hle : givI (rowI s) x < tasksI l x := by have := of_decide_eq_false hv.symm; omega
        clear hv
        go_wp2_with fail
        refine (hk1.out wr gall).mono ?_
        rintro e w2 ⟨rfl, g2⟩
        obtain ⟨c2, f2, s2⟩ := g2.cells
        have k2 := fun o => c2 w.heap.size o (by omega)
        clear c2 f2
        go_wp2_with fail
        refine (hbo.out _).mono ?_
        rintro e w3 ⟨rfl, g3⟩
        go_wp2_with fail
        go_ret
        exact ⟨retb (hno.out trivial).symm, (gall.trans g2).trans g3⟩
    · have hall2 : ls.take k = ls := List.take_of_length_le (by omega)
      rw [hall2] at hall
      go_wp2_with fail
      go_ret
      exact ⟨retb hall.out.symm, gall⟩

/-- A guest under PolicyDeadline: at every deadline it asks for no more than the server gives. -/
def fitsD (s : Srv) (l : List Tsk) : Bool := (List.range 4097).all fun n => !deadB l (n : Int) || decide (tasksI l n ≤ givI (rowI s) n)
theorem dead_pos {l : List Tsk} (hok : tasksOk l = true) {x : Int} (h : deadB l x = true) : 1 ≤ x := by
  unfold deadB at h
  rw [List.any_eq_true] at h
  obtain ⟨t, ht, hd⟩ := h
  obtain ⟨h1, h2, _⟩ := (tasksOk_parts hok).1 t ht
  have := (of_decide_eq_true hd).1
  omega
theorem fitsD_iff {s : Srv} {l : List Tsk} : fitsD s l = true ↔ ∀ n : Nat, n ≤ 4096 → deadB l n = true → tasksI l n ≤ givI (rowI s) n := by
  unfold fitsD
  rw [List.all_eq_true]
  constructor
  · intro h n hn hd
    have := h n (List.mem_range.2 (by omega))
    rw [hd] at this
    exact of_decide_eq_true this
  · intro h n hn
    cases hd : deadB l (n : Int) with
    | false => rfl
    | true => exact decide_eq_true (h n (by have := List.mem_range.1 hn; omega) hd)
theorem below_deads {s : Srv} {l : List Tsk} {ls : List Int} (hok : tasksOk l = true) (h : Deads l ls) : belowB s ls (tasksI l) = fitsD s l := by
  rw [Bool.eq_iff_iff, fitsD_iff]
  unfold belowB
  rw [List.all_eq_true]
  constructor
  · intro hb n hn hd
    exact of_decide_eq_true (hb n ((h n).2 ⟨by omega, hd⟩))
  · intro hb x hx
    obtain ⟨h1, h2⟩ := (h x).1 hx
    have h3 := dead_pos hok h2
    have e : ((x.toNat : Nat) : Int) = x := by omega
    have := hb x.toNat (by omega) (by rw [e]; exact h2)
    rw [e] at this
    exact decide_eq_true this
theorem chkT_ok {l : List Tsk} (hok : tasksOk l = true) {x : Int} (hx : LenOk x) : chkT l x = none := by
  obtain ⟨h1, h2⟩ := hx
  unfold chkT
  rw [if_neg (by rw [hok]; decide), if_neg (by omega)]
end Go.Proofs.YtglfdnfojpdkjaaGreatDoor
