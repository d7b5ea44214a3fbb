/- desk.GetAsk of a frame of a question in form. Printed by gen_p34.py. desk.GetAsk of a frame of an order in form. Printed by gen_p35.py. -/
import Derived.Test.YtlgbnjaoadlolaaDoorP33
namespace Go.Proofs.YtlgbnjaoadlolaaDoor
open Go.RowKit

theorem listB_map (l : List Int) : listB l = (l.map Int.toNat).flatMap numB := by
  unfold listB
  rw [List.flatMap_map]
theorem tsk_nat (l : List Tsk) : (l.flatMap tskN).map Int.toNat = l.flatMap tskNat := by
  rw [List.map_flatMap]
  rfl
/-- An entry's bytes are read. -/
theorem ent_read {e : Ent} (hf : entF e = true) : ∃ k j, numsR 10 (listB (entN e)) = some ((headN e).map Int.toNat, k) ∧ numsR (4 * e.tasks.length) ((listB (entN e)).drop k) = some (e.tasks.flatMap tskNat, j) ∧ k + j = (listB (entN e)).length := by
  have hn := entN_nums hf
  have hB : listB (entN e) = ((headN e).map Int.toNat).flatMap numB ++ (e.tasks.flatMap tskNat).flatMap numB := by
    rw [listB_map]
    unfold entN
    rw [List.map_append, List.flatMap_append, tsk_nat]
  have h1 : ∀ n ∈ (headN e).map Int.toNat, n ≤ 1099511627776 := fun n hn' => by
    obtain ⟨x, hx, rfl⟩ := List.mem_map.1 hn'
    have := hn x (List.mem_append_left _ hx)
    omega
  have h2 : ∀ n ∈ e.tasks.flatMap tskNat, n ≤ 1099511627776 := fun n hn' => by
    rw [← tsk_nat] at hn'
    obtain ⟨x, hx, rfl⟩ := List.mem_map.1 hn'
    have := hn x (List.mem_append_right _ hx)
    omega
  have hlt : (e.tasks.flatMap tskNat).length = 4 * e.tasks.length := by
    rw [← tsk_nat, List.length_map, tsks_len]; omega
  refine ⟨(((headN e).map Int.toNat).flatMap numB).length, ((e.tasks.flatMap tskNat).flatMap numB).length, ?_, ?_, ?_⟩
  · rw [hB]; exact numsR_put _ _ h1
  · rw [hB, List.drop_left, ← hlt]
    have := numsR_put (e.tasks.flatMap tskNat) [] h2
    rwa [List.append_nil] at this
  · rw [hB, List.length_append]
theorem exE_okZ (n1 n2 : Nat) (w : World) : (⟨⟨n1, n2, 0, 0, ⟨0, 0, 0⟩, 0, [], 0⟩, none, 0⟩ : EntM).ok Any w := ⟨⟨fun i s hi => by simp at hi, fun x hx => by cases hx⟩, fun _ => rfl, Nat.le_refl _, Nat.zero_le _, by show (0 : Nat) * 32 ≤ _; omega⟩
theorem ptrs3 {w : World} {tb ab : Nat} {t : TypeId} (h : Blk w tb #[.pointer (some ⟨ab, 0, none⟩), .pointer (some ⟨ab, 1, none⟩), .pointer (some ⟨ab, 2, none⟩)] t) : ∀ j, j < 3 → w.cell? ⟨tb, j, none⟩ = some (.pointer (some ⟨ab, j, none⟩)) := fun j hj => by
  match j, hj with
  | 0, _ => exact h.cell rfl
  | 1, _ => exact h.cell rfl
  | 2, _ => exact h.cell rfl
/-- A question's order laid into its cells. -/
theorem Blk.set38 {w : World} {b : Nat} {t : TypeId} {u0 u1 u2 : Value} {us : List Value} (h : Blk w b (u0 :: u1 :: u2 :: us).toArray t) (hs : us.length = 8) (v3 v4 v5 v6 v7 v8 v9 v10 : Value) : Blk ((((((((w.setCell ⟨b, 3, none⟩ v3).setCell ⟨b, 4, none⟩ v4).setCell ⟨b, 5, none⟩ v5).setCell ⟨b, 6, none⟩ v6).setCell ⟨b, 7, none⟩ v7).setCell ⟨b, 8, none⟩ v8).setCell ⟨b, 9, none⟩ v9).setCell ⟨b, 10, none⟩ v10) b #[u0, u1, u2, v3, v4, v5, v6, v7, v8, v9, v10] t := by
  match us, hs with
  | [c3, c4, c5, c6, c7, c8, c9, c10], _ =>
    have h := ((((((((h.set 3 v3).set 4 v4).set 5 v5).set 6 v6).set 7 v7).set 8 v8).set 9 v9).set 10 v10)
    simpa only [List.setIfInBounds_toArray, List.set_cons_zero, List.set_cons_succ] using h
theorem GrX.set38 {S : List Nat} {w0 w : World} {b : Nat} (h : GrX S w0 w) (hb : b ∈ S) (v3 v4 v5 v6 v7 v8 v9 v10 : Value) : GrX S w0 ((((((((w.setCell ⟨b, 3, none⟩ v3).setCell ⟨b, 4, none⟩ v4).setCell ⟨b, 5, none⟩ v5).setCell ⟨b, 6, none⟩ v6).setCell ⟨b, 7, none⟩ v7).setCell ⟨b, 8, none⟩ v8).setCell ⟨b, 9, none⟩ v9).setCell ⟨b, 10, none⟩ v10) := ((((((((h.set (p := ⟨b, 3, none⟩) (.inl hb) v3).set (p := ⟨b, 4, none⟩) (.inl hb) v4).set (p := ⟨b, 5, none⟩) (.inl hb) v5).set (p := ⟨b, 6, none⟩) (.inl hb) v6).set (p := ⟨b, 7, none⟩) (.inl hb) v7).set (p := ⟨b, 8, none⟩) (.inl hb) v8).set (p := ⟨b, 9, none⟩) (.inl hb) v9).set (p := ⟨b, 10, none⟩) (.inl hb) v10)
set_option maxRecDepth 100000 in
set_option maxHeartbeats 6400000 in
/-- A question that brings nothing. -/
theorem getAsk_tree {G : List Nat} {E : Nat → Addr} (w : World) (hE : EAt G E w) (i0 : 0 ∈ G) (i1 : 1 ∈ G) (b off c : Nat) (L : List UInt8) (hS : BytesAt w (some ⟨b, off, none⟩) (frameB L)) (hL : L.length ≤ 32768) (hc : (frameB L).length ≤ c)
    (n1 n2 k : Nat) (hk : numsR 3 L = some ([2, n1, n2], k)) (he : k = L.length) (hf : askF 2 ⟨n1, n2, 0, 0, ⟨0, 0, 0⟩, 0, [], 0⟩ = true) :
    Calls Tryd.prog 20 #[.slice (some ⟨b, off, none⟩) (frameB L).length c] w fun r w' => r = .returned (.tuple #[.agg #[.int .i64 2, .int .i64 n1, .int .i64 n2, .int .i64 0, .int .i64 0, .int .i64 0, .int .i64 0, .int .i64 0, .int .i64 0, .slice none 0 0, .int .i64 0], .nilIface]) ∧ Gr w w' := by
  have hop := opened_yes (w.alloc (.cells #[.int .i64 0, .int .i64 0, .int .i64 0, .int .i64 0, .int .i64 0, .int .i64 0, .int .i64 0, .int .i64 0, .int .i64 0, .slice none 0 0, .int .i64 0] 31)) b off c L (hS.gr ((Gr.refl w).alloc _)) hL hc
  obtain ⟨N, hN⟩ : ∃ N, (frameB L).length = N := ⟨_, rfl⟩
  rw [hN] at hop ⊢
  replace hN := Lib.hid hN
  replace hop := Lib.hid hop
  replace hS := Lib.hid hS
  replace hk := Lib.hid hk
  replace he := Lib.hid he
  replace hf := Lib.hid hf
  go_enter Tryd.func20, Tryd.ntmps20
  go_wp2_with fail
  refine hop.out.mono ?_
  rintro r w1 ⟨rb, rfl, hr1, hr2, g1⟩
  have hR1 : Blk w1 w.heap.size #[.int .i64 0, .int .i64 0, .int .i64 0, .int .i64 0, .int .i64 0, .int .i64 0, .int .i64 0, .int .i64 0, .int .i64 0, .slice none 0 0, .int .i64 0] 31 := (Blk.new w _ _).gr g1
  have gw1 : Gr w w1 := ((Gr.refl w).alloc _).trans g1
  have z1 := gw1.size
  simp only [World.size_alloc] at hr2
  obtain ⟨ab, hab⟩ : ∃ ab, w1.heap.size = ab := ⟨_, rfl⟩
  have hzR := hR1.lt
  rw [hab] at z1 hr1 hzR
  have hr2' : RdAt (· ≠ ab) w1 rb L 0 := hr1.mono (fun b hb => by omega)
  have hrl : rb < ab := by obtain ⟨_, _, hh, _⟩ := hr1; have := hh.lt; omega
  replace hr1 := Lib.hid hr1
  replace hr2' := Lib.hid hr2'
  replace hR1 := Lib.hid hR1
  go_wp2_with fail
  refine (numbers_yes w _ hE i1 ((gw1.alloc _).alloc _) rb ab (ab + 1) 3 L 0 #[.int .i64 0, .int .i64 0, .int .i64 0, .int .i64 0, .int .i64 0, .int .i64 0, .int .i64 0, .int .i64 0, .int .i64 0, .slice none 0 0, .int .i64 0] 31 ((hr2'.out.gr ((Gr.refl w1).alloc _)).gr ((Gr.refl _).alloc _)) (by omega) (by omega) (by omega) (by omega) (by omega) (by simp; omega) ((Blk.new1 hab).alloc _) (by decide) (by decide) (ptrs3 (t := 71) (Blk.new1 (by simp [hab]))) hk.out).mono ?_
  rintro r w3 ⟨rfl, g3, hr3, hb3⟩
  have gw3 : Gr w w3 := GrX.all ((gw1.alloc _).alloc _) g3 (fun x hx => by simp at hx; rcases hx with rfl | rfl <;> omega)
  have hb3' : Blk w3 ab #[.int .i64 2, .int .i64 n1, .int .i64 n2, .int .i64 0, .int .i64 0, .int .i64 0, .int .i64 0, .int .i64 0, .int .i64 0, .slice none 0 0, .int .i64 0] 31 := hb3
  have hR3 : Blk w3 w.heap.size #[.int .i64 0, .int .i64 0, .int .i64 0, .int .i64 0, .int .i64 0, .int .i64 0, .int .i64 0, .int .i64 0, .int .i64 0, .slice none 0 0, .int .i64 0] 31 := ((hR1.out.alloc _).alloc _).grx g3 (by simp; omega)
  rw [Nat.zero_add, he.out] at hr3
  have hen := rend_yes w3 rb L hr3
  have hck := fun w4 (g : Gr w3 w4) => checkAsk_any 2 ⟨⟨n1, n2, 0, 0, ⟨0, 0, 0⟩, 0, [], 0⟩, none, 0⟩ w4 (exE_okZ n1 n2 w4) (hE.gr (gw3.trans g)) i0
  dsimp only at hck
  rw [hf.out] at hck
  have c3_0 := hb3'.cell (i := 0) (v := .int .i64 2) rfl
  have c3_1 := hb3'.cell (i := 1) (v := .int .i64 n1) rfl
  have c3_2 := hb3'.cell (i := 2) (v := .int .i64 n2) rfl
  have c3_3 := hb3'.cell (i := 3) (v := .int .i64 0) rfl
  have c3_4 := hb3'.cell (i := 4) (v := .int .i64 0) rfl
  have c3_5 := hb3'.cell (i := 5) (v := .int .i64 0) rfl
  have c3_6 := hb3'.cell (i := 6) (v := .int .i64 0) rfl
  have c3_7 := hb3'.cell (i := 7) (v := .int .i64 0) rfl
  have c3_8 := hb3'.cell (i := 8) (v := .int .i64 0) rfl
  have c3_9 := hb3'.cell (i := 9) (v := .slice none 0 0) rfl
  have c3_10 := hb3'.cell (i := 10) (v := .int .i64 0) rfl
  replace hb3 := Lib.hid hb3
  replace hb3' := Lib.hid hb3'
  replace hR3 := Lib.hid hR3
  replace hr3 := Lib.hid hr3
  replace hen := Lib.hid hen
  replace hck := Lib.hid hck
  clear g3
  go_wp2_with fail
  refine hen.out.mono ?_
  rintro r w4 ⟨rfl, g4⟩
  have hb4 := hb3'.out.gr g4
  have hck4 : Calls Tryd.prog 36 #[.agg #[.int .i64 2, .int .i64 n1, .int .i64 n2, .int .i64 0, .int .i64 0, .int .i64 0, .int .i64 0, .int .i64 0, .int .i64 0, .slice none 0 0, .int .i64 0]] w4 fun e w' => e = .returned .nilIface ∧ Gr w4 w' := hck.out w4 g4
  have c4_0 := hb4.cell (i := 0) (v := .int .i64 2) rfl
  have c4_1 := hb4.cell (i := 1) (v := .int .i64 n1) rfl
  have c4_2 := hb4.cell (i := 2) (v := .int .i64 n2) rfl
  have c4_3 := hb4.cell (i := 3) (v := .int .i64 0) rfl
  have c4_4 := hb4.cell (i := 4) (v := .int .i64 0) rfl
  have c4_5 := hb4.cell (i := 5) (v := .int .i64 0) rfl
  have c4_6 := hb4.cell (i := 6) (v := .int .i64 0) rfl
  have c4_7 := hb4.cell (i := 7) (v := .int .i64 0) rfl
  have c4_8 := hb4.cell (i := 8) (v := .int .i64 0) rfl
  have c4_9 := hb4.cell (i := 9) (v := .slice none 0 0) rfl
  have c4_10 := hb4.cell (i := 10) (v := .int .i64 0) rfl
  replace hb4 := Lib.hid hb4
  replace hck4 := Lib.hid hck4
  go_wp2_with fail
  refine hck4.out.mono ?_
  rintro r w5 ⟨rfl, g5⟩
  have hb5 := hb4.out.gr g5
  have hR5 := hR3.out.gr (g4.trans g5)
  have gw5 := gw3.trans (g4.trans g5)
  have c5_0 := hb5.cell (i := 0) (v := .int .i64 2) rfl
  have c5_1 := hb5.cell (i := 1) (v := .int .i64 n1) rfl
  have c5_2 := hb5.cell (i := 2) (v := .int .i64 n2) rfl
  have c5_3 := hb5.cell (i := 3) (v := .int .i64 0) rfl
  have c5_4 := hb5.cell (i := 4) (v := .int .i64 0) rfl
  have c5_5 := hb5.cell (i := 5) (v := .int .i64 0) rfl
  have c5_6 := hb5.cell (i := 6) (v := .int .i64 0) rfl
  have c5_7 := hb5.cell (i := 7) (v := .int .i64 0) rfl
  have c5_8 := hb5.cell (i := 8) (v := .int .i64 0) rfl
  have c5_9 := hb5.cell (i := 9) (v := .slice none 0 0) rfl
  have c5_10 := hb5.cell (i := 10) (v := .int .i64 0) rfl
  have y5_0 := hR5.cell (i := 0) (v := .int .i64 0) rfl
  have y5_1 := hR5.cell (i := 1) (v := .int .i64 0) rfl
  have y5_2 := hR5.cell (i := 2) (v := .int .i64 0) rfl
  have y5_3 := hR5.cell (i := 3) (v := .int .i64 0) rfl
  have y5_4 := hR5.cell (i := 4) (v := .int .i64 0) rfl
  have y5_5 := hR5.cell (i := 5) (v := .int .i64 0) rfl
  have y5_6 := hR5.cell (i := 6) (v := .int .i64 0) rfl
  have y5_7 := hR5.cell (i := 7) (v := .int .i64 0) rfl
  have y5_8 := hR5.cell (i := 8) (v := .int .i64 0) rfl
  have y5_9 := hR5.cell (i := 9) (v := .slice none 0 0) rfl
  have y5_10 := hR5.cell (i := 10) (v := .int .i64 0) rfl
  have f5_0 := hR5.free 0
  have f5_1 := hR5.free 1
  have f5_2 := hR5.free 2
  have f5_3 := hR5.free 3
  have f5_4 := hR5.free 4
  have f5_5 := hR5.free 5
  have f5_6 := hR5.free 6
  have f5_7 := hR5.free 7
  have f5_8 := hR5.free 8
  have f5_9 := hR5.free 9
  have f5_10 := hR5.free 10
  replace hb5 := Lib.hid hb5
  replace hR5 := Lib.hid hR5
  go_wp2_with fail
  refine bodyPost_ret (v := .tuple #[.agg #[.int .i64 2, .int .i64 n1, .int .i64 n2, .int .i64 0, .int .i64 0, .int .i64 0, .int .i64 0, .int .i64 0, .int .i64 0, .slice none 0 0, .int .i64 0], .nilIface]) ?_ rfl ⟨rfl, ?_⟩
  · refine (res_cell (b := w.heap.size) (t := 31) Tryd.results20 _ _ (hR5.out.set11 ?_ _ _ _ _ _ _ _ _ _ _ _) ?_ Tryd.underlying31 (by kernel_rfl)).trans ?_
    · rfl
    · simp
    · simp
  · exact gw5.set11 (Nat.le_refl _) _ _ _ _ _ _ _ _ _ _ _


set_option maxRecDepth 100000 in
set_option maxHeartbeats 12800000 in
theorem getAsk_order {G : List Nat} {E : Nat → Addr} (w : World) (hE : EAt G E w) (i0 : 0 ∈ G) (i1 : 1 ∈ G) (b off c : Nat) (L : List UInt8) (hS : BytesAt w (some ⟨b, off, none⟩) (frameB L)) (hL : L.length ≤ 32768) (hc : (frameB L).length ≤ c)
    (m0 m1 m2 m3 m4 m5 m6 m7 m8 k j n : Nat) (P : List UInt8) (hk : numsR 3 L = some ([1, m0, m1], k)) (hq : numR (L.drop k) = some (n, j)) (hP : (L.drop (k + j)).take n = P) (hPn : P.length = n) (hn : n ≤ 32768) (he : k + j + n = L.length)
    (kk jj : Nat) (L0 : List Tsk) (hN : numsR 10 P = some ([m0, m1, m2, m3, m4, m5, m6, m7, m8, L0.length], kk)) (hT : numsR (4 * L0.length) (P.drop kk) = some (L0.flatMap tskNat, jj)) (hl : kk + jj = P.length) (hf : entF (⟨m0, m1, m2, m4, ⟨m5, m6, m7⟩, m8, L0, m3⟩ : Ent) = true) (hfa : askF 1 (⟨m0, m1, m2, m4, ⟨m5, m6, m7⟩, m8, L0, m3⟩ : Ent) = true) :
    Calls Tryd.prog 20 #[.slice (some ⟨b, off, none⟩) (frameB L).length c] w fun r w' => ∃ a' c', r = .returned (.tuple #[.agg #[.int .i64 1, .int .i64 m0, .int .i64 m1, .int .i64 m2, .int .i64 m4, .int .i64 m5, .int .i64 m6, .int .i64 m7, .int .i64 m8, .slice a' L0.length c', .int .i64 m3], .nilIface]) ∧ (⟨(⟨m0, m1, m2, m4, ⟨m5, m6, m7⟩, m8, L0, m3⟩ : Ent), a', c'⟩ : EntM).ok Any w' ∧ Gr w w' := by
  have hop := opened_yes (w.alloc (.cells #[.int .i64 0, .int .i64 0, .int .i64 0, .int .i64 0, .int .i64 0, .int .i64 0, .int .i64 0, .int .i64 0, .int .i64 0, .slice none 0 0, .int .i64 0] 31)) b off c L (hS.gr ((Gr.refl w).alloc _)) hL hc
  obtain ⟨N, hNN⟩ : ∃ N, (frameB L).length = N := ⟨_, rfl⟩
  rw [hNN] at hop ⊢
  have ht8 := (ent_tasks hf).1
  dsimp only at ht8
  have hget := fun w1 (g : Gr w w1) a c (hb : BytesAt w1 a P) (hcn : a = none → c = 0) => orderGet_yes w1 (hE.gr g) i0 a c P hb hcn (by omega) m0 m1 m2 m3 m4 m5 m6 m7 m8 kk jj L0 hN hT hl hf
  rw [hPn] at hget
  replace hNN := Lib.hid hNN
  replace hop := Lib.hid hop
  replace hS := Lib.hid hS
  replace hk := Lib.hid hk
  replace hq := Lib.hid hq
  replace hP := Lib.hid hP
  replace hPn := Lib.hid hPn
  replace he := Lib.hid he
  replace hN := Lib.hid hN
  replace hT := Lib.hid hT
  replace hl := Lib.hid hl
  replace hf := Lib.hid hf
  replace hfa := Lib.hid hfa
  replace hget := Lib.hid hget
  go_enter Tryd.func20, Tryd.ntmps20
  go_wp2_with fail
  refine hop.out.mono ?_
  rintro r w1 ⟨rb, rfl, hr1, hr2, g1⟩
  have hR1 : Blk w1 w.heap.size #[.int .i64 0, .int .i64 0, .int .i64 0, .int .i64 0, .int .i64 0, .int .i64 0, .int .i64 0, .int .i64 0, .int .i64 0, .slice none 0 0, .int .i64 0] 31 := (Blk.new w _ _).gr g1
  have gw1 : Gr w w1 := ((Gr.refl w).alloc _).trans g1
  have z1 := gw1.size
  simp only [World.size_alloc] at hr2
  obtain ⟨ab, hab⟩ : ∃ ab, w1.heap.size = ab := ⟨_, rfl⟩
  have hzR := hR1.lt
  rw [hab] at z1 hr1 hzR
  have hr2' : RdAt (· ≠ ab) w1 rb L 0 := hr1.mono (fun b hb => by omega)
  have hrl : rb < ab := by obtain ⟨_, _, hh, _⟩ := hr1; have := hh.lt; omega
  replace hr1 := Lib.hid hr1
  replace hr2' := Lib.hid hr2'
  replace hR1 := Lib.hid hR1
  go_wp2_with fail
  refine (numbers_yes w _ hE i1 ((gw1.alloc _).alloc _) rb ab (ab + 1) 3 L 0 #[.int .i64 0, .int .i64 0, .int .i64 0, .int .i64 0, .int .i64 0, .int .i64 0, .int .i64 0, .int .i64 0, .int .i64 0, .slice none 0 0, .int .i64 0] 31 ((hr2'.out.gr ((Gr.refl w1).alloc _)).gr ((Gr.refl _).alloc _)) (by omega) (by omega) (by omega) (by omega) (by omega) (by simp; omega) ((Blk.new1 hab).alloc _) (by decide) (by decide) (ptrs3 (t := 71) (Blk.new1 (by simp [hab]))) hk.out).mono ?_
  rintro r w3 ⟨rfl, g3, hr3, hb3⟩
  have gw3 : Gr w w3 := GrX.all ((gw1.alloc _).alloc _) g3 (fun x hx => by simp at hx; rcases hx with rfl | rfl <;> omega)
  have hb3' : Blk w3 ab #[.int .i64 1, .int .i64 m0, .int .i64 m1, .int .i64 0, .int .i64 0, .int .i64 0, .int .i64 0, .int .i64 0, .int .i64 0, .slice none 0 0, .int .i64 0] 31 := hb3
  have hR3 : Blk w3 w.heap.size #[.int .i64 0, .int .i64 0, .int .i64 0, .int .i64 0, .int .i64 0, .int .i64 0, .int .i64 0, .int .i64 0, .int .i64 0, .slice none 0 0, .int .i64 0] 31 := ((hR1.out.alloc _).alloc _).grx g3 (by simp; omega)
  have hkb := (numR_bd hq.out).2.2.2
  dsimp only at hkb
  rw [List.length_drop] at hkb
  have he' := he.out
  rw [Nat.zero_add] at hr3
  have hby := rbytes_yes w3 rb L k 32768 hr3 hq.out (by omega) (by omega)
  rw [hP.out] at hby
  have zab := hb3'.lt
  have c3_0 := hb3'.cell (i := 0) (v := .int .i64 1) rfl
  have c3_1 := hb3'.cell (i := 1) (v := .int .i64 m0) rfl
  have c3_2 := hb3'.cell (i := 2) (v := .int .i64 m1) rfl
  have c3_3 := hb3'.cell (i := 3) (v := .int .i64 0) rfl
  have c3_4 := hb3'.cell (i := 4) (v := .int .i64 0) rfl
  have c3_5 := hb3'.cell (i := 5) (v := .int .i64 0) rfl
  have c3_6 := hb3'.cell (i := 6) (v := .int .i64 0) rfl
  have c3_7 := hb3'.cell (i := 7) (v := .int .i64 0) rfl
  have c3_8 := hb3'.cell (i := 8) (v := .int .i64 0) rfl
  have c3_9 := hb3'.cell (i := 9) (v := .slice none 0 0) rfl
  have c3_10 := hb3'.cell (i := 10) (v := .int .i64 0) rfl
  clear g3 hb3
  replace hb3' := Lib.hid hb3'
  replace hR3 := Lib.hid hR3
  replace hr3 := Lib.hid hr3
  replace hby := Lib.hid hby
  replace he' := Lib.hid he'
  go_wp2_with fail
  refine hby.out.mono ?_
  rintro r w4 ⟨a4, c4, rfl, ho4, hr4, g4⟩
  have gw4 : Gr w w4 := GrX.all gw3 g4 (fun x hx => by simp at hx; omega)
  have hb4 := hb3'.out.grx g4 (by simp; omega)
  have hR4 := hR3.out.grx g4 (by simp; omega)
  have hget4 := hget.out w4 gw4 a4 c4 ho4.2.1 ho4.2.2.1
  replace hb4 := Lib.hid hb4
  replace hR4 := Lib.hid hR4
  replace hr4 := Lib.hid hr4
  replace ho4 := Lib.hid ho4
  replace hget4 := Lib.hid hget4
  go_wp2_with fail
  refine hget4.out.mono ?_
  rintro r w5 ⟨a5, c5, rfl, ⟨ht5, hn5, hl5, hm5, hB5⟩, g5⟩
  have gw5 := gw4.trans g5
  have hb5 := hb4.out.gr g5
  have hR5 := hR4.out.gr g5
  have hr5 := hr4.out.gr g5
  have zab5 := hb5.lt
  have z45 := g4.size
  have z5 := g5.size
  have c5_0 := hb5.cell (i := 0) (v := .int .i64 1) rfl
  have c5_1 := hb5.cell (i := 1) (v := .int .i64 m0) rfl
  have c5_2 := hb5.cell (i := 2) (v := .int .i64 m1) rfl
  have c5_3 := hb5.cell (i := 3) (v := .int .i64 0) rfl
  have c5_4 := hb5.cell (i := 4) (v := .int .i64 0) rfl
  have c5_5 := hb5.cell (i := 5) (v := .int .i64 0) rfl
  have c5_6 := hb5.cell (i := 6) (v := .int .i64 0) rfl
  have c5_7 := hb5.cell (i := 7) (v := .int .i64 0) rfl
  have c5_8 := hb5.cell (i := 8) (v := .int .i64 0) rfl
  have c5_9 := hb5.cell (i := 9) (v := .slice none 0 0) rfl
  have c5_10 := hb5.cell (i := 10) (v := .int .i64 0) rfl
  have f5_3 := hb5.free 3
  have f5_4 := hb5.free 4
  have f5_5 := hb5.free 5
  have f5_6 := hb5.free 6
  have f5_7 := hb5.free 7
  have f5_8 := hb5.free 8
  have f5_9 := hb5.free 9
  have f5_10 := hb5.free 10
  replace hb5 := Lib.hid hb5
  replace hR5 := Lib.hid hR5
  replace hr5 := Lib.hid hr5
  replace ht5 := Lib.hid ht5
  replace hB5 := Lib.hid hB5
  replace hn5 := Lib.hid hn5
  go_upto_region 16 with fail
  have hb7 : Blk _ ab #[.int .i64 1, .int .i64 m0, .int .i64 m1, .int .i64 m2, .int .i64 m4, .int .i64 m5, .int .i64 m6, .int .i64 m7, .int .i64 m8, .slice a5 L0.length c5, .int .i64 m3] 31 := (hb5.out.set38 rfl (.int .i64 m2) (.int .i64 m4) (.int .i64 m5) (.int .i64 m6) (.int .i64 m7) (.int .i64 m8) (.slice a5 L0.length c5) (.int .i64 m3)).alloc (.cells #[.int .i64 m0, .int .i64 m1, .int .i64 m2, .int .i64 m4, .int .i64 m5, .int .i64 m6, .int .i64 m7, .int .i64 m8, .slice a5 L0.length c5, .int .i64 m3] 79)
  have gx7 : GrX [ab] w5 _ := ((GrX.refl [ab] w5).set38 (b := ab) (by simp) (.int .i64 m2) (.int .i64 m4) (.int .i64 m5) (.int .i64 m6) (.int .i64 m7) (.int .i64 m8) (.slice a5 L0.length c5) (.int .i64 m3)).alloc (.cells #[.int .i64 m0, .int .i64 m1, .int .i64 m2, .int .i64 m4, .int .i64 m5, .int .i64 m6, .int .i64 m7, .int .i64 m8, .slice a5 L0.length c5, .int .i64 m3] 79)
  obtain ⟨w7, hw7⟩ : ∃ w7, w7 = (((((((((w5.setCell ⟨ab, 3, none⟩ (.int .i64 m2)).setCell ⟨ab, 4, none⟩ (.int .i64 m4)).setCell ⟨ab, 5, none⟩ (.int .i64 m5)).setCell ⟨ab, 6, none⟩ (.int .i64 m6)).setCell ⟨ab, 7, none⟩ (.int .i64 m7)).setCell ⟨ab, 8, none⟩ (.int .i64 m8)).setCell ⟨ab, 9, none⟩ (.slice a5 L0.length c5)).setCell ⟨ab, 10, none⟩ (.int .i64 m3)).alloc (.cells #[.int .i64 m0, .int .i64 m1, .int .i64 m2, .int .i64 m4, .int .i64 m5, .int .i64 m6, .int .i64 m7, .int .i64 m8, .slice a5 L0.length c5, .int .i64 m3] 79)) := ⟨_, rfl⟩
  rw [← hw7] at hb7 gx7
  have hR7 := hR5.out.grx gx7 (by simp; omega)
  have gw7 : Gr w w7 := GrX.all gw5 gx7 (fun x hx => by simp at hx; omega)
  have ht7 : RecsAt 4 Tsk.cells w7 a5 L0 := (RecsIn.grx (K := fun b => w4.heap.size ≤ b) ⟨ht5.out, fun x hx _ => hB5.out x hx⟩ gx7 (fun x hx => by simp at hx; omega)).1
  have hr7 := hr5.out.grx gx7 (by simp; omega) (fun b hb => by simpa using hb)
  rw [he'.out] at hr7
  have hen := rend_yes w7 rb L hr7
  have hok : (⟨(⟨m0, m1, m2, m4, ⟨m5, m6, m7⟩, m8, L0, m3⟩ : Ent), a5, c5⟩ : EntM).ok Any w7 := ⟨⟨ht7, fun _ _ _ => trivial⟩, hn5.out, hl5, hm5, by show L0.length * 32 ≤ _; omega⟩
  have hck := fun w8 (g : Gr w7 w8) => checkAsk_any 1 ⟨(⟨m0, m1, m2, m4, ⟨m5, m6, m7⟩, m8, L0, m3⟩ : Ent), a5, c5⟩ w8 (hok.gr g) (hE.gr (gw7.trans g)) i0
  dsimp only at hck
  rw [hfa.out] at hck
  replace hw7 := Lib.hid hw7
  replace hb7 := Lib.hid hb7
  replace hR7 := Lib.hid hR7
  replace hr7 := Lib.hid hr7
  replace hen := Lib.hid hen
  replace hck := Lib.hid hck
  replace hok := Lib.hid hok
  replace ht7 := Lib.hid ht7
  rw [← hw7.out]
  go_wp2_with fail
  refine hen.out.mono ?_
  rintro r w8 ⟨rfl, g8⟩
  have hb8 := hb7.out.gr g8
  have hck8 : Calls Tryd.prog 36 #[.agg #[.int .i64 1, .int .i64 m0, .int .i64 m1, .int .i64 m2, .int .i64 m4, .int .i64 m5, .int .i64 m6, .int .i64 m7, .int .i64 m8, .slice a5 L0.length c5, .int .i64 m3]] w8 fun e w' => e = .returned .nilIface ∧ Gr w8 w' := hck.out w8 g8
  have c8_0 := hb8.cell (i := 0) (v := .int .i64 1) rfl
  have c8_1 := hb8.cell (i := 1) (v := .int .i64 m0) rfl
  have c8_2 := hb8.cell (i := 2) (v := .int .i64 m1) rfl
  have c8_3 := hb8.cell (i := 3) (v := .int .i64 m2) rfl
  have c8_4 := hb8.cell (i := 4) (v := .int .i64 m4) rfl
  have c8_5 := hb8.cell (i := 5) (v := .int .i64 m5) rfl
  have c8_6 := hb8.cell (i := 6) (v := .int .i64 m6) rfl
  have c8_7 := hb8.cell (i := 7) (v := .int .i64 m7) rfl
  have c8_8 := hb8.cell (i := 8) (v := .int .i64 m8) rfl
  have c8_9 := hb8.cell (i := 9) (v := .slice a5 L0.length c5) rfl
  have c8_10 := hb8.cell (i := 10) (v := .int .i64 m3) rfl
  replace hb8 := Lib.hid hb8
  replace hck8 := Lib.hid hck8
  go_wp2_with fail
  refine hck8.out.mono ?_
  rintro r w9 ⟨rfl, g9⟩
  have hb9 := hb8.out.gr g9
  have hR9 := hR7.out.gr (g8.trans g9)
  have gw9 := gw7.trans (g8.trans g9)
  have c9_0 := hb9.cell (i := 0) (v := .int .i64 1) rfl
  have c9_1 := hb9.cell (i := 1) (v := .int .i64 m0) rfl
  have c9_2 := hb9.cell (i := 2) (v := .int .i64 m1) rfl
  have c9_3 := hb9.cell (i := 3) (v := .int .i64 m2) rfl
  have c9_4 := hb9.cell (i := 4) (v := .int .i64 m4) rfl
  have c9_5 := hb9.cell (i := 5) (v := .int .i64 m5) rfl
  have c9_6 := hb9.cell (i := 6) (v := .int .i64 m6) rfl
  have c9_7 := hb9.cell (i := 7) (v := .int .i64 m7) rfl
  have c9_8 := hb9.cell (i := 8) (v := .int .i64 m8) rfl
  have c9_9 := hb9.cell (i := 9) (v := .slice a5 L0.length c5) rfl
  have c9_10 := hb9.cell (i := 10) (v := .int .i64 m3) rfl
  have y9_0 := hR9.cell (i := 0) (v := .int .i64 0) rfl
  have y9_1 := hR9.cell (i := 1) (v := .int .i64 0) rfl
  have y9_2 := hR9.cell (i := 2) (v := .int .i64 0) rfl
  have y9_3 := hR9.cell (i := 3) (v := .int .i64 0) rfl
  have y9_4 := hR9.cell (i := 4) (v := .int .i64 0) rfl
  have y9_5 := hR9.cell (i := 5) (v := .int .i64 0) rfl
  have y9_6 := hR9.cell (i := 6) (v := .int .i64 0) rfl
  have y9_7 := hR9.cell (i := 7) (v := .int .i64 0) rfl
  have y9_8 := hR9.cell (i := 8) (v := .int .i64 0) rfl
  have y9_9 := hR9.cell (i := 9) (v := .slice none 0 0) rfl
  have y9_10 := hR9.cell (i := 10) (v := .int .i64 0) rfl
  have f9_0 := hR9.free 0
  have f9_1 := hR9.free 1
  have f9_2 := hR9.free 2
  have f9_3 := hR9.free 3
  have f9_4 := hR9.free 4
  have f9_5 := hR9.free 5
  have f9_6 := hR9.free 6
  have f9_7 := hR9.free 7
  have f9_8 := hR9.free 8
  have f9_9 := hR9.free 9
  have f9_10 := hR9.free 10
  replace hb9 := Lib.hid hb9
  replace hR9 := Lib.hid hR9
  go_wp2_with fail
  refine bodyPost_ret (v := .tuple #[.agg #[.int .i64 1, .int .i64 m0, .int .i64 m1, .int .i64 m2, .int .i64 m4, .int .i64 m5, .int .i64 m6, .int .i64 m7, .int .i64 m8, .slice a5 L0.length c5, .int .i64 m3], .nilIface]) ?_ rfl ⟨a5, c5, rfl, ?_, ?_⟩
  · refine (res_cell (b := w.heap.size) (t := 31) Tryd.results20 _ _ (hR9.out.set11 ?_ _ _ _ _ _ _ _ _ _ _ _) ?_ Tryd.underlying31 (by kernel_rfl)).trans ?_
    · rfl
    · simp
    · simp
  · have h1 := (RecsIn.grx (K := fun b => w4.heap.size ≤ b) (RecsIn.grx (T := []) (K := fun b => w4.heap.size ≤ b) ⟨ht7.out, fun x hx _ => hB5.out x hx⟩ ((g8.trans g9).x []) (fun x hx => by cases hx)) ((GrX.refl [w.heap.size] w9).set11 (b := w.heap.size) (by simp) (.int .i64 1) (.int .i64 m0) (.int .i64 m1) (.int .i64 m2) (.int .i64 m4) (.int .i64 m5) (.int .i64 m6) (.int .i64 m7) (.int .i64 m8) (.slice a5 L0.length c5) (.int .i64 m3)) (fun x hx => by simp at hx; omega)).1
    exact ⟨⟨h1, fun _ _ _ => trivial⟩, hn5.out, hl5, hm5, by show L0.length * 32 ≤ _; omega⟩
  · exact gw9.set11 (Nat.le_refl _) _ _ _ _ _ _ _ _ _ _ _
end Go.Proofs.YtlgbnjaoadlolaaDoor
