/- slices.Delete of one node. -/
import Derived.Test.YtglfdnfojpdkjaaGreatDoorJ31
import Derived.Deep.RegionLaw
namespace Go.Proofs.YtglfdnfojpdkjaaGreatDoor
open Go.RowKit

theorem owns_cellAt {w : World} {B : Nat} {e : TypeId} {k g n c : Nat} {xs : List Value} (h : w.ownsRow B e k (.slice (some ⟨g, 0, none⟩) n c) n xs) (p : Nat) (u : Value) (hu : xs[p]? = some u) : w.cell? ⟨g, p, none⟩ = some u := by
  rcases h.2 with ⟨h1, _⟩ | ⟨g', cap, cur, h1, h2, h3, h4, h5, h6, h7⟩
  · cases h1
  · cases h1
    rw [← h7, List.getElem?_take] at hu
    split at hu
    · simpa [World.cell?, h3] using hu
    · cases hu

theorem owns_sets {B : Nat} {e : TypeId} {k g n c : Nat} : ∀ (vs : List Value) (q : Nat) (w : World) (xs : List Value), w.ownsRow B e k (.slice (some ⟨g, 0, none⟩) n c) n xs → (w.setCells g q vs).ownsRow B e k (.slice (some ⟨g, 0, none⟩) n c) n (wrL xs q vs) ∧ GrX [g] w (w.setCells g q vs) := by
  intro vs
  induction vs with
  | nil => intro q w xs h; exact ⟨h, GrX.refl _ _⟩
  | cons v vs ih =>
    intro q w xs h
    obtain ⟨h1, h2⟩ := ih (q + 1) _ _ (owns_set h q v)
    exact ⟨h1, ((GrX.refl [g] w).set (.inl (by simp)) v).trans h2⟩
theorem wrL_erase (N : List NdM) (i : Nat) (hi : i < N.length) : ∃ Z : List NdM, wrL (N.flatMap NdM.cells) (i * 7) ((N.drop (i + 1)).flatMap NdM.cells) = (N.eraseIdx i ++ Z).flatMap NdM.cells := by
  refine ⟨(N.drop i).drop (N.length - 1 - i), ?_⟩
  have h1 : N = N.take i ++ ((N.drop i).take (N.length - 1 - i) ++ (N.drop i).drop (N.length - 1 - i)) := by rw [List.take_append_drop, List.take_append_drop]
  have h2 : N.flatMap NdM.cells = (N.take i).flatMap NdM.cells ++ ((N.drop i).take (N.length - 1 - i)).flatMap NdM.cells ++ ((N.drop i).drop (N.length - 1 - i)).flatMap NdM.cells := by
    conv => lhs; rw [h1]
    rw [List.flatMap_append, List.flatMap_append, List.append_assoc]
  have h3 : i * 7 = ((N.take i).flatMap NdM.cells).length := by rw [flat_len NdM.cells_len, List.length_take, Nat.min_eq_left (by omega)]
  rw [h2, h3, wrL_mid _ _ _ _ (by rw [flat_len NdM.cells_len, flat_len NdM.cells_len]; simp; omega), List.eraseIdx_eq_take_drop_succ, List.flatMap_append, List.flatMap_append]
set_option maxRecDepth 100000 in
set_option maxHeartbeats 3200000 in
theorem delete_any {B : Nat} (N : List NdM) (nb c : Nat) (w : World) (h : w.ownsRow B 90 7 (.slice (some ⟨nb, 0, none⟩) N.length c) N.length (N.flatMap NdM.cells)) (hl : N.length ≤ 1000000) (i : Nat) (hi : i < N.length) :
    Calls Tryz.prog 120 #[.slice (some ⟨nb, 0, none⟩) N.length c, .int .i64 i, .int .i64 (i + 1)] w fun e w' => e = .returned (.slice (some ⟨nb, 0, none⟩) (N.length - 1) c) ∧ GrX [nb] w w' ∧ w'.ownsRow B 90 7 (.slice (some ⟨nb, 0, none⟩) (N.length - 1) c) (N.length - 1) ((N.eraseIdx i).flatMap NdM.cells) := by
  obtain ⟨j36, ji, jz0, jz1, jz2⟩ := info_parts Tryz.infoNd
  have hcap := owns_cap h rfl
  have t0 : (i : Int) ≤ N.length := by omega
  have t1 : (i : Int) + 1 ≤ N.length := by omega
  have t2 : (0 : Int) ≤ (i : Int) + 1 := by omega
  have t3 : ((i : Int) + 1).toNat = i + 1 := by omega
  have t4 : ((i : Int) == (i : Int) + 1) = false := by simp; omega
  have t5 : (N.length : Int) ≤ c := by have := hcap.1; omega
  have t6 : (i : Int) ≤ c := by omega
  have t7 : (i : Int) + 1 ≤ c := by omega
  obtain ⟨mv, hmv⟩ : ∃ mv, mv = (N.drop (i + 1)).flatMap NdM.cells := ⟨_, rfl⟩
  have hml : mv.length = (N.length - (i + 1)) * 7 := by rw [hmv, flat_len NdM.cells_len, List.length_drop]
  have hcell : ∀ p u, (N.flatMap NdM.cells)[p]? = some u → w.cell? ⟨nb, p, none⟩ = some u := fun p u hu => owns_cellAt h p u hu
  have hdrop : ∀ j, mv[j]? = (N.flatMap NdM.cells)[(i + 1) * 7 + j]? := by
    intro j
    have h1 : N.flatMap NdM.cells = (N.take (i + 1)).flatMap NdM.cells ++ mv := by rw [hmv, ← List.flatMap_append, List.take_append_drop]
    have h2 : ((N.take (i + 1)).flatMap NdM.cells).length = (i + 1) * 7 := by rw [flat_len NdM.cells_len, List.length_take, Nat.min_eq_left (by omega)]
    rw [h1, List.getElem?_append_right (by omega), h2, Nat.add_sub_cancel_left]
  obtain ⟨A, hA, hnews⟩ : ∃ A : Addr, (if c = i + 1 then some (⟨nb, 0, none⟩ : Addr) else some ⟨nb, (i + 1) * 7, none⟩) = some A ∧ Hid (∀ j u, mv[j]? = some u → w.drew.cell? (A.add j) = some u) := by
    by_cases hc : c = i + 1
    · refine ⟨⟨nb, 0, none⟩, by simp [hc], Lib.hid fun j u hu => ?_⟩
      have h0 : mv.length = 0 := by rw [hml]; have := hcap.1; rw [show N.length - (i + 1) = 0 by omega]
      rw [List.length_eq_zero_iff.1 h0] at hu
      simp at hu
    · refine ⟨⟨nb, (i + 1) * 7, none⟩, by simp [hc], Lib.hid fun j u hu => ?_⟩
      rw [hdrop j] at hu
      rw [Addr.add_lit]
      exact hcell _ u hu
  have s1 : Hid (mv.length = (N.length - (i + 1)) * 7) := Lib.hid hml
  have s2 : Hid (∀ u ∈ mv, u.oneCell' = true) := Lib.hid fun u hu => by
    rw [hmv] at hu
    obtain ⟨x, _, hx⟩ := List.mem_flatMap.1 hu
    exact NdM.cells_one x u hx
  have s3 : Hid (∀ j, j < mv.length → (w.drew.cell? ⟨nb, 0 + i * 7 + j, none⟩).isSome = true ∧ w.drew.frozen? ⟨nb, 0 + i * 7 + j, none⟩ = false) := Lib.hid fun j hj => by
    rw [hml] at hj
    have hlt : i * 7 + j < (N.flatMap NdM.cells).length := by rw [flat_len NdM.cells_len]; omega
    rw [Nat.zero_add]
    exact ⟨by rw [show w.drew.cell? ⟨nb, i * 7 + j, none⟩ = _ from hcell _ _ (List.getElem?_eq_getElem hlt)]; rfl, owns_free h rfl _⟩
  obtain ⟨Z, hZ⟩ := wrL_erase N i hi
  rw [← hmv] at hZ
  have hOA := owns_sets mv (0 + i * 7) w.drew _ (owns_gr h (Gr.refl w).drew)
  rw [Nat.zero_add, hZ] at hOA
  obtain ⟨m, hm⟩ : ∃ m, m = N.length - 1 := ⟨_, rfl⟩
  have hE : (N.eraseIdx i).length = m := by rw [hm]; exact List.length_eraseIdx_of_lt hi
  obtain ⟨w9, hrun, hO9, gx9⟩ := owns_clear (z := .agg #[.int .i64 0, .int .i64 0, .int .i64 0, .int .i64 0, .int .i64 0, .int .i64 0, .slice none 0 0]) Tryz.underlying32 (fun w => by kernel_rfl) (by rfl) (by simp [Value.cells, Value.oneCell']) hOA.1 (i := m) (by omega) (by decide)
  rw [List.flatMap_append, List.take_left' (by rw [flat_len NdM.cells_len, hE])] at hO9
  have t8 : i + (N.length - (i + 1)) = m := by omega
  have t9 : N.length - m = 1 := by omega
  rw [t9] at hrun
  have u1 : (m : Int) ≤ N.length := by omega
  have u2 : (m : Int) ≤ c := by have := hcap.1; omega
  have u3 : ¬ c = m := by have := hcap.1; omega
  have u4 : ¬ c ≤ m := by have := hcap.1; omega
  rw [← hm]
  replace h := Lib.hid h
  replace hmv := Lib.hid hmv
  replace hml := Lib.hid hml
  replace hZ := Lib.hid hZ
  replace hOA := Lib.hid hOA
  replace hO9 := Lib.hid hO9
  replace gx9 := Lib.hid gx9
  replace hE := Lib.hid hE
  replace hm := Lib.hid hm
  clear hcell hdrop
  go_enter Tryz.func120, Tryz.ntmps120
  go_upto_region 5 with fail
  go_region_law (refine step_append_room rfl (.tmp 22) (.tmp 25) 32 rfl 90 j36 7 Tryz.underlying32 ji jz1 nb 0 i c (by simp [Act.eval, Act.put]) A (N.length - (i + 1)) (c - (i + 1)) mv (by simp [Act.eval, Act.put]) s1.out hnews.out s2.out (by omega) s3.out ?_)
  go_wp2_with fail
  go_ret
  exact ⟨rfl, ((Gr.refl w).drew.x [nb]).trans (hOA.out.2.trans gx9.out), hO9.out⟩
end Go.Proofs.YtglfdnfojpdkjaaGreatDoor
/- A node less. -/
namespace Go.Proofs.YtglfdnfojpdkjaaGreatDoor
open Go.RowKit

theorem srt_erase {N : List NdM} (hs : Srt N) (i : Nat) : Srt (N.eraseIdx i) := by
  intro j k y z hj hk hjk
  rw [List.getElem?_eraseIdx] at hj hk
  by_cases h1 : j < i
  · rw [if_pos h1] at hj
    by_cases h2 : k < i
    · rw [if_pos h2] at hk; exact hs _ _ _ _ hj hk hjk
    · rw [if_neg h2] at hk; exact hs _ _ _ _ hj hk (by omega)
  · rw [if_neg h1] at hj
    rw [if_neg (by omega)] at hk
    exact hs _ _ _ _ hj hk (by omega)
theorem erase_nd {N : List NdM} (hs : Srt N) {i : Nat} {x : NdM} {id : Int} (hx : N[i]? = some x) (hid : x.e.id = id) : (N.eraseIdx i).map (·.e) = (N.map (·.e)).filter fun n => decide (n.id ≠ id) := by
  have hi := get_lt hx
  have h1 : N = N.take i ++ x :: N.drop (i + 1) := by
    obtain ⟨h3, h4⟩ := List.getElem?_eq_some_iff.1 hx
    rw [← h4, ← List.drop_eq_getElem_cons h3, List.take_append_drop]
  have hA : ((N.take i).map (·.e)).filter (fun n => decide (n.id ≠ id)) = (N.take i).map (·.e) := by
    rw [List.filter_eq_self]
    intro a ha
    obtain ⟨z, hz, rfl⟩ := List.mem_map.1 ha
    obtain ⟨j, hj⟩ := List.mem_iff_getElem?.1 hz
    have hl := get_lt hj
    rw [List.length_take] at hl
    rw [List.getElem?_take_of_lt (by omega)] at hj
    have := hs _ _ _ _ hj hx (by omega)
    simp; omega
  have hB : ((N.drop (i + 1)).map (·.e)).filter (fun n => decide (n.id ≠ id)) = (N.drop (i + 1)).map (·.e) := by
    rw [List.filter_eq_self]
    intro a ha
    obtain ⟨z, hz, rfl⟩ := List.mem_map.1 ha
    obtain ⟨j, hj⟩ := List.mem_iff_getElem?.1 hz
    rw [List.getElem?_drop] at hj
    have := hs _ _ _ _ hx hj (by omega)
    simp; omega
  rw [List.eraseIdx_eq_take_drop_succ]
  conv => rhs; rw [h1]
  rw [List.map_append, List.map_append, List.filter_append, List.map_cons, List.filter_cons, if_neg (by simp [hid]), hA, hB]
/-- A node less. -/
theorem own_del {B : Nat} {w w' : World} {T : TM} {nb i : Nat} (h : OwnT B w T) (hnb : T.an = some ⟨nb, 0, none⟩) (hi : i < T.N.length) (g : GrX [nb] w w') (hN : w'.ownsRow B 90 7 (.slice (some ⟨nb, 0, none⟩) (T.N.length - 1) T.cn) (T.N.length - 1) ((T.N.eraseIdx i).flatMap NdM.cells)) : OwnT B w' ⟨T.N.eraseIdx i, T.an, T.cn, T.G, T.ag, T.cg, T.last, T.now⟩ := by
  have hob : (Value.slice T.an T.N.length T.cn).ownBlock = some nb := by rw [hnb]; rfl
  have hd : ∀ x ∈ T.N, ∀ ad, x.a = some ad → x.e.tasks ≠ [] → ad.block ∉ [nb] := fun x hx ad ha ht hm => h.d x hx ad ha ht (by rw [hob, List.mem_singleton.1 hm])
  have hE : (T.N.eraseIdx i).length = T.N.length - 1 := List.length_eraseIdx_of_lt hi
  have hsub : ∀ x, x ∈ T.N.eraseIdx i → x ∈ T.N := fun x hx => List.mem_of_mem_eraseIdx hx
  refine ⟨by dsimp only; rw [hE, hnb]; exact hN, owns_gx h.g g (fun k hk2 hm => owns_apart h.n h.g (by decide) (by rw [hob, List.mem_singleton.1 hm]) hk2), fun x hx => (h.k x (hsub x hx)).but g (hd x (hsub x hx)), fun x hx ad ha ht => ?_, fun x hx ad ha ht => h.dg x (hsub x hx) ad ha ht, fun x hx ad ha ht o => ?_, by dsimp only; rw [hE]; have := h.l1; omega, h.l2⟩
  · show (Value.slice T.an (T.N.eraseIdx i).length T.cn).ownBlock ≠ _
    have h1 := h.d x (hsub x hx) ad ha ht
    rw [hob] at h1
    rw [hnb]
    exact h1
  · rw [g.frozen ((h.k x (hsub x hx)).1.1.lt ha ht) (hd x (hsub x hx) ad ha ht)]
    exact h.f x (hsub x hx) ad ha ht o
end Go.Proofs.YtglfdnfojpdkjaaGreatDoor
