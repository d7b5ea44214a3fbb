/- Questions and answers in frames: the cases, and what is taken is framed as it was. almonerref20.GetAsk: numbers none; a kind that is not an order's. Printed by gen_p59.py. almonerref20.GetAsk of an order. Printed by gen_p60.py. almonerref20.GetAsk of an order like the question. Printed by gen_p60.py. GetAsk of a frame, the program's and the reference's: refused, taken. -/
import Derived.Test.YtlgbnjaoadlolaaDoorP57
import Derived.Test.YtlgbnjaoadlolaaDoorP55
import Derived.Test.YtlgbnjaoadlolaaDoorP47
import Derived.Test.YtlgbnjaoadlolaaDoorP37
namespace Go.Proofs.YtlgbnjaoadlolaaDoor
open Go.RowKit

abbrev EN9 (m0 m1 m2 m3 m4 m5 m6 m7 m8 : Nat) (L0 : List Tsk) : Ent := ⟨m0, m1, m2, m4, ⟨m5, m6, m7⟩, m8, L0, m3⟩
abbrev EN0 (n1 n2 : Nat) : Ent := ⟨n1, n2, 0, 0, ⟨0, 0, 0⟩, 0, [], 0⟩
/-- The ways in which a frame is refused as a question. -/
def askNo (L : List UInt8) : Prop := numsR 3 L = none ∨ ∃ n0 n1 n2 k, numsR 3 L = some ([n0, n1, n2], k) ∧ (n0 ≠ 1 ∧ (k < L.length ∨ k = L.length ∧ askF n0 (EN0 n1 n2) = false) ∨ n0 = 1 ∧ ((∀ n j, numR (L.drop k) = some (n, j) → 32768 < n ∨ L.length - (k + j) < n) ∨ ∃ n j, numR (L.drop k) = some (n, j) ∧ n ≤ 32768 ∧ k + j + n ≤ L.length ∧ (entNo ((L.drop (k + j)).take n) ∨ ∃ m0 m1 m2 m3 m4 m5 m6 m7 m8 kk jj L0, entYes ((L.drop (k + j)).take n) m0 m1 m2 m3 m4 m5 m6 m7 m8 kk jj L0 ∧ ((m0 ≠ n1 ∨ m1 ≠ n2) ∨ m0 = n1 ∧ m1 = n2 ∧ k + j + n < L.length))))
/-- A question of an order, a question of the tree. -/
def askYes1 (L : List UInt8) (m0 m1 m2 m3 m4 m5 m6 m7 m8 : Nat) (L0 : List Tsk) : Prop := ∃ k n j kk jj, numsR 3 L = some ([1, m0, m1], k) ∧ numR (L.drop k) = some (n, j) ∧ n ≤ 32768 ∧ k + j + n = L.length ∧ entYes ((L.drop (k + j)).take n) m0 m1 m2 m3 m4 m5 m6 m7 m8 kk jj L0
def askYes2 (L : List UInt8) (n1 n2 : Nat) : Prop := numsR 3 L = some ([2, n1, n2], L.length) ∧ askF 2 (EN0 n1 n2) = true
theorem three_of {l : List Nat} (h : l.length = 3) : ∃ a0 a1 a2, l = [a0, a1, a2] := by
  match l, h with
  | [a, b, c], _ => exact ⟨a, b, c, rfl⟩
theorem ask_cases (L : List UInt8) : askNo L ∨ (∃ m0 m1 m2 m3 m4 m5 m6 m7 m8 L0, askYes1 L m0 m1 m2 m3 m4 m5 m6 m7 m8 L0) ∨ ∃ n1 n2, askYes2 L n1 n2 := by
  cases h : numsR 3 L with
  | none => exact .inl (.inl h)
  | some x =>
    obtain ⟨ns, k⟩ := x
    obtain ⟨n0, n1, n2, rfl⟩ := three_of (numsR_get 3 L ns k h).1
    have hk := (numsR_ge 3 L _ k h).2
    by_cases h1 : n0 = 1
    · subst h1
      by_cases hb : ∀ n j, numR (L.drop k) = some (n, j) → 32768 < n ∨ L.length - (k + j) < n
      · exact .inl (.inr ⟨1, n1, n2, k, h, .inr ⟨rfl, .inl hb⟩⟩)
      · obtain ⟨n, hb⟩ := Classical.not_forall.1 hb
        obtain ⟨j, hb⟩ := Classical.not_forall.1 hb
        obtain ⟨hq, hb⟩ := Classical.not_imp.1 hb
        have hkj := (numR_bd hq).2.2.2
        rw [List.length_drop] at hkj
        dsimp only at hkj
        have hn : n ≤ 32768 := by omega
        have hle : k + j + n ≤ L.length := by omega
        rcases ent_cases ((L.drop (k + j)).take n) with hno | ⟨m0, m1, m2, m3, m4, m5, m6, m7, m8, kk, jj, L0, hy⟩
        · exact .inl (.inr ⟨1, n1, n2, k, h, .inr ⟨rfl, .inr ⟨n, j, hq, hn, hle, .inl hno⟩⟩⟩)
        · by_cases hs : m0 = n1 ∧ m1 = n2
          · obtain ⟨rfl, rfl⟩ := hs
            by_cases he : k + j + n = L.length
            · exact .inr (.inl ⟨m0, m1, m2, m3, m4, m5, m6, m7, m8, L0, k, n, j, kk, jj, h, hq, hn, he, hy⟩)
            · exact .inl (.inr ⟨1, m0, m1, k, h, .inr ⟨rfl, .inr ⟨n, j, hq, hn, hle, .inr ⟨m0, m1, m2, m3, m4, m5, m6, m7, m8, kk, jj, L0, hy, .inr ⟨rfl, rfl, by omega⟩⟩⟩⟩⟩)
          · exact .inl (.inr ⟨1, n1, n2, k, h, .inr ⟨rfl, .inr ⟨n, j, hq, hn, hle, .inr ⟨m0, m1, m2, m3, m4, m5, m6, m7, m8, kk, jj, L0, hy, .inl (by by_cases e : m0 = n1; exact .inr (fun e2 => hs ⟨e, e2⟩); exact .inl e)⟩⟩⟩⟩)
    · by_cases hl : k < L.length
      · exact .inl (.inr ⟨n0, n1, n2, k, h, .inl ⟨h1, .inl hl⟩⟩)
      · have hkl : k = L.length := by omega
        cases hf : askF n0 (EN0 n1 n2) with
        | false => exact .inl (.inr ⟨n0, n1, n2, k, h, .inl ⟨h1, .inr ⟨hkl, hf⟩⟩⟩)
        | true =>
          have h2 : n0 = 2 := by
            rcases (askF_parts hf).1 with ⟨e, _⟩ | e
            · exact absurd (by omega) h1
            · omega
          subst h2 hkl
          exact .inr (.inr ⟨n1, n2, h, hf⟩)
theorem tsk_toNat {l : List Tsk} (h : ∀ t ∈ l, Nums (tskN t)) : l.flatMap tskN = (l.flatMap tskNat).map fun (n : Nat) => (n : Int) := by
  rw [← tsk_nat, List.map_map]
  refine (List.map_id _).symm.trans (List.map_congr_left fun n hn => ?_)
  obtain ⟨t, ht, hn⟩ := List.mem_flatMap.1 hn
  have := (h t ht n hn).1
  show n = ((n.toNat : Nat) : Int)
  omega
theorem listB_cast (l : List Nat) : listB (l.map fun (n : Nat) => (n : Int)) = l.flatMap numB := by
  rw [listB_map, List.map_map]
  congr 1
  exact (List.map_congr_left fun n _ => rfl).trans (List.map_id _)
theorem ent_back {p : List UInt8} {m0 m1 m2 m3 m4 m5 m6 m7 m8 k j : Nat} {L0 : List Tsk} (h : entYes p m0 m1 m2 m3 m4 m5 m6 m7 m8 k j L0) : p = listB (entN (EN9 m0 m1 m2 m3 m4 m5 m6 m7 m8 L0)) := by
  have ht : ∀ t ∈ L0, Nums (tskN t) := fun t ht => tsk_nums ((ent_tasks h.2.2.2).2 t ht)
  obtain ⟨-, -, h3, -⟩ := numsR_get _ _ _ _ h.all
  rw [List.drop_length, List.append_nil] at h3
  have e : entN (EN9 m0 m1 m2 m3 m4 m5 m6 m7 m8 L0) = (entNs m0 m1 m2 m3 m4 m5 m6 m7 m8 L0).map fun (n : Nat) => (n : Int) := by
    unfold entN
    rw [tsk_toNat ht, List.map_append]
    rfl
  rw [e, listB_cast]
  exact h3
theorem ask_back1 {L : List UInt8} {m0 m1 m2 m3 m4 m5 m6 m7 m8 : Nat} {L0 : List Tsk} (h : askYes1 L m0 m1 m2 m3 m4 m5 m6 m7 m8 L0) : L = askB 1 (EN9 m0 m1 m2 m3 m4 m5 m6 m7 m8 L0) ∧ askF 1 (EN9 m0 m1 m2 m3 m4 m5 m6 m7 m8 L0) = true := by
  obtain ⟨k, n, j, kk, jj, hk, hq, hn, he, hy⟩ := h
  have hf : askF 1 (EN9 m0 m1 m2 m3 m4 m5 m6 m7 m8 L0) = true := by unfold askF; simp [hy.2.2.2]
  refine ⟨?_, hf⟩
  obtain ⟨-, -, h1, -⟩ := numsR_get 3 L _ k hk
  obtain ⟨h2, -⟩ := numR_get hq
  rw [List.drop_drop] at h2
  have hl : (L.drop (k + j)).length = n := by rw [List.length_drop]; omega
  rw [List.take_of_length_le (by omega)] at hy
  have h3 := ent_back hy
  have e : askB 1 (EN9 m0 m1 m2 m3 m4 m5 m6 m7 m8 L0) = [1, m0, m1].flatMap numB ++ (numB n ++ L.drop (k + j)) := by
    unfold askB
    rw [if_pos rfl, ← h3, hl, listB_map]
    rfl
  rw [e, ← h2]
  exact h1
theorem ask_back2 {L : List UInt8} {n1 n2 : Nat} (h : askYes2 L n1 n2) : L = askB 2 (EN0 n1 n2) := by
  obtain ⟨-, -, h1, -⟩ := numsR_get 3 L _ _ h.1
  rw [List.drop_length, List.append_nil] at h1
  unfold askB
  rw [if_neg (by decide), listB_map, List.append_nil]
  exact h1
theorem rep_back {L : List UInt8} {n0 n1 n2 n3 k n j : Nat} (hk : numsR 4 L = some ([n0, n1, n2, n3], k)) (hq : numR (L.drop k) = some (n, j)) (hn : n ≤ 16000) (he : k + j + n = L.length) : L = repB ⟨n0, n1, n2, n3, L.drop (k + j)⟩ ∧ repF ⟨n0, n1, n2, n3, L.drop (k + j)⟩ = true := by
  obtain ⟨-, hb, h1, -⟩ := numsR_get 4 L _ k hk
  obtain ⟨h2, -⟩ := numR_get hq
  rw [List.drop_drop] at h2
  have hl : (L.drop (k + j)).length = n := by rw [List.length_drop]; omega
  constructor
  · unfold repB
    dsimp only
    rw [hl, listB_map, ← h2]
    exact h1
  · unfold repF repN allN
    have b0 := hb n0 (by simp)
    have b1 := hb n1 (by simp)
    have b2 := hb n2 (by simp)
    have b3 := hb n3 (by simp)
    simp [hl, hn]
    omega


set_option maxRecDepth 100000 in
set_option maxHeartbeats 1600000 in
theorem rGetAsk_shut (w : World) (s : Value)
    (hN : ∀ w1, Gr w w1 → Calls Tryd.prog 44 #[s, .int .i64 3] w1 fun e w' => e = .returned (.tuple #[.slice none 0 0, .pointer none]) ∧ Gr w1 w') :
    Calls Tryd.prog 22 #[s] w fun e w' => e = .returned (.tuple #[askZ, .bool false]) ∧ Gr w w' := by
  replace hN := Lib.hid hN
  go_enter Tryd.func22, Tryd.ntmps22
  go_wp2_with fail
  refine (hN.out _ ((Gr.refl w).alloc _)).mono ?_
  rintro e wa ⟨rfl, ga⟩
  obtain ⟨ca, fa, sa⟩ := ga.cells
  try simp only [size_drewN] at ca fa sa
  try simp only [World.size_alloc] at ca fa sa
  try simp only [World.size_drew] at ca fa sa
  try simp only [World.size_setCell] at ca fa sa
  have za0 : w.heap.size < wa.heap.size := by omega
  have ya0 : w.heap.size ≤ wa.heap.size := by omega
  have ka0 := fun o => ca (w.heap.size) o (by omega)
  have ja0 := fun o => fa (w.heap.size) o (by omega)
  have hR1 : Blk wa w.heap.size #[.int .i64 0, .int .i64 0, .int .i64 0, .int .i64 0, .int .i64 0, .int .i64 0, .int .i64 0, .int .i64 0, .int .i64 0, .slice none 0 0, .int .i64 0] 31 := (Blk.new w _ _).gr ga
  have gwa : Gr w wa := ((Gr.refl w).alloc _).trans ga
  have y0 := hR1.cell (i := 0) (v := .int .i64 0) rfl
  have fy0 := hR1.free 0
  have y1 := hR1.cell (i := 1) (v := .int .i64 0) rfl
  have fy1 := hR1.free 1
  have y2 := hR1.cell (i := 2) (v := .int .i64 0) rfl
  have fy2 := hR1.free 2
  have y3 := hR1.cell (i := 3) (v := .int .i64 0) rfl
  have fy3 := hR1.free 3
  have y4 := hR1.cell (i := 4) (v := .int .i64 0) rfl
  have fy4 := hR1.free 4
  have y5 := hR1.cell (i := 5) (v := .int .i64 0) rfl
  have fy5 := hR1.free 5
  have y6 := hR1.cell (i := 6) (v := .int .i64 0) rfl
  have fy6 := hR1.free 6
  have y7 := hR1.cell (i := 7) (v := .int .i64 0) rfl
  have fy7 := hR1.free 7
  have y8 := hR1.cell (i := 8) (v := .int .i64 0) rfl
  have fy8 := hR1.free 8
  have y9 := hR1.cell (i := 9) (v := .slice none 0 0) rfl
  have fy9 := hR1.free 9
  have y10 := hR1.cell (i := 10) (v := .int .i64 0) rfl
  have fy10 := hR1.free 10
  have hz1 := hR1.lt
  replace hR1 := Lib.hid hR1
  go_wp2_with fail
  refine bodyPost_ret (v := .tuple #[askZ, .bool false]) ?_ rfl ⟨rfl, ?_⟩
  · refine (res_cell (b := w.heap.size) (t := 31) Tryd.results22 _ _ (hR1.out.set11 rfl _ _ _ _ _ _ _ _ _ _ _) ?_ Tryd.underlying31 (by kernel_rfl)).trans ?_
    · simp
    · simp
  · exact gwa.set11 (Nat.le_refl _) _ _ _ _ _ _ _ _ _ _ _
set_option maxRecDepth 100000 in
set_option maxHeartbeats 6400000 in
theorem rGetAsk_end2 (w : World) (b off c : Nat) (L : List UInt8) (hS : BytesAt w (some ⟨b, off, none⟩) (frameB L)) (hL : L.length ≤ 32768) (hc : (frameB L).length ≤ c) (n0 n1 n2 k : Nat) (hk : numsR 3 L = some ([n0, n1, n2], k)) (h1 : n0 ≠ 1) (hlt : k < L.length) :
    Calls Tryd.prog 22 #[.slice (some ⟨b, off, none⟩) (frameB L).length c] w fun r w' => r = .returned (.tuple #[askZ, .bool false]) ∧ Gr w w' := by
  have hnb := rnumbers_yes (w.alloc (.cells #[.int .i64 0, .int .i64 0, .int .i64 0, .int .i64 0, .int .i64 0, .int .i64 0, .int .i64 0, .int .i64 0, .int .i64 0, .slice none 0 0, .int .i64 0] 31)) b off c 3 L (hS.gr ((Gr.refl w).alloc _)) hL hc (by decide) hk
  obtain ⟨N, hN⟩ : ∃ N, (frameB L).length = N := ⟨_, rfl⟩
  rw [hN] at hnb ⊢
  replace hN := Lib.hid hN
  replace hnb := Lib.hid hnb
  replace hS := Lib.hid hS
  have t1 : ((n0 : Int) == 1) = false := beq_eq_false_iff_ne.2 (by omega)
  replace hk := Lib.hid hk
  replace h1 := Lib.hid h1
  go_enter Tryd.func22, Tryd.ntmps22
  go_wp2_with fail
  refine hnb.out.mono ?_
  rintro e w1 ⟨a1, c1, rb, rfl, hi1, hy1, hr1, hz1, g1⟩
  have hR1 : Blk w1 w.heap.size #[.int .i64 0, .int .i64 0, .int .i64 0, .int .i64 0, .int .i64 0, .int .i64 0, .int .i64 0, .int .i64 0, .int .i64 0, .slice none 0 0, .int .i64 0] 31 := (Blk.new w _ _).gr g1
  have gw1 : Gr w w1 := ((Gr.refl w).alloc _).trans g1
  simp only [World.size_alloc] at hz1
  obtain ⟨bi, oi, rfl, hbi, hci⟩ : ∃ bi oi, a1 = some ⟨bi, oi, none⟩ ∧ bi < w1.heap.size ∧ ∀ (i : Nat) (x : Int), ([n0, n1, n2].map fun (n : Nat) => (n : Int))[i]? = some x → w1.cell? ⟨bi, oi + i, none⟩ = some (.int .i64 x) := by
    obtain ⟨bi, oi, e1, e2, -⟩ := hi1 0 (n0 : Int) rfl
    refine ⟨bi, oi, e1, e2, fun i x hx => ?_⟩
    obtain ⟨bi', oi', e3, -, e5⟩ := hi1 i x hx
    rw [e1] at e3
    cases e3
    have := e5 0 _ rfl
    simpa using this
  have k0 := hci 0 n0 rfl
  have k1 := hci 1 n1 rfl
  have k2 := hci 2 n2 rfl
  rw [Nat.add_zero] at k0
  have hbr : rb < bi := (hy1 _ rfl).1
  obtain ⟨ab, hab⟩ : ∃ ab, w1.heap.size = ab := ⟨_, rfl⟩
  rw [hab] at hbi
  have hra : rb < ab := by omega
  have hr1' : RrAt (· ≠ ab) w1 rb L k := hr1.mono (fun b hb => by omega)
  replace hi1 := Lib.hid hi1
  replace hy1 := Lib.hid hy1
  replace hr1 := Lib.hid hr1
  replace hr1' := Lib.hid hr1'
  replace hR1 := Lib.hid hR1
  replace hci := Lib.hid hci
  go_upto_region 4 with fail
  go_region_held3 (fun w' => w'.cell? ⟨bi, oi, none⟩ = some (.int .i64 n0) ∧ w'.cell? ⟨bi, oi + 1, none⟩ = some (.int .i64 n1) ∧ w'.cell? ⟨bi, oi + 2, none⟩ = some (.int .i64 n2)) (simp (maxDischargeDepth := 8) [go_sem, *])
    (first
      | fail)
  obtain ⟨w2, hw2⟩ : ∃ w2, w2 = (w1.alloc (.cells #[.int .i64 n0, .int .i64 n1, .int .i64 n2, .int .i64 0, .int .i64 0, .int .i64 0, .int .i64 0, .int .i64 0, .int .i64 0, .slice none 0 0, .int .i64 0] 31)).drew := ⟨_, rfl⟩
  have g2 : Gr w1 w2 := by rw [hw2]; exact ((Gr.refl w1).alloc _).drew
  have hA2 : Blk w2 ab #[.int .i64 n0, .int .i64 n1, .int .i64 n2, .int .i64 0, .int .i64 0, .int .i64 0, .int .i64 0, .int .i64 0, .int .i64 0, .slice none 0 0, .int .i64 0] 31 := by rw [hw2]; exact (Blk.new1 hab).gr ((Gr.refl _).drew)
  have hR2 := hR1.out.gr g2
  have hr2 := hr1'.out.gr g2
  have gw2 := gw1.trans g2
  clear k0 k1 k2
  rw [← hw2]
  replace hw2 := Lib.hid hw2
  obtain ⟨ar, cr, hbr2, -⟩ := hr2
  have q0 := GrW.cell (hbr2.cell (i := 0) (v := .slice ar L.length cr) rfl)
  have q1 := GrW.cell (hbr2.cell (i := 1) (v := .int .i64 (k : Nat)) rfl)
  have uw := hA2.cell (i := 0) (v := .int .i64 n0) rfl
  have u0 := GrW.cell (hA2.cell (i := 0) (v := .int .i64 n0) rfl)
  have u1 := GrW.cell (hA2.cell (i := 1) (v := .int .i64 n1) rfl)
  have u2 := GrW.cell (hA2.cell (i := 2) (v := .int .i64 n2) rfl)
  have u3 := GrW.cell (hA2.cell (i := 3) (v := .int .i64 0) rfl)
  have u4 := GrW.cell (hA2.cell (i := 4) (v := .int .i64 0) rfl)
  have u5 := GrW.cell (hA2.cell (i := 5) (v := .int .i64 0) rfl)
  have u6 := GrW.cell (hA2.cell (i := 6) (v := .int .i64 0) rfl)
  have u7 := GrW.cell (hA2.cell (i := 7) (v := .int .i64 0) rfl)
  have u8 := GrW.cell (hA2.cell (i := 8) (v := .int .i64 0) rfl)
  have u9 := GrW.cell (hA2.cell (i := 9) (v := .slice none 0 0) rfl)
  have u10 := GrW.cell (hA2.cell (i := 10) (v := .int .i64 0) rfl)
  have t2 : ((k : Int) != (L.length : Int)) = true := bne_iff_ne.2 (by omega)
  have hif : ∀ x : GrW w2, Calls Tryd.prog 19 #[.agg #[.int .i64 n0, .int .i64 n1, .int .i64 n2, .int .i64 0, .int .i64 0, .int .i64 0, .int .i64 0, .int .i64 0, .int .i64 0, .slice none 0 0, .int .i64 0]] x.to fun e w' => e = .returned (.bool (askF n0 (EN0 n1 n2))) ∧ Gr x.to w' := fun x => rInForm20_any n0 (EN0 n1 n2) none 0 x.to (exE_okZ n1 n2 x.to)
  replace hbr2 := Lib.hid hbr2
  replace hA2 := Lib.hid hA2
  replace hR2 := Lib.hid hR2
  replace hif := Lib.hid hif
  go_upto_region 11 with fail
  refine wp_region_grows (by kernel_rfl) (by kernel_rfl) ?_
  repeat (any_goals (first | go_big_quiet_step (first | (exact Calls.grows (hif.out _)) | fail) | quiet_step (first | (exact Calls.grows (hif.out _)) | fail)))
  refine wpQuiet_nil ?_
  intro wz hwq
  have gz := GrW.of hwq
  clear hwq
  obtain ⟨cz, fz, sz⟩ := gz.cells
  try simp only [size_drewN] at cz fz sz
  try simp only [World.size_alloc] at cz fz sz
  try simp only [World.size_drew] at cz fz sz
  try simp only [World.size_setCell] at cz fz sz
  clear cz fz q0 q1 uw u0 u1 u2 u3 u4 u5 u6 u7 u8 u9 u10
  have hRz := hR2.out.gr gz
  have gwz := gw2.trans gz
  have y0 := hRz.cell (i := 0) (v := .int .i64 0) rfl
  have fy0 := hRz.free 0
  have y1 := hRz.cell (i := 1) (v := .int .i64 0) rfl
  have fy1 := hRz.free 1
  have y2 := hRz.cell (i := 2) (v := .int .i64 0) rfl
  have fy2 := hRz.free 2
  have y3 := hRz.cell (i := 3) (v := .int .i64 0) rfl
  have fy3 := hRz.free 3
  have y4 := hRz.cell (i := 4) (v := .int .i64 0) rfl
  have fy4 := hRz.free 4
  have y5 := hRz.cell (i := 5) (v := .int .i64 0) rfl
  have fy5 := hRz.free 5
  have y6 := hRz.cell (i := 6) (v := .int .i64 0) rfl
  have fy6 := hRz.free 6
  have y7 := hRz.cell (i := 7) (v := .int .i64 0) rfl
  have fy7 := hRz.free 7
  have y8 := hRz.cell (i := 8) (v := .int .i64 0) rfl
  have fy8 := hRz.free 8
  have y9 := hRz.cell (i := 9) (v := .slice none 0 0) rfl
  have fy9 := hRz.free 9
  have y10 := hRz.cell (i := 10) (v := .int .i64 0) rfl
  have fy10 := hRz.free 10
  have hzz := hRz.lt
  replace hRz := Lib.hid hRz
  go_wp2_with fail
  refine bodyPost_ret (v := .tuple #[askZ, .bool false]) ?_ rfl ⟨rfl, ?_⟩
  · refine (res_cell (b := w.heap.size) (t := 31) Tryd.results22 _ _ (hRz.out.set11 rfl _ _ _ _ _ _ _ _ _ _ _) ?_ Tryd.underlying31 (by kernel_rfl)).trans ?_
    · simp
    · simp
  · exact gwz.set11 (Nat.le_refl _) _ _ _ _ _ _ _ _ _ _ _
set_option maxRecDepth 100000 in
set_option maxHeartbeats 6400000 in
theorem rGetAsk_form (w : World) (b off c : Nat) (L : List UInt8) (hS : BytesAt w (some ⟨b, off, none⟩) (frameB L)) (hL : L.length ≤ 32768) (hc : (frameB L).length ≤ c) (n0 n1 n2 k : Nat) (hk : numsR 3 L = some ([n0, n1, n2], k)) (h1 : n0 ≠ 1) (he : k = L.length) (hf : askF n0 (EN0 n1 n2) = false) :
    Calls Tryd.prog 22 #[.slice (some ⟨b, off, none⟩) (frameB L).length c] w fun r w' => r = .returned (.tuple #[askZ, .bool false]) ∧ Gr w w' := by
  have hnb := rnumbers_yes (w.alloc (.cells #[.int .i64 0, .int .i64 0, .int .i64 0, .int .i64 0, .int .i64 0, .int .i64 0, .int .i64 0, .int .i64 0, .int .i64 0, .slice none 0 0, .int .i64 0] 31)) b off c 3 L (hS.gr ((Gr.refl w).alloc _)) hL hc (by decide) hk
  obtain ⟨N, hN⟩ : ∃ N, (frameB L).length = N := ⟨_, rfl⟩
  rw [hN] at hnb ⊢
  replace hN := Lib.hid hN
  replace hnb := Lib.hid hnb
  replace hS := Lib.hid hS
  have t1 : ((n0 : Int) == 1) = false := beq_eq_false_iff_ne.2 (by omega)
  replace hk := Lib.hid hk
  replace h1 := Lib.hid h1
  go_enter Tryd.func22, Tryd.ntmps22
  go_wp2_with fail
  refine hnb.out.mono ?_
  rintro e w1 ⟨a1, c1, rb, rfl, hi1, hy1, hr1, hz1, g1⟩
  have hR1 : Blk w1 w.heap.size #[.int .i64 0, .int .i64 0, .int .i64 0, .int .i64 0, .int .i64 0, .int .i64 0, .int .i64 0, .int .i64 0, .int .i64 0, .slice none 0 0, .int .i64 0] 31 := (Blk.new w _ _).gr g1
  have gw1 : Gr w w1 := ((Gr.refl w).alloc _).trans g1
  simp only [World.size_alloc] at hz1
  obtain ⟨bi, oi, rfl, hbi, hci⟩ : ∃ bi oi, a1 = some ⟨bi, oi, none⟩ ∧ bi < w1.heap.size ∧ ∀ (i : Nat) (x : Int), ([n0, n1, n2].map fun (n : Nat) => (n : Int))[i]? = some x → w1.cell? ⟨bi, oi + i, none⟩ = some (.int .i64 x) := by
    obtain ⟨bi, oi, e1, e2, -⟩ := hi1 0 (n0 : Int) rfl
    refine ⟨bi, oi, e1, e2, fun i x hx => ?_⟩
    obtain ⟨bi', oi', e3, -, e5⟩ := hi1 i x hx
    rw [e1] at e3
    cases e3
    have := e5 0 _ rfl
    simpa using this
  have k0 := hci 0 n0 rfl
  have k1 := hci 1 n1 rfl
  have k2 := hci 2 n2 rfl
  rw [Nat.add_zero] at k0
  have hbr : rb < bi := (hy1 _ rfl).1
  obtain ⟨ab, hab⟩ : ∃ ab, w1.heap.size = ab := ⟨_, rfl⟩
  rw [hab] at hbi
  have hra : rb < ab := by omega
  have hr1' : RrAt (· ≠ ab) w1 rb L k := hr1.mono (fun b hb => by omega)
  replace hi1 := Lib.hid hi1
  replace hy1 := Lib.hid hy1
  replace hr1 := Lib.hid hr1
  replace hr1' := Lib.hid hr1'
  replace hR1 := Lib.hid hR1
  replace hci := Lib.hid hci
  go_upto_region 4 with fail
  go_region_held3 (fun w' => w'.cell? ⟨bi, oi, none⟩ = some (.int .i64 n0) ∧ w'.cell? ⟨bi, oi + 1, none⟩ = some (.int .i64 n1) ∧ w'.cell? ⟨bi, oi + 2, none⟩ = some (.int .i64 n2)) (simp (maxDischargeDepth := 8) [go_sem, *])
    (first
      | fail)
  obtain ⟨w2, hw2⟩ : ∃ w2, w2 = (w1.alloc (.cells #[.int .i64 n0, .int .i64 n1, .int .i64 n2, .int .i64 0, .int .i64 0, .int .i64 0, .int .i64 0, .int .i64 0, .int .i64 0, .slice none 0 0, .int .i64 0] 31)).drew := ⟨_, rfl⟩
  have g2 : Gr w1 w2 := by rw [hw2]; exact ((Gr.refl w1).alloc _).drew
  have hA2 : Blk w2 ab #[.int .i64 n0, .int .i64 n1, .int .i64 n2, .int .i64 0, .int .i64 0, .int .i64 0, .int .i64 0, .int .i64 0, .int .i64 0, .slice none 0 0, .int .i64 0] 31 := by rw [hw2]; exact (Blk.new1 hab).gr ((Gr.refl _).drew)
  have hR2 := hR1.out.gr g2
  have hr2 := hr1'.out.gr g2
  have gw2 := gw1.trans g2
  clear k0 k1 k2
  rw [← hw2]
  replace hw2 := Lib.hid hw2
  obtain ⟨ar, cr, hbr2, -⟩ := hr2
  have q0 := GrW.cell (hbr2.cell (i := 0) (v := .slice ar L.length cr) rfl)
  have q1 := GrW.cell (hbr2.cell (i := 1) (v := .int .i64 (k : Nat)) rfl)
  have uw := hA2.cell (i := 0) (v := .int .i64 n0) rfl
  have u0 := GrW.cell (hA2.cell (i := 0) (v := .int .i64 n0) rfl)
  have u1 := GrW.cell (hA2.cell (i := 1) (v := .int .i64 n1) rfl)
  have u2 := GrW.cell (hA2.cell (i := 2) (v := .int .i64 n2) rfl)
  have u3 := GrW.cell (hA2.cell (i := 3) (v := .int .i64 0) rfl)
  have u4 := GrW.cell (hA2.cell (i := 4) (v := .int .i64 0) rfl)
  have u5 := GrW.cell (hA2.cell (i := 5) (v := .int .i64 0) rfl)
  have u6 := GrW.cell (hA2.cell (i := 6) (v := .int .i64 0) rfl)
  have u7 := GrW.cell (hA2.cell (i := 7) (v := .int .i64 0) rfl)
  have u8 := GrW.cell (hA2.cell (i := 8) (v := .int .i64 0) rfl)
  have u9 := GrW.cell (hA2.cell (i := 9) (v := .slice none 0 0) rfl)
  have u10 := GrW.cell (hA2.cell (i := 10) (v := .int .i64 0) rfl)
  have t2 : ((k : Int) != (L.length : Int)) = false := by rw [he]; simp
  have hif : ∀ x : GrW w2, Calls Tryd.prog 19 #[.agg #[.int .i64 n0, .int .i64 n1, .int .i64 n2, .int .i64 0, .int .i64 0, .int .i64 0, .int .i64 0, .int .i64 0, .int .i64 0, .slice none 0 0, .int .i64 0]] x.to fun e w' => e = .returned (.bool (askF n0 (EN0 n1 n2))) ∧ Gr x.to w' := fun x => rInForm20_any n0 (EN0 n1 n2) none 0 x.to (exE_okZ n1 n2 x.to)
  rw [hf] at hif
  clear hf
  replace hbr2 := Lib.hid hbr2
  replace hA2 := Lib.hid hA2
  replace hR2 := Lib.hid hR2
  replace hif := Lib.hid hif
  go_upto_region 11 with fail
  refine wp_region_grows (by kernel_rfl) (by kernel_rfl) ?_
  repeat (any_goals (first | go_big_quiet_step (first | (exact Calls.grows (hif.out _)) | fail) | quiet_step (first | (exact Calls.grows (hif.out _)) | fail)))
  refine wpQuiet_nil ?_
  intro wz hwq
  have gz := GrW.of hwq
  clear hwq
  obtain ⟨cz, fz, sz⟩ := gz.cells
  try simp only [size_drewN] at cz fz sz
  try simp only [World.size_alloc] at cz fz sz
  try simp only [World.size_drew] at cz fz sz
  try simp only [World.size_setCell] at cz fz sz
  clear cz fz q0 q1 uw u0 u1 u2 u3 u4 u5 u6 u7 u8 u9 u10
  have hRz := hR2.out.gr gz
  have gwz := gw2.trans gz
  have y0 := hRz.cell (i := 0) (v := .int .i64 0) rfl
  have fy0 := hRz.free 0
  have y1 := hRz.cell (i := 1) (v := .int .i64 0) rfl
  have fy1 := hRz.free 1
  have y2 := hRz.cell (i := 2) (v := .int .i64 0) rfl
  have fy2 := hRz.free 2
  have y3 := hRz.cell (i := 3) (v := .int .i64 0) rfl
  have fy3 := hRz.free 3
  have y4 := hRz.cell (i := 4) (v := .int .i64 0) rfl
  have fy4 := hRz.free 4
  have y5 := hRz.cell (i := 5) (v := .int .i64 0) rfl
  have fy5 := hRz.free 5
  have y6 := hRz.cell (i := 6) (v := .int .i64 0) rfl
  have fy6 := hRz.free 6
  have y7 := hRz.cell (i := 7) (v := .int .i64 0) rfl
  have fy7 := hRz.free 7
  have y8 := hRz.cell (i := 8) (v := .int .i64 0) rfl
  have fy8 := hRz.free 8
  have y9 := hRz.cell (i := 9) (v := .slice none 0 0) rfl
  have fy9 := hRz.free 9
  have y10 := hRz.cell (i := 10) (v := .int .i64 0) rfl
  have fy10 := hRz.free 10
  have hzz := hRz.lt
  replace hRz := Lib.hid hRz
  go_wp2_with fail
  refine bodyPost_ret (v := .tuple #[askZ, .bool false]) ?_ rfl ⟨rfl, ?_⟩
  · refine (res_cell (b := w.heap.size) (t := 31) Tryd.results22 _ _ (hRz.out.set11 rfl _ _ _ _ _ _ _ _ _ _ _) ?_ Tryd.underlying31 (by kernel_rfl)).trans ?_
    · simp
    · simp
  · exact gwz.set11 (Nat.le_refl _) _ _ _ _ _ _ _ _ _ _ _
set_option maxRecDepth 100000 in
set_option maxHeartbeats 6400000 in
theorem rGetAsk_tree (w : World) (b off c : Nat) (L : List UInt8) (hS : BytesAt w (some ⟨b, off, none⟩) (frameB L)) (hL : L.length ≤ 32768) (hc : (frameB L).length ≤ c) (n0 n1 n2 k : Nat) (hk : numsR 3 L = some ([n0, n1, n2], k)) (h1 : n0 ≠ 1) (he : k = L.length) (hf : askF n0 (EN0 n1 n2) = true) :
    Calls Tryd.prog 22 #[.slice (some ⟨b, off, none⟩) (frameB L).length c] w fun r w' => r = .returned (.tuple #[.agg #[.int .i64 n0, .int .i64 n1, .int .i64 n2, .int .i64 0, .int .i64 0, .int .i64 0, .int .i64 0, .int .i64 0, .int .i64 0, .slice none 0 0, .int .i64 0], .bool true]) ∧ Gr w w' := by
  have hnb := rnumbers_yes (w.alloc (.cells #[.int .i64 0, .int .i64 0, .int .i64 0, .int .i64 0, .int .i64 0, .int .i64 0, .int .i64 0, .int .i64 0, .int .i64 0, .slice none 0 0, .int .i64 0] 31)) b off c 3 L (hS.gr ((Gr.refl w).alloc _)) hL hc (by decide) hk
  obtain ⟨N, hN⟩ : ∃ N, (frameB L).length = N := ⟨_, rfl⟩
  rw [hN] at hnb ⊢
  replace hN := Lib.hid hN
  replace hnb := Lib.hid hnb
  replace hS := Lib.hid hS
  have t1 : ((n0 : Int) == 1) = false := beq_eq_false_iff_ne.2 (by omega)
  replace hk := Lib.hid hk
  replace h1 := Lib.hid h1
  go_enter Tryd.func22, Tryd.ntmps22
  go_wp2_with fail
  refine hnb.out.mono ?_
  rintro e w1 ⟨a1, c1, rb, rfl, hi1, hy1, hr1, hz1, g1⟩
  have hR1 : Blk w1 w.heap.size #[.int .i64 0, .int .i64 0, .int .i64 0, .int .i64 0, .int .i64 0, .int .i64 0, .int .i64 0, .int .i64 0, .int .i64 0, .slice none 0 0, .int .i64 0] 31 := (Blk.new w _ _).gr g1
  have gw1 : Gr w w1 := ((Gr.refl w).alloc _).trans g1
  simp only [World.size_alloc] at hz1
  obtain ⟨bi, oi, rfl, hbi, hci⟩ : ∃ bi oi, a1 = some ⟨bi, oi, none⟩ ∧ bi < w1.heap.size ∧ ∀ (i : Nat) (x : Int), ([n0, n1, n2].map fun (n : Nat) => (n : Int))[i]? = some x → w1.cell? ⟨bi, oi + i, none⟩ = some (.int .i64 x) := by
    obtain ⟨bi, oi, e1, e2, -⟩ := hi1 0 (n0 : Int) rfl
    refine ⟨bi, oi, e1, e2, fun i x hx => ?_⟩
    obtain ⟨bi', oi', e3, -, e5⟩ := hi1 i x hx
    rw [e1] at e3
    cases e3
    have := e5 0 _ rfl
    simpa using this
  have k0 := hci 0 n0 rfl
  have k1 := hci 1 n1 rfl
  have k2 := hci 2 n2 rfl
  rw [Nat.add_zero] at k0
  have hbr : rb < bi := (hy1 _ rfl).1
  obtain ⟨ab, hab⟩ : ∃ ab, w1.heap.size = ab := ⟨_, rfl⟩
  rw [hab] at hbi
  have hra : rb < ab := by omega
  have hr1' : RrAt (· ≠ ab) w1 rb L k := hr1.mono (fun b hb => by omega)
  replace hi1 := Lib.hid hi1
  replace hy1 := Lib.hid hy1
  replace hr1 := Lib.hid hr1
  replace hr1' := Lib.hid hr1'
  replace hR1 := Lib.hid hR1
  replace hci := Lib.hid hci
  go_upto_region 4 with fail
  go_region_held3 (fun w' => w'.cell? ⟨bi, oi, none⟩ = some (.int .i64 n0) ∧ w'.cell? ⟨bi, oi + 1, none⟩ = some (.int .i64 n1) ∧ w'.cell? ⟨bi, oi + 2, none⟩ = some (.int .i64 n2)) (simp (maxDischargeDepth := 8) [go_sem, *])
    (first
      | fail)
  obtain ⟨w2, hw2⟩ : ∃ w2, w2 = (w1.alloc (.cells #[.int .i64 n0, .int .i64 n1, .int .i64 n2, .int .i64 0, .int .i64 0, .int .i64 0, .int .i64 0, .int .i64 0, .int .i64 0, .slice none 0 0, .int .i64 0] 31)).drew := ⟨_, rfl⟩
  have g2 : Gr w1 w2 := by rw [hw2]; exact ((Gr.refl w1).alloc _).drew
  have hA2 : Blk w2 ab #[.int .i64 n0, .int .i64 n1, .int .i64 n2, .int .i64 0, .int .i64 0, .int .i64 0, .int .i64 0, .int .i64 0, .int .i64 0, .slice none 0 0, .int .i64 0] 31 := by rw [hw2]; exact (Blk.new1 hab).gr ((Gr.refl _).drew)
  have hR2 := hR1.out.gr g2
  have hr2 := hr1'.out.gr g2
  have gw2 := gw1.trans g2
  clear k0 k1 k2
  rw [← hw2]
  replace hw2 := Lib.hid hw2
  obtain ⟨ar, cr, hbr2, -⟩ := hr2
  have q0 := GrW.cell (hbr2.cell (i := 0) (v := .slice ar L.length cr) rfl)
  have q1 := GrW.cell (hbr2.cell (i := 1) (v := .int .i64 (k : Nat)) rfl)
  have uw := hA2.cell (i := 0) (v := .int .i64 n0) rfl
  have u0 := GrW.cell (hA2.cell (i := 0) (v := .int .i64 n0) rfl)
  have u1 := GrW.cell (hA2.cell (i := 1) (v := .int .i64 n1) rfl)
  have u2 := GrW.cell (hA2.cell (i := 2) (v := .int .i64 n2) rfl)
  have u3 := GrW.cell (hA2.cell (i := 3) (v := .int .i64 0) rfl)
  have u4 := GrW.cell (hA2.cell (i := 4) (v := .int .i64 0) rfl)
  have u5 := GrW.cell (hA2.cell (i := 5) (v := .int .i64 0) rfl)
  have u6 := GrW.cell (hA2.cell (i := 6) (v := .int .i64 0) rfl)
  have u7 := GrW.cell (hA2.cell (i := 7) (v := .int .i64 0) rfl)
  have u8 := GrW.cell (hA2.cell (i := 8) (v := .int .i64 0) rfl)
  have u9 := GrW.cell (hA2.cell (i := 9) (v := .slice none 0 0) rfl)
  have u10 := GrW.cell (hA2.cell (i := 10) (v := .int .i64 0) rfl)
  have t2 : ((k : Int) != (L.length : Int)) = false := by rw [he]; simp
  have hif : ∀ x : GrW w2, Calls Tryd.prog 19 #[.agg #[.int .i64 n0, .int .i64 n1, .int .i64 n2, .int .i64 0, .int .i64 0, .int .i64 0, .int .i64 0, .int .i64 0, .int .i64 0, .slice none 0 0, .int .i64 0]] x.to fun e w' => e = .returned (.bool (askF n0 (EN0 n1 n2))) ∧ Gr x.to w' := fun x => rInForm20_any n0 (EN0 n1 n2) none 0 x.to (exE_okZ n1 n2 x.to)
  rw [hf] at hif
  clear hf
  replace hbr2 := Lib.hid hbr2
  replace hA2 := Lib.hid hA2
  replace hR2 := Lib.hid hR2
  replace hif := Lib.hid hif
  go_upto_region 11 with fail
  refine wp_region_grows (by kernel_rfl) (by kernel_rfl) ?_
  repeat (any_goals (first | go_big_quiet_step (first | (exact Calls.grows (hif.out _)) | fail) | quiet_step (first | (exact Calls.grows (hif.out _)) | fail)))
  refine wpQuiet_nil ?_
  intro wz hwq
  have gz := GrW.of hwq
  clear hwq
  obtain ⟨cz, fz, sz⟩ := gz.cells
  try simp only [size_drewN] at cz fz sz
  try simp only [World.size_alloc] at cz fz sz
  try simp only [World.size_drew] at cz fz sz
  try simp only [World.size_setCell] at cz fz sz
  clear cz fz q0 q1 uw u0 u1 u2 u3 u4 u5 u6 u7 u8 u9 u10
  have hRz := hR2.out.gr gz
  have gwz := gw2.trans gz
  have y0 := hRz.cell (i := 0) (v := .int .i64 0) rfl
  have fy0 := hRz.free 0
  have y1 := hRz.cell (i := 1) (v := .int .i64 0) rfl
  have fy1 := hRz.free 1
  have y2 := hRz.cell (i := 2) (v := .int .i64 0) rfl
  have fy2 := hRz.free 2
  have y3 := hRz.cell (i := 3) (v := .int .i64 0) rfl
  have fy3 := hRz.free 3
  have y4 := hRz.cell (i := 4) (v := .int .i64 0) rfl
  have fy4 := hRz.free 4
  have y5 := hRz.cell (i := 5) (v := .int .i64 0) rfl
  have fy5 := hRz.free 5
  have y6 := hRz.cell (i := 6) (v := .int .i64 0) rfl
  have fy6 := hRz.free 6
  have y7 := hRz.cell (i := 7) (v := .int .i64 0) rfl
  have fy7 := hRz.free 7
  have y8 := hRz.cell (i := 8) (v := .int .i64 0) rfl
  have fy8 := hRz.free 8
  have y9 := hRz.cell (i := 9) (v := .slice none 0 0) rfl
  have fy9 := hRz.free 9
  have y10 := hRz.cell (i := 10) (v := .int .i64 0) rfl
  have fy10 := hRz.free 10
  have hzz := hRz.lt
  have hAz := hA2.out.gr gz
  have a0 := hAz.cell (i := 0) (v := .int .i64 n0) rfl
  have a1 := hAz.cell (i := 1) (v := .int .i64 n1) rfl
  have a2 := hAz.cell (i := 2) (v := .int .i64 n2) rfl
  have a3 := hAz.cell (i := 3) (v := .int .i64 0) rfl
  have a4 := hAz.cell (i := 4) (v := .int .i64 0) rfl
  have a5 := hAz.cell (i := 5) (v := .int .i64 0) rfl
  have a6 := hAz.cell (i := 6) (v := .int .i64 0) rfl
  have a7 := hAz.cell (i := 7) (v := .int .i64 0) rfl
  have a8 := hAz.cell (i := 8) (v := .int .i64 0) rfl
  have a9 := hAz.cell (i := 9) (v := .slice none 0 0) rfl
  have a10 := hAz.cell (i := 10) (v := .int .i64 0) rfl
  replace hAz := Lib.hid hAz
  replace hRz := Lib.hid hRz
  go_wp2_with fail
  refine bodyPost_ret (v := .tuple #[.agg #[.int .i64 n0, .int .i64 n1, .int .i64 n2, .int .i64 0, .int .i64 0, .int .i64 0, .int .i64 0, .int .i64 0, .int .i64 0, .slice none 0 0, .int .i64 0], .bool true]) ?_ rfl ⟨rfl, ?_⟩
  · refine (res_cell (b := w.heap.size) (t := 31) Tryd.results22 _ _ (hRz.out.set11 rfl _ _ _ _ _ _ _ _ _ _ _) ?_ Tryd.underlying31 (by kernel_rfl)).trans ?_
    · simp
    · simp
  · exact gwz.set11 (Nat.le_refl _) _ _ _ _ _ _ _ _ _ _ _


theorem mkT_of : ∀ {l : List Tsk}, (∀ t ∈ l, Nums (tskN t)) → mkT (l.flatMap tskNat) = l
  | [], _ => rfl
  | t :: l, h => by
    have ht := h t (by simp)
    have hl := mkT_of (l := l) (fun x hx => h x (by simp [hx]))
    have h0 := (ht t.c (by simp [tskN])).1
    have h1 := (ht t.p (by simp [tskN])).1
    have h2 := (ht t.d (by simp [tskN])).1
    have h3 := (ht t.s (by simp [tskN])).1
    show (⟨((t.c.toNat : Nat) : Int), ((t.p.toNat : Nat) : Int), ((t.d.toNat : Nat) : Int), ((t.s.toNat : Nat) : Int)⟩ : Tsk) :: mkT (l.flatMap tskNat) = _
    rw [hl, show ((t.c.toNat : Nat) : Int) = t.c by omega, show ((t.p.toNat : Nat) : Int) = t.p by omega, show ((t.d.toNat : Nat) : Int) = t.d by omega, show ((t.s.toNat : Nat) : Int) = t.s by omega]
theorem entYes.nums {p : List UInt8} {m0 m1 m2 m3 m4 m5 m6 m7 m8 k j : Nat} {L0 : List Tsk} (h : entYes p m0 m1 m2 m3 m4 m5 m6 m7 m8 k j L0) : ∀ t ∈ L0, Nums (tskN t) := fun t ht => tsk_nums ((ent_tasks h.2.2.2).2 t ht)
theorem ent_one {p : List UInt8} {m0 m1 m2 m3 m4 m5 m6 m7 m8 k j : Nat} {L0 : List Tsk} {x0 x1 x2 x3 x4 x5 x6 x7 x8 k' j' : Nat} {L1 : List Tsk} (h : entYes p m0 m1 m2 m3 m4 m5 m6 m7 m8 k j L0) (h' : entYes p x0 x1 x2 x3 x4 x5 x6 x7 x8 k' j' L1) : x0 = m0 ∧ x1 = m1 ∧ x2 = m2 ∧ x3 = m3 ∧ x4 = m4 ∧ x5 = m5 ∧ x6 = m6 ∧ x7 = m7 ∧ x8 = m8 ∧ L1 = L0 := by
  have e := h.1
  rw [h'.1] at e
  simp only [Option.some.injEq, Prod.mk.injEq, List.cons.injEq, and_true] at e
  obtain ⟨⟨e0, e1, e2, e3, e4, e5, e6, e7, e8, e9⟩, ek⟩ := e
  refine ⟨e0, e1, e2, e3, e4, e5, e6, e7, e8, ?_⟩
  have e := h.2.1
  have f := h'.2.1
  rw [ek, e9] at f
  rw [f] at e
  simp only [Option.some.injEq, Prod.mk.injEq] at e
  rw [← mkT_of h'.nums, e.1, mkT_of h.nums]
theorem ent_not {p : List UInt8} {m0 m1 m2 m3 m4 m5 m6 m7 m8 k j : Nat} {L0 : List Tsk} (h : entYes p m0 m1 m2 m3 m4 m5 m6 m7 m8 k j L0) (hn : entNo p) : False := by
  have h8 := h.eight
  rcases hn with hn | ⟨x0, x1, x2, x3, x4, x5, x6, x7, x8, x9, k', e, hn⟩
  · have := h.1; rw [hn] at this; cases this
  · rw [h.1] at e
    simp only [Option.some.injEq, Prod.mk.injEq, List.cons.injEq, and_true] at e
    obtain ⟨⟨rfl, rfl, rfl, rfl, rfl, rfl, rfl, rfl, rfl, rfl⟩, rfl⟩ := e
    rcases hn with hn | ⟨-, hn | ⟨L1, j', e9, e, ht, hn⟩⟩
    · omega
    · have := h.2.1; rw [hn] at this; cases this
    · rw [h.2.1] at e
      simp only [Option.some.injEq, Prod.mk.injEq] at e
      obtain ⟨e1, rfl⟩ := e
      have e2 : L1 = L0 := by rw [← mkT_of ht, ← e1, mkT_of h.nums]
      subst e2
      rcases hn with hn | ⟨-, hn⟩
      · have := h.2.2.1; omega
      · have := h.2.2.2; rw [hn] at this; cases this
theorem rGet_no (w : World) (a : Option Addr) (c : Nat) (p : List UInt8) (hS : BytesAt w a p) (hcn : a = none → c = 0) (hpc : p.length ≤ c) (hcm : c ≤ maxLen) (hpm : p.length ≤ 40000) (hax : ∀ x, a = some x → x.block < w.heap.size) (hno : entNo p) :
    Calls Tryd.prog 46 #[.slice a p.length c] w fun e w' => e = .returned (.tuple #[entZ, .bool false]) ∧ Gr w w' :=
  (rGet_any w a c p hS hcn hpc hcm hpm hax).mono fun e w' ⟨g, h⟩ => by
    rcases h with ⟨-, h⟩ | ⟨m0, m1, m2, m3, m4, m5, m6, m7, m8, k, j, L0, a', c', hy, -⟩
    · exact ⟨h, g⟩
    · exact (ent_not hy hno).elim
theorem rGet_yes (w : World) (a : Option Addr) (c : Nat) (p : List UInt8) (hS : BytesAt w a p) (hcn : a = none → c = 0) (hpc : p.length ≤ c) (hcm : c ≤ maxLen) (hpm : p.length ≤ 40000) (hax : ∀ x, a = some x → x.block < w.heap.size) {m0 m1 m2 m3 m4 m5 m6 m7 m8 k j : Nat} {L0 : List Tsk} (hy : entYes p m0 m1 m2 m3 m4 m5 m6 m7 m8 k j L0) :
    Calls Tryd.prog 46 #[.slice a p.length c] w fun e w' => ∃ a' c', e = .returned (.tuple #[.agg #[.int .i64 m0, .int .i64 m1, .int .i64 m2, .int .i64 m4, .int .i64 m5, .int .i64 m6, .int .i64 m7, .int .i64 m8, .slice a' L0.length c', .int .i64 m3], .bool true]) ∧ (RecsAt 4 Tsk.cells w' a' L0 ∧ (a' = none → c' = 0) ∧ L0.length ≤ c' ∧ c' ≤ maxLen ∧ ∀ y, a' = some y → w.heap.size ≤ y.block) ∧ Gr w w' :=
  (rGet_any w a c p hS hcn hpc hcm hpm hax).mono fun e w' ⟨g, h⟩ => by
    rcases h with ⟨hn, -⟩ | ⟨x0, x1, x2, x3, x4, x5, x6, x7, x8, k', j', L1, a', c', hy', h1, h2⟩
    · exact (ent_not hy hn).elim
    · obtain ⟨rfl, rfl, rfl, rfl, rfl, rfl, rfl, rfl, rfl, rfl⟩ := ent_one hy hy'
      exact ⟨a', c', h1, h2, g⟩
set_option maxRecDepth 100000 in
set_option maxHeartbeats 12800000 in
theorem rGetAsk_bytes (w : World) (b off c : Nat) (L : List UInt8) (hS : BytesAt w (some ⟨b, off, none⟩) (frameB L)) (hL : L.length ≤ 32768) (hc : (frameB L).length ≤ c) (n1 n2 k : Nat) (hk : numsR 3 L = some ([1, n1, n2], k)) (hbad : ∀ n j, numR (L.drop k) = some (n, j) → 32768 < n ∨ L.length - (k + j) < n) :
    Calls Tryd.prog 22 #[.slice (some ⟨b, off, none⟩) (frameB L).length c] w fun r w' => r = .returned (.tuple #[askZ, .bool false]) ∧ Gr w w' := by
  have hnb := rnumbers_yes (w.alloc (.cells #[.int .i64 0, .int .i64 0, .int .i64 0, .int .i64 0, .int .i64 0, .int .i64 0, .int .i64 0, .int .i64 0, .int .i64 0, .slice none 0 0, .int .i64 0] 31)) b off c 3 L (hS.gr ((Gr.refl w).alloc _)) hL hc (by decide) hk
  obtain ⟨N, hN⟩ : ∃ N, (frameB L).length = N := ⟨_, rfl⟩
  rw [hN] at hnb ⊢
  replace hN := Lib.hid hN
  replace hnb := Lib.hid hnb
  replace hS := Lib.hid hS
  have t1 : ((1 : Int) == 1) = true := rfl
  replace hk := Lib.hid hk
  replace hbad := Lib.hid hbad
  go_enter Tryd.func22, Tryd.ntmps22
  go_wp2_with fail
  refine hnb.out.mono ?_
  rintro e w1 ⟨a1, c1, rb, rfl, hi1, hy1, hr1, hz1, g1⟩
  have hR1 : Blk w1 w.heap.size #[.int .i64 0, .int .i64 0, .int .i64 0, .int .i64 0, .int .i64 0, .int .i64 0, .int .i64 0, .int .i64 0, .int .i64 0, .slice none 0 0, .int .i64 0] 31 := (Blk.new w _ _).gr g1
  have gw1 : Gr w w1 := ((Gr.refl w).alloc _).trans g1
  simp only [World.size_alloc] at hz1
  obtain ⟨bi, oi, rfl, hbi, hci⟩ : ∃ bi oi, a1 = some ⟨bi, oi, none⟩ ∧ bi < w1.heap.size ∧ ∀ (i : Nat) (x : Int), ([1, n1, n2].map fun (n : Nat) => (n : Int))[i]? = some x → w1.cell? ⟨bi, oi + i, none⟩ = some (.int .i64 x) := by
    obtain ⟨bi, oi, e1, e2, -⟩ := hi1 0 (1 : Int) rfl
    refine ⟨bi, oi, e1, e2, fun i x hx => ?_⟩
    obtain ⟨bi', oi', e3, -, e5⟩ := hi1 i x hx
    rw [e1] at e3
    cases e3
    have := e5 0 _ rfl
    simpa using this
  have k0 := hci 0 1 rfl
  have k1 := hci 1 n1 rfl
  have k2 := hci 2 n2 rfl
  rw [Nat.add_zero] at k0
  have hbr : rb < bi := (hy1 _ rfl).1
  obtain ⟨ab, hab⟩ : ∃ ab, w1.heap.size = ab := ⟨_, rfl⟩
  rw [hab] at hbi
  have hra : rb < ab := by omega
  have hr1' : RrAt (· ≠ ab) w1 rb L k := hr1.mono (fun b hb => by omega)
  replace hi1 := Lib.hid hi1
  replace hy1 := Lib.hid hy1
  replace hr1 := Lib.hid hr1
  replace hr1' := Lib.hid hr1'
  replace hR1 := Lib.hid hR1
  replace hci := Lib.hid hci
  go_upto_region 4 with fail
  go_region_held3 (fun w' => w'.cell? ⟨bi, oi, none⟩ = some (.int .i64 1) ∧ w'.cell? ⟨bi, oi + 1, none⟩ = some (.int .i64 n1) ∧ w'.cell? ⟨bi, oi + 2, none⟩ = some (.int .i64 n2)) (simp (maxDischargeDepth := 8) [go_sem, *])
    (first
      | fail)
  obtain ⟨w2, hw2⟩ : ∃ w2, w2 = (w1.alloc (.cells #[.int .i64 1, .int .i64 n1, .int .i64 n2, .int .i64 0, .int .i64 0, .int .i64 0, .int .i64 0, .int .i64 0, .int .i64 0, .slice none 0 0, .int .i64 0] 31)).drew := ⟨_, rfl⟩
  have g2 : Gr w1 w2 := by rw [hw2]; exact ((Gr.refl w1).alloc _).drew
  have hA2 : Blk w2 ab #[.int .i64 1, .int .i64 n1, .int .i64 n2, .int .i64 0, .int .i64 0, .int .i64 0, .int .i64 0, .int .i64 0, .int .i64 0, .slice none 0 0, .int .i64 0] 31 := by rw [hw2]; exact (Blk.new1 hab).gr ((Gr.refl _).drew)
  have hR2 := hR1.out.gr g2
  have hr2 := hr1'.out.gr g2
  have gw2 := gw1.trans g2
  clear k0 k1 k2
  rw [← hw2]
  replace hw2 := Lib.hid hw2
  have hby := rrbytes_no w2 rb L k 32768 hr2 (fun v i hv => by have := hbad.out v i hv; omega)
  have u0 := hA2.cell (i := 0) (v := .int .i64 1) rfl
  have u1 := hA2.cell (i := 1) (v := .int .i64 n1) rfl
  have u2 := hA2.cell (i := 2) (v := .int .i64 n2) rfl
  have u3 := hA2.cell (i := 3) (v := .int .i64 0) rfl
  have u4 := hA2.cell (i := 4) (v := .int .i64 0) rfl
  have u5 := hA2.cell (i := 5) (v := .int .i64 0) rfl
  have u6 := hA2.cell (i := 6) (v := .int .i64 0) rfl
  have u7 := hA2.cell (i := 7) (v := .int .i64 0) rfl
  have u8 := hA2.cell (i := 8) (v := .int .i64 0) rfl
  have u9 := hA2.cell (i := 9) (v := .slice none 0 0) rfl
  have u10 := hA2.cell (i := 10) (v := .int .i64 0) rfl
  replace hA2 := Lib.hid hA2
  replace hR2 := Lib.hid hR2
  replace hr2 := Lib.hid hr2
  replace hby := Lib.hid hby
  go_wp2_with fail
  refine hby.out.mono ?_
  rintro e w4 ⟨rfl, g4⟩
  have hgt := rGet_no w4 none 0 [] (fun i s hi => by simp at hi) (fun _ => rfl) (Nat.le_refl _) (Nat.zero_le _) (by simp) (fun x hx => by cases hx) (.inl rfl)
  replace hgt := Lib.hid hgt
  go_wp2_with fail
  refine hgt.out.mono ?_
  rintro e w5 ⟨rfl, g5⟩
  obtain ⟨w6, hw6⟩ : ∃ w6, w6 = w5.alloc (.cells #[.int .i64 0, .int .i64 0, .int .i64 0, .int .i64 0, .int .i64 0, .int .i64 0, .int .i64 0, .int .i64 0, .slice none 0 0, .int .i64 0] 79) := ⟨_, rfl⟩
  have g6 : Gr w5 w6 := by rw [hw6]; exact (Gr.refl w5).alloc _
  have hR6 := hR2.out.gr ((g4.trans g5).trans g6)
  have gw6 := gw2.trans ((g4.trans g5).trans g6)
  have y0 := hR6.cell (i := 0) (v := .int .i64 0) rfl
  have fy0 := hR6.free 0
  have y1 := hR6.cell (i := 1) (v := .int .i64 0) rfl
  have fy1 := hR6.free 1
  have y2 := hR6.cell (i := 2) (v := .int .i64 0) rfl
  have fy2 := hR6.free 2
  have y3 := hR6.cell (i := 3) (v := .int .i64 0) rfl
  have fy3 := hR6.free 3
  have y4 := hR6.cell (i := 4) (v := .int .i64 0) rfl
  have fy4 := hR6.free 4
  have y5 := hR6.cell (i := 5) (v := .int .i64 0) rfl
  have fy5 := hR6.free 5
  have y6 := hR6.cell (i := 6) (v := .int .i64 0) rfl
  have fy6 := hR6.free 6
  have y7 := hR6.cell (i := 7) (v := .int .i64 0) rfl
  have fy7 := hR6.free 7
  have y8 := hR6.cell (i := 8) (v := .int .i64 0) rfl
  have fy8 := hR6.free 8
  have y9 := hR6.cell (i := 9) (v := .slice none 0 0) rfl
  have fy9 := hR6.free 9
  have y10 := hR6.cell (i := 10) (v := .int .i64 0) rfl
  have fy10 := hR6.free 10
  have hz6 := hR6.lt
  replace hR6 := Lib.hid hR6
  replace hw6 := Lib.hid hw6
  go_upto_region 8 with fail
  rw [← hw6.out]
  go_wp2_with fail
  refine bodyPost_ret (v := .tuple #[askZ, .bool false]) ?_ rfl ⟨rfl, ?_⟩
  · refine (res_cell (b := w.heap.size) (t := 31) Tryd.results22 _ _ (hR6.out.set11 rfl _ _ _ _ _ _ _ _ _ _ _) ?_ Tryd.underlying31 (by kernel_rfl)).trans ?_
    · simp
    · simp
  · exact gw6.set11 (Nat.le_refl _) _ _ _ _ _ _ _ _ _ _ _
set_option maxRecDepth 100000 in
set_option maxHeartbeats 12800000 in
theorem rGetAsk_ent (w : World) (b off c : Nat) (L : List UInt8) (hS : BytesAt w (some ⟨b, off, none⟩) (frameB L)) (hL : L.length ≤ 32768) (hc : (frameB L).length ≤ c) (n1 n2 k : Nat) (hk : numsR 3 L = some ([1, n1, n2], k)) (n j : Nat) (P : List UInt8) (hq : numR (L.drop k) = some (n, j)) (hn : n ≤ 32768) (hle : k + j + n ≤ L.length) (hP : (L.drop (k + j)).take n = P) (hno : entNo P) :
    Calls Tryd.prog 22 #[.slice (some ⟨b, off, none⟩) (frameB L).length c] w fun r w' => r = .returned (.tuple #[askZ, .bool false]) ∧ Gr w w' := by
  have hnb := rnumbers_yes (w.alloc (.cells #[.int .i64 0, .int .i64 0, .int .i64 0, .int .i64 0, .int .i64 0, .int .i64 0, .int .i64 0, .int .i64 0, .int .i64 0, .slice none 0 0, .int .i64 0] 31)) b off c 3 L (hS.gr ((Gr.refl w).alloc _)) hL hc (by decide) hk
  obtain ⟨N, hN⟩ : ∃ N, (frameB L).length = N := ⟨_, rfl⟩
  rw [hN] at hnb ⊢
  replace hN := Lib.hid hN
  replace hnb := Lib.hid hnb
  replace hS := Lib.hid hS
  have t1 : ((1 : Int) == 1) = true := rfl
  replace hk := Lib.hid hk
  replace hq := Lib.hid hq
  replace hP := Lib.hid hP
  replace hno := Lib.hid hno
  go_enter Tryd.func22, Tryd.ntmps22
  go_wp2_with fail
  refine hnb.out.mono ?_
  rintro e w1 ⟨a1, c1, rb, rfl, hi1, hy1, hr1, hz1, g1⟩
  have hR1 : Blk w1 w.heap.size #[.int .i64 0, .int .i64 0, .int .i64 0, .int .i64 0, .int .i64 0, .int .i64 0, .int .i64 0, .int .i64 0, .int .i64 0, .slice none 0 0, .int .i64 0] 31 := (Blk.new w _ _).gr g1
  have gw1 : Gr w w1 := ((Gr.refl w).alloc _).trans g1
  simp only [World.size_alloc] at hz1
  obtain ⟨bi, oi, rfl, hbi, hci⟩ : ∃ bi oi, a1 = some ⟨bi, oi, none⟩ ∧ bi < w1.heap.size ∧ ∀ (i : Nat) (x : Int), ([1, n1, n2].map fun (n : Nat) => (n : Int))[i]? = some x → w1.cell? ⟨bi, oi + i, none⟩ = some (.int .i64 x) := by
    obtain ⟨bi, oi, e1, e2, -⟩ := hi1 0 (1 : Int) rfl
    refine ⟨bi, oi, e1, e2, fun i x hx => ?_⟩
    obtain ⟨bi', oi', e3, -, e5⟩ := hi1 i x hx
    rw [e1] at e3
    cases e3
    have := e5 0 _ rfl
    simpa using this
  have k0 := hci 0 1 rfl
  have k1 := hci 1 n1 rfl
  have k2 := hci 2 n2 rfl
  rw [Nat.add_zero] at k0
  have hbr : rb < bi := (hy1 _ rfl).1
  obtain ⟨ab, hab⟩ : ∃ ab, w1.heap.size = ab := ⟨_, rfl⟩
  rw [hab] at hbi
  have hra : rb < ab := by omega
  have hr1' : RrAt (· ≠ ab) w1 rb L k := hr1.mono (fun b hb => by omega)
  replace hi1 := Lib.hid hi1
  replace hy1 := Lib.hid hy1
  replace hr1 := Lib.hid hr1
  replace hr1' := Lib.hid hr1'
  replace hR1 := Lib.hid hR1
  replace hci := Lib.hid hci
  go_upto_region 4 with fail
  go_region_held3 (fun w' => w'.cell? ⟨bi, oi, none⟩ = some (.int .i64 1) ∧ w'.cell? ⟨bi, oi + 1, none⟩ = some (.int .i64 n1) ∧ w'.cell? ⟨bi, oi + 2, none⟩ = some (.int .i64 n2)) (simp (maxDischargeDepth := 8) [go_sem, *])
    (first
      | fail)
  obtain ⟨w2, hw2⟩ : ∃ w2, w2 = (w1.alloc (.cells #[.int .i64 1, .int .i64 n1, .int .i64 n2, .int .i64 0, .int .i64 0, .int .i64 0, .int .i64 0, .int .i64 0, .int .i64 0, .slice none 0 0, .int .i64 0] 31)).drew := ⟨_, rfl⟩
  have g2 : Gr w1 w2 := by rw [hw2]; exact ((Gr.refl w1).alloc _).drew
  have hA2 : Blk w2 ab #[.int .i64 1, .int .i64 n1, .int .i64 n2, .int .i64 0, .int .i64 0, .int .i64 0, .int .i64 0, .int .i64 0, .int .i64 0, .slice none 0 0, .int .i64 0] 31 := by rw [hw2]; exact (Blk.new1 hab).gr ((Gr.refl _).drew)
  have hR2 := hR1.out.gr g2
  have hr2 := hr1'.out.gr g2
  have gw2 := gw1.trans g2
  clear k0 k1 k2
  rw [← hw2]
  replace hw2 := Lib.hid hw2
  have hPn : P.length = n := by rw [← hP.out, List.length_take, List.length_drop]; omega
  have hby := rrbytes_yes w2 rb L k 32768 hr2 hq.out (by omega) (by omega)
  rw [hP.out] at hby
  have u0 := hA2.cell (i := 0) (v := .int .i64 1) rfl
  have u1 := hA2.cell (i := 1) (v := .int .i64 n1) rfl
  have u2 := hA2.cell (i := 2) (v := .int .i64 n2) rfl
  have u3 := hA2.cell (i := 3) (v := .int .i64 0) rfl
  have u4 := hA2.cell (i := 4) (v := .int .i64 0) rfl
  have u5 := hA2.cell (i := 5) (v := .int .i64 0) rfl
  have u6 := hA2.cell (i := 6) (v := .int .i64 0) rfl
  have u7 := hA2.cell (i := 7) (v := .int .i64 0) rfl
  have u8 := hA2.cell (i := 8) (v := .int .i64 0) rfl
  have u9 := hA2.cell (i := 9) (v := .slice none 0 0) rfl
  have u10 := hA2.cell (i := 10) (v := .int .i64 0) rfl
  have hza := hA2.lt
  replace hPn := Lib.hid hPn
  replace hA2 := Lib.hid hA2
  replace hR2 := Lib.hid hR2
  replace hr2 := Lib.hid hr2
  replace hby := Lib.hid hby
  go_wp2_with fail
  refine hby.out.mono ?_
  rintro e w4 ⟨a4, c4, rfl, ho4, hr4, g4⟩
  have gw4 : Gr w w4 := GrX.all gw2 g4 (fun x hx => by simp at hx; omega)
  have hR4 := hR2.out.grx g4 (by simp; omega)
  have hA4 := hA2.out.grx g4 (by simp; omega)
  have hgt := rGet_no w4 a4 c4 P ho4.2.1 ho4.2.2.1 ho4.cap ho4.cmax (by have := hPn.out; omega) (fun x hx => ho4.lt hx) hno.out
  rw [hPn.out] at hgt
  clear u0 u1 u2 u3 u4 u5 u6 u7 u8 u9 u10
  replace hR4 := Lib.hid hR4
  replace hA4 := Lib.hid hA4
  replace ho4 := Lib.hid ho4
  replace hr4 := Lib.hid hr4
  replace hgt := Lib.hid hgt
  go_wp2_with fail
  refine hgt.out.mono ?_
  rintro e w5 ⟨rfl, g5⟩
  obtain ⟨w6, hw6⟩ : ∃ w6, w6 = w5.alloc (.cells #[.int .i64 0, .int .i64 0, .int .i64 0, .int .i64 0, .int .i64 0, .int .i64 0, .int .i64 0, .int .i64 0, .slice none 0 0, .int .i64 0] 79) := ⟨_, rfl⟩
  have g6 : Gr w5 w6 := by rw [hw6]; exact (Gr.refl w5).alloc _
  have hR6 := hR4.out.gr (g5.trans g6)
  have gw6 := gw4.trans (g5.trans g6)
  have y0 := hR6.cell (i := 0) (v := .int .i64 0) rfl
  have fy0 := hR6.free 0
  have y1 := hR6.cell (i := 1) (v := .int .i64 0) rfl
  have fy1 := hR6.free 1
  have y2 := hR6.cell (i := 2) (v := .int .i64 0) rfl
  have fy2 := hR6.free 2
  have y3 := hR6.cell (i := 3) (v := .int .i64 0) rfl
  have fy3 := hR6.free 3
  have y4 := hR6.cell (i := 4) (v := .int .i64 0) rfl
  have fy4 := hR6.free 4
  have y5 := hR6.cell (i := 5) (v := .int .i64 0) rfl
  have fy5 := hR6.free 5
  have y6 := hR6.cell (i := 6) (v := .int .i64 0) rfl
  have fy6 := hR6.free 6
  have y7 := hR6.cell (i := 7) (v := .int .i64 0) rfl
  have fy7 := hR6.free 7
  have y8 := hR6.cell (i := 8) (v := .int .i64 0) rfl
  have fy8 := hR6.free 8
  have y9 := hR6.cell (i := 9) (v := .slice none 0 0) rfl
  have fy9 := hR6.free 9
  have y10 := hR6.cell (i := 10) (v := .int .i64 0) rfl
  have fy10 := hR6.free 10
  have hz6 := hR6.lt
  replace hR6 := Lib.hid hR6
  replace hw6 := Lib.hid hw6
  go_upto_region 8 with fail
  rw [← hw6.out]
  go_wp2_with fail
  refine bodyPost_ret (v := .tuple #[askZ, .bool false]) ?_ rfl ⟨rfl, ?_⟩
  · refine (res_cell (b := w.heap.size) (t := 31) Tryd.results22 _ _ (hR6.out.set11 rfl _ _ _ _ _ _ _ _ _ _ _) ?_ Tryd.underlying31 (by kernel_rfl)).trans ?_
    · simp
    · simp
  · exact gw6.set11 (Nat.le_refl _) _ _ _ _ _ _ _ _ _ _ _
set_option maxRecDepth 100000 in
set_option maxHeartbeats 12800000 in
theorem rGetAsk_unlike (w : World) (b off c : Nat) (L : List UInt8) (hS : BytesAt w (some ⟨b, off, none⟩) (frameB L)) (hL : L.length ≤ 32768) (hc : (frameB L).length ≤ c) (n1 n2 k : Nat) (hk : numsR 3 L = some ([1, n1, n2], k)) (n j : Nat) (P : List UInt8) (hq : numR (L.drop k) = some (n, j)) (hn : n ≤ 32768) (hle : k + j + n ≤ L.length) (hP : (L.drop (k + j)).take n = P) (m0 m1 m2 m3 m4 m5 m6 m7 m8 kk jj : Nat) (L0 : List Tsk) (hy : entYes P m0 m1 m2 m3 m4 m5 m6 m7 m8 kk jj L0) (hne : m0 ≠ n1 ∨ m1 ≠ n2) :
    Calls Tryd.prog 22 #[.slice (some ⟨b, off, none⟩) (frameB L).length c] w fun r w' => r = .returned (.tuple #[askZ, .bool false]) ∧ Gr w w' := by
  have hnb := rnumbers_yes (w.alloc (.cells #[.int .i64 0, .int .i64 0, .int .i64 0, .int .i64 0, .int .i64 0, .int .i64 0, .int .i64 0, .int .i64 0, .int .i64 0, .slice none 0 0, .int .i64 0] 31)) b off c 3 L (hS.gr ((Gr.refl w).alloc _)) hL hc (by decide) hk
  obtain ⟨N, hN⟩ : ∃ N, (frameB L).length = N := ⟨_, rfl⟩
  rw [hN] at hnb ⊢
  replace hN := Lib.hid hN
  replace hnb := Lib.hid hnb
  replace hS := Lib.hid hS
  have t1 : ((1 : Int) == 1) = true := rfl
  replace hk := Lib.hid hk
  replace hq := Lib.hid hq
  replace hP := Lib.hid hP
  replace hy := Lib.hid hy
  replace hne := Lib.hid hne
  go_enter Tryd.func22, Tryd.ntmps22
  go_wp2_with fail
  refine hnb.out.mono ?_
  rintro e w1 ⟨a1, c1, rb, rfl, hi1, hy1, hr1, hz1, g1⟩
  have hR1 : Blk w1 w.heap.size #[.int .i64 0, .int .i64 0, .int .i64 0, .int .i64 0, .int .i64 0, .int .i64 0, .int .i64 0, .int .i64 0, .int .i64 0, .slice none 0 0, .int .i64 0] 31 := (Blk.new w _ _).gr g1
  have gw1 : Gr w w1 := ((Gr.refl w).alloc _).trans g1
  simp only [World.size_alloc] at hz1
  obtain ⟨bi, oi, rfl, hbi, hci⟩ : ∃ bi oi, a1 = some ⟨bi, oi, none⟩ ∧ bi < w1.heap.size ∧ ∀ (i : Nat) (x : Int), ([1, n1, n2].map fun (n : Nat) => (n : Int))[i]? = some x → w1.cell? ⟨bi, oi + i, none⟩ = some (.int .i64 x) := by
    obtain ⟨bi, oi, e1, e2, -⟩ := hi1 0 (1 : Int) rfl
    refine ⟨bi, oi, e1, e2, fun i x hx => ?_⟩
    obtain ⟨bi', oi', e3, -, e5⟩ := hi1 i x hx
    rw [e1] at e3
    cases e3
    have := e5 0 _ rfl
    simpa using this
  have k0 := hci 0 1 rfl
  have k1 := hci 1 n1 rfl
  have k2 := hci 2 n2 rfl
  rw [Nat.add_zero] at k0
  have hbr : rb < bi := (hy1 _ rfl).1
  obtain ⟨ab, hab⟩ : ∃ ab, w1.heap.size = ab := ⟨_, rfl⟩
  rw [hab] at hbi
  have hra : rb < ab := by omega
  have hr1' : RrAt (· ≠ ab) w1 rb L k := hr1.mono (fun b hb => by omega)
  replace hi1 := Lib.hid hi1
  replace hy1 := Lib.hid hy1
  replace hr1 := Lib.hid hr1
  replace hr1' := Lib.hid hr1'
  replace hR1 := Lib.hid hR1
  replace hci := Lib.hid hci
  go_upto_region 4 with fail
  go_region_held3 (fun w' => w'.cell? ⟨bi, oi, none⟩ = some (.int .i64 1) ∧ w'.cell? ⟨bi, oi + 1, none⟩ = some (.int .i64 n1) ∧ w'.cell? ⟨bi, oi + 2, none⟩ = some (.int .i64 n2)) (simp (maxDischargeDepth := 8) [go_sem, *])
    (first
      | fail)
  obtain ⟨w2, hw2⟩ : ∃ w2, w2 = (w1.alloc (.cells #[.int .i64 1, .int .i64 n1, .int .i64 n2, .int .i64 0, .int .i64 0, .int .i64 0, .int .i64 0, .int .i64 0, .int .i64 0, .slice none 0 0, .int .i64 0] 31)).drew := ⟨_, rfl⟩
  have g2 : Gr w1 w2 := by rw [hw2]; exact ((Gr.refl w1).alloc _).drew
  have hA2 : Blk w2 ab #[.int .i64 1, .int .i64 n1, .int .i64 n2, .int .i64 0, .int .i64 0, .int .i64 0, .int .i64 0, .int .i64 0, .int .i64 0, .slice none 0 0, .int .i64 0] 31 := by rw [hw2]; exact (Blk.new1 hab).gr ((Gr.refl _).drew)
  have hR2 := hR1.out.gr g2
  have hr2 := hr1'.out.gr g2
  have gw2 := gw1.trans g2
  clear k0 k1 k2
  rw [← hw2]
  replace hw2 := Lib.hid hw2
  have hPn : P.length = n := by rw [← hP.out, List.length_take, List.length_drop]; omega
  have hby := rrbytes_yes w2 rb L k 32768 hr2 hq.out (by omega) (by omega)
  rw [hP.out] at hby
  have u0 := hA2.cell (i := 0) (v := .int .i64 1) rfl
  have u1 := hA2.cell (i := 1) (v := .int .i64 n1) rfl
  have u2 := hA2.cell (i := 2) (v := .int .i64 n2) rfl
  have u3 := hA2.cell (i := 3) (v := .int .i64 0) rfl
  have u4 := hA2.cell (i := 4) (v := .int .i64 0) rfl
  have u5 := hA2.cell (i := 5) (v := .int .i64 0) rfl
  have u6 := hA2.cell (i := 6) (v := .int .i64 0) rfl
  have u7 := hA2.cell (i := 7) (v := .int .i64 0) rfl
  have u8 := hA2.cell (i := 8) (v := .int .i64 0) rfl
  have u9 := hA2.cell (i := 9) (v := .slice none 0 0) rfl
  have u10 := hA2.cell (i := 10) (v := .int .i64 0) rfl
  have hza := hA2.lt
  replace hPn := Lib.hid hPn
  replace hA2 := Lib.hid hA2
  replace hR2 := Lib.hid hR2
  replace hr2 := Lib.hid hr2
  replace hby := Lib.hid hby
  go_wp2_with fail
  refine hby.out.mono ?_
  rintro e w4 ⟨a4, c4, rfl, ho4, hr4, g4⟩
  have gw4 : Gr w w4 := GrX.all gw2 g4 (fun x hx => by simp at hx; omega)
  have hR4 := hR2.out.grx g4 (by simp; omega)
  have hA4 := hA2.out.grx g4 (by simp; omega)
  have hgt := rGet_yes w4 a4 c4 P ho4.2.1 ho4.2.2.1 ho4.cap ho4.cmax (by have := hPn.out; omega) (fun x hx => ho4.lt hx) hy.out
  rw [hPn.out] at hgt
  clear u0 u1 u2 u3 u4 u5 u6 u7 u8 u9 u10
  replace hR4 := Lib.hid hR4
  replace hA4 := Lib.hid hA4
  replace ho4 := Lib.hid ho4
  replace hr4 := Lib.hid hr4
  replace hgt := Lib.hid hgt
  go_wp2_with fail
  refine hgt.out.mono ?_
  rintro e w5 ⟨a5, c5, rfl, ⟨ht5, hn5, hl5, hm5, hB5⟩, g5⟩
  obtain ⟨w6, hw6⟩ : ∃ w6, w6 = w5.alloc (.cells #[.int .i64 m0, .int .i64 m1, .int .i64 m2, .int .i64 m4, .int .i64 m5, .int .i64 m6, .int .i64 m7, .int .i64 m8, .slice a5 L0.length c5, .int .i64 m3] 79) := ⟨_, rfl⟩
  have g6 : Gr w5 w6 := by rw [hw6]; exact (Gr.refl w5).alloc _
  have hX6 : Blk w6 w5.heap.size #[.int .i64 m0, .int .i64 m1, .int .i64 m2, .int .i64 m4, .int .i64 m5, .int .i64 m6, .int .i64 m7, .int .i64 m8, .slice a5 L0.length c5, .int .i64 m3] 79 := by rw [hw6]; exact Blk.new w5 _ _
  have hA6 := hA4.out.gr (g5.trans g6)
  have hR6 := hR4.out.gr (g5.trans g6)
  have hr6 := hr4.out.gr (g5.trans g6)
  have gw6 := gw4.trans (g5.trans g6)
  have za6 := hA6.lt
  have z45 := g4.size
  have z5 := g5.size
  have x0 := hX6.cell (i := 0) (v := .int .i64 m0) rfl
  have x1 := hX6.cell (i := 1) (v := .int .i64 m1) rfl
  have x2 := hX6.cell (i := 2) (v := .int .i64 m2) rfl
  have x3 := hX6.cell (i := 3) (v := .int .i64 m4) rfl
  have x4 := hX6.cell (i := 4) (v := .int .i64 m5) rfl
  have x5 := hX6.cell (i := 5) (v := .int .i64 m6) rfl
  have x6 := hX6.cell (i := 6) (v := .int .i64 m7) rfl
  have x7 := hX6.cell (i := 7) (v := .int .i64 m8) rfl
  have x8 := hX6.cell (i := 8) (v := .slice a5 L0.length c5) rfl
  have x9 := hX6.cell (i := 9) (v := .int .i64 m3) rfl
  have u0 := hA6.cell (i := 0) (v := .int .i64 1) rfl
  have u1 := hA6.cell (i := 1) (v := .int .i64 n1) rfl
  have u2 := hA6.cell (i := 2) (v := .int .i64 n2) rfl
  have u3 := hA6.cell (i := 3) (v := .int .i64 0) rfl
  have u4 := hA6.cell (i := 4) (v := .int .i64 0) rfl
  have u5 := hA6.cell (i := 5) (v := .int .i64 0) rfl
  have u6 := hA6.cell (i := 6) (v := .int .i64 0) rfl
  have u7 := hA6.cell (i := 7) (v := .int .i64 0) rfl
  have u8 := hA6.cell (i := 8) (v := .int .i64 0) rfl
  have u9 := hA6.cell (i := 9) (v := .slice none 0 0) rfl
  have u10 := hA6.cell (i := 10) (v := .int .i64 0) rfl
  have fu3 := hA6.free 3
  have fu4 := hA6.free 4
  have fu5 := hA6.free 5
  have fu6 := hA6.free 6
  have fu7 := hA6.free 7
  have fu8 := hA6.free 8
  have fu9 := hA6.free 9
  have fu10 := hA6.free 10
  have y0 := hR6.cell (i := 0) (v := .int .i64 0) rfl
  have fy0 := hR6.free 0
  have y1 := hR6.cell (i := 1) (v := .int .i64 0) rfl
  have fy1 := hR6.free 1
  have y2 := hR6.cell (i := 2) (v := .int .i64 0) rfl
  have fy2 := hR6.free 2
  have y3 := hR6.cell (i := 3) (v := .int .i64 0) rfl
  have fy3 := hR6.free 3
  have y4 := hR6.cell (i := 4) (v := .int .i64 0) rfl
  have fy4 := hR6.free 4
  have y5 := hR6.cell (i := 5) (v := .int .i64 0) rfl
  have fy5 := hR6.free 5
  have y6 := hR6.cell (i := 6) (v := .int .i64 0) rfl
  have fy6 := hR6.free 6
  have y7 := hR6.cell (i := 7) (v := .int .i64 0) rfl
  have fy7 := hR6.free 7
  have y8 := hR6.cell (i := 8) (v := .int .i64 0) rfl
  have fy8 := hR6.free 8
  have y9 := hR6.cell (i := 9) (v := .slice none 0 0) rfl
  have fy9 := hR6.free 9
  have y10 := hR6.cell (i := 10) (v := .int .i64 0) rfl
  have fy10 := hR6.free 10
  have hz6 := hR6.lt
  replace hX6 := Lib.hid hX6
  replace hA6 := Lib.hid hA6
  replace hR6 := Lib.hid hR6
  replace hr6 := Lib.hid hr6
  replace ht5 := Lib.hid ht5
  replace hB5 := Lib.hid hB5
  replace hw6 := Lib.hid hw6
  by_cases h0 : m0 = n1
  · have h1 : m1 ≠ n2 := by rcases hne.out with h | h; exact absurd h0 h; exact h
    have t2 : ((m0 : Int) != (n1 : Int)) = false := by rw [h0]; simp
    have t3 : ((m1 : Int) != (n2 : Int)) = true := bne_iff_ne.2 (by omega)
    replace h0 := Lib.hid h0
    go_upto_region 8 with fail
    rw [← hw6.out]
    go_wp2_with fail
    refine bodyPost_ret (v := .tuple #[askZ, .bool false]) ?_ rfl ⟨rfl, ?_⟩
    · refine (res_cell (b := w.heap.size) (t := 31) Tryd.results22 _ _ (hR6.out.set11 rfl _ _ _ _ _ _ _ _ _ _ _) ?_ Tryd.underlying31 (by kernel_rfl)).trans ?_
      · simp
      · simp
    · exact gw6.set11 (Nat.le_refl _) _ _ _ _ _ _ _ _ _ _ _
  · have t2 : ((m0 : Int) != (n1 : Int)) = true := bne_iff_ne.2 (by omega)
    go_upto_region 8 with fail
    rw [← hw6.out]
    go_wp2_with fail
    refine bodyPost_ret (v := .tuple #[askZ, .bool false]) ?_ rfl ⟨rfl, ?_⟩
    · refine (res_cell (b := w.heap.size) (t := 31) Tryd.results22 _ _ (hR6.out.set11 rfl _ _ _ _ _ _ _ _ _ _ _) ?_ Tryd.underlying31 (by kernel_rfl)).trans ?_
      · simp
      · simp
    · exact gw6.set11 (Nat.le_refl _) _ _ _ _ _ _ _ _ _ _ _


set_option maxRecDepth 100000 in
set_option maxHeartbeats 12800000 in
theorem rGetAsk_end1 (w : World) (b off c : Nat) (L : List UInt8) (hS : BytesAt w (some ⟨b, off, none⟩) (frameB L)) (hL : L.length ≤ 32768) (hc : (frameB L).length ≤ c) (m0 m1 k : Nat) (hk : numsR 3 L = some ([1, m0, m1], k)) (n j : Nat) (P : List UInt8) (hq : numR (L.drop k) = some (n, j)) (hn : n ≤ 32768) (hP : (L.drop (k + j)).take n = P) (m2 m3 m4 m5 m6 m7 m8 kk jj : Nat) (L0 : List Tsk) (hy : entYes P m0 m1 m2 m3 m4 m5 m6 m7 m8 kk jj L0) (hlt : k + j + n < L.length) :
    Calls Tryd.prog 22 #[.slice (some ⟨b, off, none⟩) (frameB L).length c] w fun r w' => r = .returned (.tuple #[askZ, .bool false]) ∧ Gr w w' := by
  have hnb := rnumbers_yes (w.alloc (.cells #[.int .i64 0, .int .i64 0, .int .i64 0, .int .i64 0, .int .i64 0, .int .i64 0, .int .i64 0, .int .i64 0, .int .i64 0, .slice none 0 0, .int .i64 0] 31)) b off c 3 L (hS.gr ((Gr.refl w).alloc _)) hL hc (by decide) hk
  obtain ⟨N, hN⟩ : ∃ N, (frameB L).length = N := ⟨_, rfl⟩
  rw [hN] at hnb ⊢
  replace hN := Lib.hid hN
  replace hnb := Lib.hid hnb
  replace hS := Lib.hid hS
  have t1 : ((1 : Int) == 1) = true := rfl
  replace hk := Lib.hid hk
  replace hq := Lib.hid hq
  replace hP := Lib.hid hP
  replace hy := Lib.hid hy
  go_enter Tryd.func22, Tryd.ntmps22
  go_wp2_with fail
  refine hnb.out.mono ?_
  rintro e w1 ⟨a1, c1, rb, rfl, hi1, hy1, hr1, hz1, g1⟩
  have hR1 : Blk w1 w.heap.size #[.int .i64 0, .int .i64 0, .int .i64 0, .int .i64 0, .int .i64 0, .int .i64 0, .int .i64 0, .int .i64 0, .int .i64 0, .slice none 0 0, .int .i64 0] 31 := (Blk.new w _ _).gr g1
  have gw1 : Gr w w1 := ((Gr.refl w).alloc _).trans g1
  simp only [World.size_alloc] at hz1
  obtain ⟨bi, oi, rfl, hbi, hci⟩ : ∃ bi oi, a1 = some ⟨bi, oi, none⟩ ∧ bi < w1.heap.size ∧ ∀ (i : Nat) (x : Int), ([1, m0, m1].map fun (n : Nat) => (n : Int))[i]? = some x → w1.cell? ⟨bi, oi + i, none⟩ = some (.int .i64 x) := by
    obtain ⟨bi, oi, e1, e2, -⟩ := hi1 0 (1 : Int) rfl
    refine ⟨bi, oi, e1, e2, fun i x hx => ?_⟩
    obtain ⟨bi', oi', e3, -, e5⟩ := hi1 i x hx
    rw [e1] at e3
    cases e3
    have := e5 0 _ rfl
    simpa using this
  have k0 := hci 0 1 rfl
  have k1 := hci 1 m0 rfl
  have k2 := hci 2 m1 rfl
  rw [Nat.add_zero] at k0
  have hbr : rb < bi := (hy1 _ rfl).1
  obtain ⟨ab, hab⟩ : ∃ ab, w1.heap.size = ab := ⟨_, rfl⟩
  rw [hab] at hbi
  have hra : rb < ab := by omega
  have hr1' : RrAt (· ≠ ab) w1 rb L k := hr1.mono (fun b hb => by omega)
  replace hi1 := Lib.hid hi1
  replace hy1 := Lib.hid hy1
  replace hr1 := Lib.hid hr1
  replace hr1' := Lib.hid hr1'
  replace hR1 := Lib.hid hR1
  replace hci := Lib.hid hci
  go_upto_region 4 with fail
  go_region_held3 (fun w' => w'.cell? ⟨bi, oi, none⟩ = some (.int .i64 1) ∧ w'.cell? ⟨bi, oi + 1, none⟩ = some (.int .i64 m0) ∧ w'.cell? ⟨bi, oi + 2, none⟩ = some (.int .i64 m1)) (simp (maxDischargeDepth := 8) [go_sem, *])
    (first
      | fail)
  obtain ⟨w2, hw2⟩ : ∃ w2, w2 = (w1.alloc (.cells #[.int .i64 1, .int .i64 m0, .int .i64 m1, .int .i64 0, .int .i64 0, .int .i64 0, .int .i64 0, .int .i64 0, .int .i64 0, .slice none 0 0, .int .i64 0] 31)).drew := ⟨_, rfl⟩
  have g2 : Gr w1 w2 := by rw [hw2]; exact ((Gr.refl w1).alloc _).drew
  have hA2 : Blk w2 ab #[.int .i64 1, .int .i64 m0, .int .i64 m1, .int .i64 0, .int .i64 0, .int .i64 0, .int .i64 0, .int .i64 0, .int .i64 0, .slice none 0 0, .int .i64 0] 31 := by rw [hw2]; exact (Blk.new1 hab).gr ((Gr.refl _).drew)
  have hR2 := hR1.out.gr g2
  have hr2 := hr1'.out.gr g2
  have gw2 := gw1.trans g2
  clear k0 k1 k2
  rw [← hw2]
  replace hw2 := Lib.hid hw2
  have hPn : P.length = n := by rw [← hP.out, List.length_take, List.length_drop]; omega
  have hby := rrbytes_yes w2 rb L k 32768 hr2 hq.out (by omega) (by omega)
  rw [hP.out] at hby
  have u0 := hA2.cell (i := 0) (v := .int .i64 1) rfl
  have u1 := hA2.cell (i := 1) (v := .int .i64 m0) rfl
  have u2 := hA2.cell (i := 2) (v := .int .i64 m1) rfl
  have u3 := hA2.cell (i := 3) (v := .int .i64 0) rfl
  have u4 := hA2.cell (i := 4) (v := .int .i64 0) rfl
  have u5 := hA2.cell (i := 5) (v := .int .i64 0) rfl
  have u6 := hA2.cell (i := 6) (v := .int .i64 0) rfl
  have u7 := hA2.cell (i := 7) (v := .int .i64 0) rfl
  have u8 := hA2.cell (i := 8) (v := .int .i64 0) rfl
  have u9 := hA2.cell (i := 9) (v := .slice none 0 0) rfl
  have u10 := hA2.cell (i := 10) (v := .int .i64 0) rfl
  have hza := hA2.lt
  replace hPn := Lib.hid hPn
  replace hA2 := Lib.hid hA2
  replace hR2 := Lib.hid hR2
  replace hr2 := Lib.hid hr2
  replace hby := Lib.hid hby
  go_wp2_with fail
  refine hby.out.mono ?_
  rintro e w4 ⟨a4, c4, rfl, ho4, hr4, g4⟩
  have gw4 : Gr w w4 := GrX.all gw2 g4 (fun x hx => by simp at hx; omega)
  have hR4 := hR2.out.grx g4 (by simp; omega)
  have hA4 := hA2.out.grx g4 (by simp; omega)
  have hgt := rGet_yes w4 a4 c4 P ho4.2.1 ho4.2.2.1 ho4.cap ho4.cmax (by have := hPn.out; omega) (fun x hx => ho4.lt hx) hy.out
  rw [hPn.out] at hgt
  clear u0 u1 u2 u3 u4 u5 u6 u7 u8 u9 u10
  replace hR4 := Lib.hid hR4
  replace hA4 := Lib.hid hA4
  replace ho4 := Lib.hid ho4
  replace hr4 := Lib.hid hr4
  replace hgt := Lib.hid hgt
  go_wp2_with fail
  refine hgt.out.mono ?_
  rintro e w5 ⟨a5, c5, rfl, ⟨ht5, hn5, hl5, hm5, hB5⟩, g5⟩
  obtain ⟨w6, hw6⟩ : ∃ w6, w6 = w5.alloc (.cells #[.int .i64 m0, .int .i64 m1, .int .i64 m2, .int .i64 m4, .int .i64 m5, .int .i64 m6, .int .i64 m7, .int .i64 m8, .slice a5 L0.length c5, .int .i64 m3] 79) := ⟨_, rfl⟩
  have g6 : Gr w5 w6 := by rw [hw6]; exact (Gr.refl w5).alloc _
  have hX6 : Blk w6 w5.heap.size #[.int .i64 m0, .int .i64 m1, .int .i64 m2, .int .i64 m4, .int .i64 m5, .int .i64 m6, .int .i64 m7, .int .i64 m8, .slice a5 L0.length c5, .int .i64 m3] 79 := by rw [hw6]; exact Blk.new w5 _ _
  have hA6 := hA4.out.gr (g5.trans g6)
  have hR6 := hR4.out.gr (g5.trans g6)
  have hr6 := hr4.out.gr (g5.trans g6)
  have gw6 := gw4.trans (g5.trans g6)
  have za6 := hA6.lt
  have z45 := g4.size
  have z5 := g5.size
  have x0 := hX6.cell (i := 0) (v := .int .i64 m0) rfl
  have x1 := hX6.cell (i := 1) (v := .int .i64 m1) rfl
  have x2 := hX6.cell (i := 2) (v := .int .i64 m2) rfl
  have x3 := hX6.cell (i := 3) (v := .int .i64 m4) rfl
  have x4 := hX6.cell (i := 4) (v := .int .i64 m5) rfl
  have x5 := hX6.cell (i := 5) (v := .int .i64 m6) rfl
  have x6 := hX6.cell (i := 6) (v := .int .i64 m7) rfl
  have x7 := hX6.cell (i := 7) (v := .int .i64 m8) rfl
  have x8 := hX6.cell (i := 8) (v := .slice a5 L0.length c5) rfl
  have x9 := hX6.cell (i := 9) (v := .int .i64 m3) rfl
  have u0 := hA6.cell (i := 0) (v := .int .i64 1) rfl
  have u1 := hA6.cell (i := 1) (v := .int .i64 m0) rfl
  have u2 := hA6.cell (i := 2) (v := .int .i64 m1) rfl
  have u3 := hA6.cell (i := 3) (v := .int .i64 0) rfl
  have u4 := hA6.cell (i := 4) (v := .int .i64 0) rfl
  have u5 := hA6.cell (i := 5) (v := .int .i64 0) rfl
  have u6 := hA6.cell (i := 6) (v := .int .i64 0) rfl
  have u7 := hA6.cell (i := 7) (v := .int .i64 0) rfl
  have u8 := hA6.cell (i := 8) (v := .int .i64 0) rfl
  have u9 := hA6.cell (i := 9) (v := .slice none 0 0) rfl
  have u10 := hA6.cell (i := 10) (v := .int .i64 0) rfl
  have fu3 := hA6.free 3
  have fu4 := hA6.free 4
  have fu5 := hA6.free 5
  have fu6 := hA6.free 6
  have fu7 := hA6.free 7
  have fu8 := hA6.free 8
  have fu9 := hA6.free 9
  have fu10 := hA6.free 10
  have t2 : ((m0 : Int) != (m0 : Int)) = false := by simp
  have t3 : ((m1 : Int) != (m1 : Int)) = false := by simp
  obtain ⟨w7, hw7⟩ : ∃ w7, w7 = ((((((((w6.setCell ⟨ab, 3, none⟩ (.int .i64 m2)).setCell ⟨ab, 4, none⟩ (.int .i64 m4)).setCell ⟨ab, 5, none⟩ (.int .i64 m5)).setCell ⟨ab, 6, none⟩ (.int .i64 m6)).setCell ⟨ab, 7, none⟩ (.int .i64 m7)).setCell ⟨ab, 8, none⟩ (.int .i64 m8)).setCell ⟨ab, 9, none⟩ (.slice a5 L0.length c5)).setCell ⟨ab, 10, none⟩ (.int .i64 m3)) := ⟨_, rfl⟩
  have gx7 : GrX [ab] w6 w7 := by rw [hw7]; exact (GrX.refl [ab] w6).set38 (b := ab) (by simp) (.int .i64 m2) (.int .i64 m4) (.int .i64 m5) (.int .i64 m6) (.int .i64 m7) (.int .i64 m8) (.slice a5 L0.length c5) (.int .i64 m3)
  have hA7 : Blk w7 ab #[.int .i64 1, .int .i64 m0, .int .i64 m1, .int .i64 m2, .int .i64 m4, .int .i64 m5, .int .i64 m6, .int .i64 m7, .int .i64 m8, .slice a5 L0.length c5, .int .i64 m3] 31 := by rw [hw7]; exact hA6.set38 rfl (.int .i64 m2) (.int .i64 m4) (.int .i64 m5) (.int .i64 m6) (.int .i64 m7) (.int .i64 m8) (.slice a5 L0.length c5) (.int .i64 m3)
  have hR7 := hR6.grx gx7 (by simp; omega)
  have gw7 : Gr w w7 := GrX.all gw6 gx7 (fun x hx => by simp at hx; omega)
  have ht7 : RecsAt 4 Tsk.cells w7 a5 L0 := (RecsIn.grx (K := fun b => w4.heap.size ≤ b) (RecsIn.grx (T := []) (K := fun b => w4.heap.size ≤ b) ⟨ht5, fun x hx _ => hB5 x hx⟩ (g6.x []) (fun x hx => by cases hx)) gx7 (fun x hx => by simp at hx; omega)).1
  have hr7 := hr6.grx gx7 (by simp; omega) (fun b hb => by simpa using hb)
  have hok : (⟨EN9 m0 m1 m2 m3 m4 m5 m6 m7 m8 L0, a5, c5⟩ : EntM).ok Any w7 := ⟨⟨ht7, fun _ _ _ => trivial⟩, hn5, hl5, hm5, by have := hy.out.eight; show L0.length * 32 ≤ _; omega⟩
  obtain ⟨ar, cr, hbr7, -⟩ := hr7
  replace hX6 := Lib.hid hX6
  replace hA6 := Lib.hid hA6
  replace hR6 := Lib.hid hR6
  replace hr6 := Lib.hid hr6
  replace ht5 := Lib.hid ht5
  replace hB5 := Lib.hid hB5
  replace ht7 := Lib.hid ht7
  replace hw6 := Lib.hid hw6
  replace hw7 := Lib.hid hw7
  replace hbr7 := Lib.hid hbr7
  replace hA7 := Lib.hid hA7
  replace hR7 := Lib.hid hR7
  replace hok := Lib.hid hok
  go_upto_region 8 with fail
  rw [← hw6.out]
  go_upto_region 11 with fail
  rw [← hw7.out]
  clear u0 x0 u1 x1 u2 x2 u3 x3 u4 x4 u5 x5 u6 x6 u7 x7 u8 x8 u9 x9 u10 fu3 fu4 fu5 fu6 fu7 fu8 fu9 fu10
  have q0 := GrW.cell (hbr7.out.cell (i := 0) (v := .slice ar L.length cr) rfl)
  have q1 := GrW.cell (hbr7.out.cell (i := 1) (v := .int .i64 ((k + j + n : Nat) : Int)) rfl)
  have v0 := GrW.cell (hA7.out.cell (i := 0) (v := .int .i64 1) rfl)
  have v1 := GrW.cell (hA7.out.cell (i := 1) (v := .int .i64 m0) rfl)
  have v2 := GrW.cell (hA7.out.cell (i := 2) (v := .int .i64 m1) rfl)
  have v3 := GrW.cell (hA7.out.cell (i := 3) (v := .int .i64 m2) rfl)
  have v4 := GrW.cell (hA7.out.cell (i := 4) (v := .int .i64 m4) rfl)
  have v5 := GrW.cell (hA7.out.cell (i := 5) (v := .int .i64 m5) rfl)
  have v6 := GrW.cell (hA7.out.cell (i := 6) (v := .int .i64 m6) rfl)
  have v7 := GrW.cell (hA7.out.cell (i := 7) (v := .int .i64 m7) rfl)
  have v8 := GrW.cell (hA7.out.cell (i := 8) (v := .int .i64 m8) rfl)
  have v9 := GrW.cell (hA7.out.cell (i := 9) (v := .slice a5 L0.length c5) rfl)
  have v10 := GrW.cell (hA7.out.cell (i := 10) (v := .int .i64 m3) rfl)
  have hif : ∀ x : GrW w7, Calls Tryd.prog 19 #[.agg #[.int .i64 1, .int .i64 m0, .int .i64 m1, .int .i64 m2, .int .i64 m4, .int .i64 m5, .int .i64 m6, .int .i64 m7, .int .i64 m8, .slice a5 L0.length c5, .int .i64 m3]] x.to fun e w' => e = .returned (.bool (askF 1 (EN9 m0 m1 m2 m3 m4 m5 m6 m7 m8 L0))) ∧ Gr x.to w' := fun x => rInForm20_any 1 (EN9 m0 m1 m2 m3 m4 m5 m6 m7 m8 L0) a5 c5 x.to (hok.out.gr x.gr)
  rw [show askF 1 (EN9 m0 m1 m2 m3 m4 m5 m6 m7 m8 L0) = true by have := hy.out.2.2.2; unfold askF; simp [this]] at hif
  have t4 : (((k + j + n : Nat) : Int) != (L.length : Int)) = true := bne_iff_ne.2 (by omega)
  obtain ⟨s, hs⟩ : ∃ s : Int, ((k + j + n : Nat) : Int) = s := ⟨_, rfl⟩
  rw [hs] at q1 t4
  replace hs := Lib.hid hs
  replace hif := Lib.hid hif
  refine wp_region_grows (by kernel_rfl) (by kernel_rfl) ?_
  repeat (any_goals (first | go_big_quiet_step (first | (exact Calls.grows (hif.out _)) | fail) | quiet_step (first | (exact Calls.grows (hif.out _)) | fail)))
  refine wpQuiet_nil ?_
  intro wz hwq
  have gz := GrW.of hwq
  clear hwq
  obtain ⟨cz, fz, sz⟩ := gz.cells
  try simp only [size_drewN] at cz fz sz
  try simp only [World.size_alloc] at cz fz sz
  try simp only [World.size_drew] at cz fz sz
  try simp only [World.size_setCell] at cz fz sz
  clear cz fz q0 q1 v0 v1 v2 v3 v4 v5 v6 v7 v8 v9 v10
  have hRz := hR7.out.gr gz
  have gwz := gw7.trans gz
  have y0 := hRz.cell (i := 0) (v := .int .i64 0) rfl
  have fy0 := hRz.free 0
  have y1 := hRz.cell (i := 1) (v := .int .i64 0) rfl
  have fy1 := hRz.free 1
  have y2 := hRz.cell (i := 2) (v := .int .i64 0) rfl
  have fy2 := hRz.free 2
  have y3 := hRz.cell (i := 3) (v := .int .i64 0) rfl
  have fy3 := hRz.free 3
  have y4 := hRz.cell (i := 4) (v := .int .i64 0) rfl
  have fy4 := hRz.free 4
  have y5 := hRz.cell (i := 5) (v := .int .i64 0) rfl
  have fy5 := hRz.free 5
  have y6 := hRz.cell (i := 6) (v := .int .i64 0) rfl
  have fy6 := hRz.free 6
  have y7 := hRz.cell (i := 7) (v := .int .i64 0) rfl
  have fy7 := hRz.free 7
  have y8 := hRz.cell (i := 8) (v := .int .i64 0) rfl
  have fy8 := hRz.free 8
  have y9 := hRz.cell (i := 9) (v := .slice none 0 0) rfl
  have fy9 := hRz.free 9
  have y10 := hRz.cell (i := 10) (v := .int .i64 0) rfl
  have fy10 := hRz.free 10
  have hzz := hRz.lt
  replace hRz := Lib.hid hRz
  go_wp2_with fail
  refine bodyPost_ret (v := .tuple #[askZ, .bool false]) ?_ rfl ⟨rfl, ?_⟩
  · refine (res_cell (b := w.heap.size) (t := 31) Tryd.results22 _ _ (hRz.out.set11 rfl _ _ _ _ _ _ _ _ _ _ _) ?_ Tryd.underlying31 (by kernel_rfl)).trans ?_
    · simp
    · simp
  · exact gwz.set11 (Nat.le_refl _) _ _ _ _ _ _ _ _ _ _ _
set_option maxRecDepth 100000 in
set_option maxHeartbeats 12800000 in
theorem rGetAsk_order (w : World) (b off c : Nat) (L : List UInt8) (hS : BytesAt w (some ⟨b, off, none⟩) (frameB L)) (hL : L.length ≤ 32768) (hc : (frameB L).length ≤ c) (m0 m1 k : Nat) (hk : numsR 3 L = some ([1, m0, m1], k)) (n j : Nat) (P : List UInt8) (hq : numR (L.drop k) = some (n, j)) (hn : n ≤ 32768) (hP : (L.drop (k + j)).take n = P) (m2 m3 m4 m5 m6 m7 m8 kk jj : Nat) (L0 : List Tsk) (hy : entYes P m0 m1 m2 m3 m4 m5 m6 m7 m8 kk jj L0) (he : k + j + n = L.length) :
    Calls Tryd.prog 22 #[.slice (some ⟨b, off, none⟩) (frameB L).length c] w fun r w' => ∃ a' c', r = .returned (.tuple #[.agg #[.int .i64 1, .int .i64 m0, .int .i64 m1, .int .i64 m2, .int .i64 m4, .int .i64 m5, .int .i64 m6, .int .i64 m7, .int .i64 m8, .slice a' L0.length c', .int .i64 m3], .bool true]) ∧ (⟨EN9 m0 m1 m2 m3 m4 m5 m6 m7 m8 L0, a', c'⟩ : EntM).ok Any w' ∧ Gr w w' := by
  have hnb := rnumbers_yes (w.alloc (.cells #[.int .i64 0, .int .i64 0, .int .i64 0, .int .i64 0, .int .i64 0, .int .i64 0, .int .i64 0, .int .i64 0, .int .i64 0, .slice none 0 0, .int .i64 0] 31)) b off c 3 L (hS.gr ((Gr.refl w).alloc _)) hL hc (by decide) hk
  obtain ⟨N, hN⟩ : ∃ N, (frameB L).length = N := ⟨_, rfl⟩
  rw [hN] at hnb ⊢
  replace hN := Lib.hid hN
  replace hnb := Lib.hid hnb
  replace hS := Lib.hid hS
  have t1 : ((1 : Int) == 1) = true := rfl
  replace hk := Lib.hid hk
  replace hq := Lib.hid hq
  replace hP := Lib.hid hP
  replace hy := Lib.hid hy
  go_enter Tryd.func22, Tryd.ntmps22
  go_wp2_with fail
  refine hnb.out.mono ?_
  rintro e w1 ⟨a1, c1, rb, rfl, hi1, hy1, hr1, hz1, g1⟩
  have hR1 : Blk w1 w.heap.size #[.int .i64 0, .int .i64 0, .int .i64 0, .int .i64 0, .int .i64 0, .int .i64 0, .int .i64 0, .int .i64 0, .int .i64 0, .slice none 0 0, .int .i64 0] 31 := (Blk.new w _ _).gr g1
  have gw1 : Gr w w1 := ((Gr.refl w).alloc _).trans g1
  simp only [World.size_alloc] at hz1
  obtain ⟨bi, oi, rfl, hbi, hci⟩ : ∃ bi oi, a1 = some ⟨bi, oi, none⟩ ∧ bi < w1.heap.size ∧ ∀ (i : Nat) (x : Int), ([1, m0, m1].map fun (n : Nat) => (n : Int))[i]? = some x → w1.cell? ⟨bi, oi + i, none⟩ = some (.int .i64 x) := by
    obtain ⟨bi, oi, e1, e2, -⟩ := hi1 0 (1 : Int) rfl
    refine ⟨bi, oi, e1, e2, fun i x hx => ?_⟩
    obtain ⟨bi', oi', e3, -, e5⟩ := hi1 i x hx
    rw [e1] at e3
    cases e3
    have := e5 0 _ rfl
    simpa using this
  have k0 := hci 0 1 rfl
  have k1 := hci 1 m0 rfl
  have k2 := hci 2 m1 rfl
  rw [Nat.add_zero] at k0
  have hbr : rb < bi := (hy1 _ rfl).1
  obtain ⟨ab, hab⟩ : ∃ ab, w1.heap.size = ab := ⟨_, rfl⟩
  rw [hab] at hbi
  have hra : rb < ab := by omega
  have hr1' : RrAt (· ≠ ab) w1 rb L k := hr1.mono (fun b hb => by omega)
  replace hi1 := Lib.hid hi1
  replace hy1 := Lib.hid hy1
  replace hr1 := Lib.hid hr1
  replace hr1' := Lib.hid hr1'
  replace hR1 := Lib.hid hR1
  replace hci := Lib.hid hci
  go_upto_region 4 with fail
  go_region_held3 (fun w' => w'.cell? ⟨bi, oi, none⟩ = some (.int .i64 1) ∧ w'.cell? ⟨bi, oi + 1, none⟩ = some (.int .i64 m0) ∧ w'.cell? ⟨bi, oi + 2, none⟩ = some (.int .i64 m1)) (simp (maxDischargeDepth := 8) [go_sem, *])
    (first
      | fail)
  obtain ⟨w2, hw2⟩ : ∃ w2, w2 = (w1.alloc (.cells #[.int .i64 1, .int .i64 m0, .int .i64 m1, .int .i64 0, .int .i64 0, .int .i64 0, .int .i64 0, .int .i64 0, .int .i64 0, .slice none 0 0, .int .i64 0] 31)).drew := ⟨_, rfl⟩
  have g2 : Gr w1 w2 := by rw [hw2]; exact ((Gr.refl w1).alloc _).drew
  have hA2 : Blk w2 ab #[.int .i64 1, .int .i64 m0, .int .i64 m1, .int .i64 0, .int .i64 0, .int .i64 0, .int .i64 0, .int .i64 0, .int .i64 0, .slice none 0 0, .int .i64 0] 31 := by rw [hw2]; exact (Blk.new1 hab).gr ((Gr.refl _).drew)
  have hR2 := hR1.out.gr g2
  have hr2 := hr1'.out.gr g2
  have gw2 := gw1.trans g2
  clear k0 k1 k2
  rw [← hw2]
  replace hw2 := Lib.hid hw2
  have hPn : P.length = n := by rw [← hP.out, List.length_take, List.length_drop]; omega
  have hby := rrbytes_yes w2 rb L k 32768 hr2 hq.out (by omega) (by omega)
  rw [hP.out] at hby
  have u0 := hA2.cell (i := 0) (v := .int .i64 1) rfl
  have u1 := hA2.cell (i := 1) (v := .int .i64 m0) rfl
  have u2 := hA2.cell (i := 2) (v := .int .i64 m1) rfl
  have u3 := hA2.cell (i := 3) (v := .int .i64 0) rfl
  have u4 := hA2.cell (i := 4) (v := .int .i64 0) rfl
  have u5 := hA2.cell (i := 5) (v := .int .i64 0) rfl
  have u6 := hA2.cell (i := 6) (v := .int .i64 0) rfl
  have u7 := hA2.cell (i := 7) (v := .int .i64 0) rfl
  have u8 := hA2.cell (i := 8) (v := .int .i64 0) rfl
  have u9 := hA2.cell (i := 9) (v := .slice none 0 0) rfl
  have u10 := hA2.cell (i := 10) (v := .int .i64 0) rfl
  have hza := hA2.lt
  replace hPn := Lib.hid hPn
  replace hA2 := Lib.hid hA2
  replace hR2 := Lib.hid hR2
  replace hr2 := Lib.hid hr2
  replace hby := Lib.hid hby
  go_wp2_with fail
  refine hby.out.mono ?_
  rintro e w4 ⟨a4, c4, rfl, ho4, hr4, g4⟩
  have gw4 : Gr w w4 := GrX.all gw2 g4 (fun x hx => by simp at hx; omega)
  have hR4 := hR2.out.grx g4 (by simp; omega)
  have hA4 := hA2.out.grx g4 (by simp; omega)
  have hgt := rGet_yes w4 a4 c4 P ho4.2.1 ho4.2.2.1 ho4.cap ho4.cmax (by have := hPn.out; omega) (fun x hx => ho4.lt hx) hy.out
  rw [hPn.out] at hgt
  clear u0 u1 u2 u3 u4 u5 u6 u7 u8 u9 u10
  replace hR4 := Lib.hid hR4
  replace hA4 := Lib.hid hA4
  replace ho4 := Lib.hid ho4
  replace hr4 := Lib.hid hr4
  replace hgt := Lib.hid hgt
  go_wp2_with fail
  refine hgt.out.mono ?_
  rintro e w5 ⟨a5, c5, rfl, ⟨ht5, hn5, hl5, hm5, hB5⟩, g5⟩
  obtain ⟨w6, hw6⟩ : ∃ w6, w6 = w5.alloc (.cells #[.int .i64 m0, .int .i64 m1, .int .i64 m2, .int .i64 m4, .int .i64 m5, .int .i64 m6, .int .i64 m7, .int .i64 m8, .slice a5 L0.length c5, .int .i64 m3] 79) := ⟨_, rfl⟩
  have g6 : Gr w5 w6 := by rw [hw6]; exact (Gr.refl w5).alloc _
  have hX6 : Blk w6 w5.heap.size #[.int .i64 m0, .int .i64 m1, .int .i64 m2, .int .i64 m4, .int .i64 m5, .int .i64 m6, .int .i64 m7, .int .i64 m8, .slice a5 L0.length c5, .int .i64 m3] 79 := by rw [hw6]; exact Blk.new w5 _ _
  have hA6 := hA4.out.gr (g5.trans g6)
  have hR6 := hR4.out.gr (g5.trans g6)
  have hr6 := hr4.out.gr (g5.trans g6)
  have gw6 := gw4.trans (g5.trans g6)
  have za6 := hA6.lt
  have z45 := g4.size
  have z5 := g5.size
  have x0 := hX6.cell (i := 0) (v := .int .i64 m0) rfl
  have x1 := hX6.cell (i := 1) (v := .int .i64 m1) rfl
  have x2 := hX6.cell (i := 2) (v := .int .i64 m2) rfl
  have x3 := hX6.cell (i := 3) (v := .int .i64 m4) rfl
  have x4 := hX6.cell (i := 4) (v := .int .i64 m5) rfl
  have x5 := hX6.cell (i := 5) (v := .int .i64 m6) rfl
  have x6 := hX6.cell (i := 6) (v := .int .i64 m7) rfl
  have x7 := hX6.cell (i := 7) (v := .int .i64 m8) rfl
  have x8 := hX6.cell (i := 8) (v := .slice a5 L0.length c5) rfl
  have x9 := hX6.cell (i := 9) (v := .int .i64 m3) rfl
  have u0 := hA6.cell (i := 0) (v := .int .i64 1) rfl
  have u1 := hA6.cell (i := 1) (v := .int .i64 m0) rfl
  have u2 := hA6.cell (i := 2) (v := .int .i64 m1) rfl
  have u3 := hA6.cell (i := 3) (v := .int .i64 0) rfl
  have u4 := hA6.cell (i := 4) (v := .int .i64 0) rfl
  have u5 := hA6.cell (i := 5) (v := .int .i64 0) rfl
  have u6 := hA6.cell (i := 6) (v := .int .i64 0) rfl
  have u7 := hA6.cell (i := 7) (v := .int .i64 0) rfl
  have u8 := hA6.cell (i := 8) (v := .int .i64 0) rfl
  have u9 := hA6.cell (i := 9) (v := .slice none 0 0) rfl
  have u10 := hA6.cell (i := 10) (v := .int .i64 0) rfl
  have fu3 := hA6.free 3
  have fu4 := hA6.free 4
  have fu5 := hA6.free 5
  have fu6 := hA6.free 6
  have fu7 := hA6.free 7
  have fu8 := hA6.free 8
  have fu9 := hA6.free 9
  have fu10 := hA6.free 10
  have t2 : ((m0 : Int) != (m0 : Int)) = false := by simp
  have t3 : ((m1 : Int) != (m1 : Int)) = false := by simp
  obtain ⟨w7, hw7⟩ : ∃ w7, w7 = ((((((((w6.setCell ⟨ab, 3, none⟩ (.int .i64 m2)).setCell ⟨ab, 4, none⟩ (.int .i64 m4)).setCell ⟨ab, 5, none⟩ (.int .i64 m5)).setCell ⟨ab, 6, none⟩ (.int .i64 m6)).setCell ⟨ab, 7, none⟩ (.int .i64 m7)).setCell ⟨ab, 8, none⟩ (.int .i64 m8)).setCell ⟨ab, 9, none⟩ (.slice a5 L0.length c5)).setCell ⟨ab, 10, none⟩ (.int .i64 m3)) := ⟨_, rfl⟩
  have gx7 : GrX [ab] w6 w7 := by rw [hw7]; exact (GrX.refl [ab] w6).set38 (b := ab) (by simp) (.int .i64 m2) (.int .i64 m4) (.int .i64 m5) (.int .i64 m6) (.int .i64 m7) (.int .i64 m8) (.slice a5 L0.length c5) (.int .i64 m3)
  have hA7 : Blk w7 ab #[.int .i64 1, .int .i64 m0, .int .i64 m1, .int .i64 m2, .int .i64 m4, .int .i64 m5, .int .i64 m6, .int .i64 m7, .int .i64 m8, .slice a5 L0.length c5, .int .i64 m3] 31 := by rw [hw7]; exact hA6.set38 rfl (.int .i64 m2) (.int .i64 m4) (.int .i64 m5) (.int .i64 m6) (.int .i64 m7) (.int .i64 m8) (.slice a5 L0.length c5) (.int .i64 m3)
  have hR7 := hR6.grx gx7 (by simp; omega)
  have gw7 : Gr w w7 := GrX.all gw6 gx7 (fun x hx => by simp at hx; omega)
  have ht7 : RecsAt 4 Tsk.cells w7 a5 L0 := (RecsIn.grx (K := fun b => w4.heap.size ≤ b) (RecsIn.grx (T := []) (K := fun b => w4.heap.size ≤ b) ⟨ht5, fun x hx _ => hB5 x hx⟩ (g6.x []) (fun x hx => by cases hx)) gx7 (fun x hx => by simp at hx; omega)).1
  have hr7 := hr6.grx gx7 (by simp; omega) (fun b hb => by simpa using hb)
  have hok : (⟨EN9 m0 m1 m2 m3 m4 m5 m6 m7 m8 L0, a5, c5⟩ : EntM).ok Any w7 := ⟨⟨ht7, fun _ _ _ => trivial⟩, hn5, hl5, hm5, by have := hy.out.eight; show L0.length * 32 ≤ _; omega⟩
  obtain ⟨ar, cr, hbr7, -⟩ := hr7
  replace hX6 := Lib.hid hX6
  replace hA6 := Lib.hid hA6
  replace hR6 := Lib.hid hR6
  replace hr6 := Lib.hid hr6
  replace ht5 := Lib.hid ht5
  replace hB5 := Lib.hid hB5
  replace ht7 := Lib.hid ht7
  replace hw6 := Lib.hid hw6
  replace hw7 := Lib.hid hw7
  replace hbr7 := Lib.hid hbr7
  replace hA7 := Lib.hid hA7
  replace hR7 := Lib.hid hR7
  replace hok := Lib.hid hok
  go_upto_region 8 with fail
  rw [← hw6.out]
  go_upto_region 11 with fail
  rw [← hw7.out]
  clear u0 x0 u1 x1 u2 x2 u3 x3 u4 x4 u5 x5 u6 x6 u7 x7 u8 x8 u9 x9 u10 fu3 fu4 fu5 fu6 fu7 fu8 fu9 fu10
  have q0 := GrW.cell (hbr7.out.cell (i := 0) (v := .slice ar L.length cr) rfl)
  have q1 := GrW.cell (hbr7.out.cell (i := 1) (v := .int .i64 ((k + j + n : Nat) : Int)) rfl)
  have v0 := GrW.cell (hA7.out.cell (i := 0) (v := .int .i64 1) rfl)
  have v1 := GrW.cell (hA7.out.cell (i := 1) (v := .int .i64 m0) rfl)
  have v2 := GrW.cell (hA7.out.cell (i := 2) (v := .int .i64 m1) rfl)
  have v3 := GrW.cell (hA7.out.cell (i := 3) (v := .int .i64 m2) rfl)
  have v4 := GrW.cell (hA7.out.cell (i := 4) (v := .int .i64 m4) rfl)
  have v5 := GrW.cell (hA7.out.cell (i := 5) (v := .int .i64 m5) rfl)
  have v6 := GrW.cell (hA7.out.cell (i := 6) (v := .int .i64 m6) rfl)
  have v7 := GrW.cell (hA7.out.cell (i := 7) (v := .int .i64 m7) rfl)
  have v8 := GrW.cell (hA7.out.cell (i := 8) (v := .int .i64 m8) rfl)
  have v9 := GrW.cell (hA7.out.cell (i := 9) (v := .slice a5 L0.length c5) rfl)
  have v10 := GrW.cell (hA7.out.cell (i := 10) (v := .int .i64 m3) rfl)
  have hif : ∀ x : GrW w7, Calls Tryd.prog 19 #[.agg #[.int .i64 1, .int .i64 m0, .int .i64 m1, .int .i64 m2, .int .i64 m4, .int .i64 m5, .int .i64 m6, .int .i64 m7, .int .i64 m8, .slice a5 L0.length c5, .int .i64 m3]] x.to fun e w' => e = .returned (.bool (askF 1 (EN9 m0 m1 m2 m3 m4 m5 m6 m7 m8 L0))) ∧ Gr x.to w' := fun x => rInForm20_any 1 (EN9 m0 m1 m2 m3 m4 m5 m6 m7 m8 L0) a5 c5 x.to (hok.out.gr x.gr)
  rw [show askF 1 (EN9 m0 m1 m2 m3 m4 m5 m6 m7 m8 L0) = true by have := hy.out.2.2.2; unfold askF; simp [this]] at hif
  have t4 : (((k + j + n : Nat) : Int) != (L.length : Int)) = false := by rw [he]; simp
  obtain ⟨s, hs⟩ : ∃ s : Int, ((k + j + n : Nat) : Int) = s := ⟨_, rfl⟩
  rw [hs] at q1 t4
  replace hs := Lib.hid hs
  replace hif := Lib.hid hif
  refine wp_region_grows (by kernel_rfl) (by kernel_rfl) ?_
  repeat (any_goals (first | go_big_quiet_step (first | (exact Calls.grows (hif.out _)) | fail) | quiet_step (first | (exact Calls.grows (hif.out _)) | fail)))
  refine wpQuiet_nil ?_
  intro wz hwq
  have gz := GrW.of hwq
  clear hwq
  obtain ⟨cz, fz, sz⟩ := gz.cells
  try simp only [size_drewN] at cz fz sz
  try simp only [World.size_alloc] at cz fz sz
  try simp only [World.size_drew] at cz fz sz
  try simp only [World.size_setCell] at cz fz sz
  clear cz fz q0 q1 v0 v1 v2 v3 v4 v5 v6 v7 v8 v9 v10
  have hRz := hR7.out.gr gz
  have gwz := gw7.trans gz
  have y0 := hRz.cell (i := 0) (v := .int .i64 0) rfl
  have fy0 := hRz.free 0
  have y1 := hRz.cell (i := 1) (v := .int .i64 0) rfl
  have fy1 := hRz.free 1
  have y2 := hRz.cell (i := 2) (v := .int .i64 0) rfl
  have fy2 := hRz.free 2
  have y3 := hRz.cell (i := 3) (v := .int .i64 0) rfl
  have fy3 := hRz.free 3
  have y4 := hRz.cell (i := 4) (v := .int .i64 0) rfl
  have fy4 := hRz.free 4
  have y5 := hRz.cell (i := 5) (v := .int .i64 0) rfl
  have fy5 := hRz.free 5
  have y6 := hRz.cell (i := 6) (v := .int .i64 0) rfl
  have fy6 := hRz.free 6
  have y7 := hRz.cell (i := 7) (v := .int .i64 0) rfl
  have fy7 := hRz.free 7
  have y8 := hRz.cell (i := 8) (v := .int .i64 0) rfl
  have fy8 := hRz.free 8
  have y9 := hRz.cell (i := 9) (v := .slice none 0 0) rfl
  have fy9 := hRz.free 9
  have y10 := hRz.cell (i := 10) (v := .int .i64 0) rfl
  have fy10 := hRz.free 10
  have hzz := hRz.lt
  have hAz := hA7.out.gr gz
  have d0 := hAz.cell (i := 0) (v := .int .i64 1) rfl
  have d1 := hAz.cell (i := 1) (v := .int .i64 m0) rfl
  have d2 := hAz.cell (i := 2) (v := .int .i64 m1) rfl
  have d3 := hAz.cell (i := 3) (v := .int .i64 m2) rfl
  have d4 := hAz.cell (i := 4) (v := .int .i64 m4) rfl
  have d5 := hAz.cell (i := 5) (v := .int .i64 m5) rfl
  have d6 := hAz.cell (i := 6) (v := .int .i64 m6) rfl
  have d7 := hAz.cell (i := 7) (v := .int .i64 m7) rfl
  have d8 := hAz.cell (i := 8) (v := .int .i64 m8) rfl
  have d9 := hAz.cell (i := 9) (v := .slice a5 L0.length c5) rfl
  have d10 := hAz.cell (i := 10) (v := .int .i64 m3) rfl
  replace hAz := Lib.hid hAz
  replace hRz := Lib.hid hRz
  go_wp2_with fail
  refine bodyPost_ret (v := .tuple #[.agg #[.int .i64 1, .int .i64 m0, .int .i64 m1, .int .i64 m2, .int .i64 m4, .int .i64 m5, .int .i64 m6, .int .i64 m7, .int .i64 m8, .slice a5 L0.length c5, .int .i64 m3], .bool true]) ?_ rfl ⟨a5, c5, rfl, ?_, ?_⟩
  · refine (res_cell (b := w.heap.size) (t := 31) Tryd.results22 _ _ (hRz.out.set11 rfl _ _ _ _ _ _ _ _ _ _ _) ?_ Tryd.underlying31 (by kernel_rfl)).trans ?_
    · simp
    · simp
  · have h1 := (RecsIn.grx (K := fun b => w4.heap.size ≤ b) (RecsIn.grx (T := []) (K := fun b => w4.heap.size ≤ b) ⟨ht7.out, fun x hx _ => hB5.out x hx⟩ (gz.x []) (fun x hx => by cases hx)) ((GrX.refl [w.heap.size] wz).set11 (b := w.heap.size) (by simp) (.int .i64 1) (.int .i64 m0) (.int .i64 m1) (.int .i64 m2) (.int .i64 m4) (.int .i64 m5) (.int .i64 m6) (.int .i64 m7) (.int .i64 m8) (.slice a5 L0.length c5) (.int .i64 m3)) (fun x hx => by simp at hx; omega)).1
    exact ⟨⟨h1, fun _ _ _ => trivial⟩, hok.out.2⟩
  · exact gwz.set11 (Nat.le_refl _) _ _ _ _ _ _ _ _ _ _ _


theorem getAsk_no {G : List Nat} {E : Nat → Addr} (w : World) (hE : EAt G E w) (i0 : 0 ∈ G) (i1 : 1 ∈ G) (b off c : Nat) (L : List UInt8) (hS : BytesAt w (some ⟨b, off, none⟩) (frameB L)) (hL : L.length ≤ 32768) (hc : (frameB L).length ≤ c) (hno : askNo L) :
    Calls Tryd.prog 20 #[.slice (some ⟨b, off, none⟩) (frameB L).length c] w fun r w' => r = .returned (.tuple #[askZ, (Value.iface 137 (.pointer (some (E 1))))]) ∧ Gr w w' := by
  rcases hno with h | ⟨n0, n1, n2, k, hk, ⟨h1, hlt | ⟨hl, hf⟩⟩ | ⟨rfl, hb | ⟨n, j, hq, hn, hle, hno | ⟨m0, m1, m2, m3, m4, m5, m6, m7, m8, kk, jj, L0, ⟨y1, y2, y3, y4⟩, hu | ⟨rfl, rfl, hlt⟩⟩⟩⟩⟩
  · exact getAsk_nums w hE i1 b off c L hS hL hc h
  · exact getAsk_end2 w hE i1 b off c L hS hL hc n0 n1 n2 k hk h1 hlt
  · exact getAsk_form w hE i0 i1 b off c L hS hL hc n0 n1 n2 k hk h1 hl hf
  · exact getAsk_bytes w hE i1 b off c L hS hL hc n1 n2 k hk hb
  · exact getAsk_ent w hE i0 i1 b off c L hS hL hc n1 n2 k n j _ hk hq hn hle rfl hno
  · exact getAsk_unlike w hE i0 i1 b off c L hS hL hc n1 n2 m0 m1 m2 m3 m4 m5 m6 m7 m8 k j n _ hk hq rfl (by rw [List.length_take, List.length_drop]; omega) hn hle kk jj L0 y1 y2 y3 y4 hu
  · exact getAsk_end1 w hE i0 i1 b off c L hS hL hc m0 m1 m2 m3 m4 m5 m6 m7 m8 k j n _ hk hq rfl (by rw [List.length_take, List.length_drop]; omega) hn hlt kk jj L0 y1 y2 y3 y4
theorem rGetAsk_no (w : World) (b off c : Nat) (L : List UInt8) (hS : BytesAt w (some ⟨b, off, none⟩) (frameB L)) (hL : L.length ≤ 32768) (hc : (frameB L).length ≤ c) (hno : askNo L) :
    Calls Tryd.prog 22 #[.slice (some ⟨b, off, none⟩) (frameB L).length c] w fun r w' => r = .returned (.tuple #[askZ, .bool false]) ∧ Gr w w' := by
  rcases hno with h | ⟨n0, n1, n2, k, hk, ⟨h1, hlt | ⟨hl, hf⟩⟩ | ⟨rfl, hb | ⟨n, j, hq, hn, hle, hno | ⟨m0, m1, m2, m3, m4, m5, m6, m7, m8, kk, jj, L0, hy, hu | ⟨rfl, rfl, hlt⟩⟩⟩⟩⟩
  · exact rGetAsk_shut w _ (fun w1 g => rnumbers_none w1 b off c 3 L (hS.gr g) hL hc (by decide) h)
  · exact rGetAsk_end2 w b off c L hS hL hc n0 n1 n2 k hk h1 hlt
  · exact rGetAsk_form w b off c L hS hL hc n0 n1 n2 k hk h1 hl hf
  · exact rGetAsk_bytes w b off c L hS hL hc n1 n2 k hk hb
  · exact rGetAsk_ent w b off c L hS hL hc n1 n2 k hk n j _ hq hn hle rfl hno
  · exact rGetAsk_unlike w b off c L hS hL hc n1 n2 k hk n j _ hq hn hle rfl m0 m1 m2 m3 m4 m5 m6 m7 m8 kk jj L0 hy hu
  · exact rGetAsk_end1 w b off c L hS hL hc m0 m1 k hk n j _ hq hn rfl m2 m3 m4 m5 m6 m7 m8 kk jj L0 hy hlt
/-- A question, as a value. -/
abbrev askV (k : Int) (e : Ent) (a : Option Addr) (c : Nat) : Value := .agg #[.int .i64 k, .int .i64 e.cl, .int .i64 e.nu, .int .i64 e.kd, .int .i64 e.id, .int .i64 e.srv.k, .int .i64 e.srv.q, .int .i64 e.srv.t, .int .i64 e.po, .slice a e.tasks.length c, .int .i64 e.at_]
/-- A frame that is a question's: what both make of it. -/
theorem ask_taken {G : List Nat} {E : Nat → Addr} (L : List UInt8) (hL : L.length ≤ 32768) (hno : ¬ askNo L) : ∃ (k : Int) (e : Ent), askF k e = true ∧ L = askB k e ∧
    (∀ (w : World) (b c : Nat), EAt G E w → 0 ∈ G → 1 ∈ G → BytesAt w (some ⟨b, 0, none⟩) (frameB L) → (frameB L).length ≤ c →
      Calls Tryd.prog 20 #[.slice (some ⟨b, 0, none⟩) (frameB L).length c] w fun r w' => ∃ a' c', r = .returned (.tuple #[askV k e a' c', .nilIface]) ∧ (⟨e, a', c'⟩ : EntM).ok Any w' ∧ Gr w w') ∧
    ∀ (w : World) (b off c : Nat), BytesAt w (some ⟨b, off, none⟩) (frameB L) → (frameB L).length ≤ c →
      Calls Tryd.prog 22 #[.slice (some ⟨b, off, none⟩) (frameB L).length c] w fun r w' => ∃ a' c', r = .returned (.tuple #[askV k e a' c', .bool true]) ∧ (⟨e, a', c'⟩ : EntM).ok Any w' ∧ Gr w w' := by
  rcases ask_cases L with h | ⟨m0, m1, m2, m3, m4, m5, m6, m7, m8, L0, hy⟩ | ⟨n1, n2, hy⟩
  · exact absurd h hno
  · obtain ⟨h1, h2⟩ := ask_back1 hy
    refine ⟨1, EN9 m0 m1 m2 m3 m4 m5 m6 m7 m8 L0, h2, h1, fun w b c hE i0 i1 hS hc => ?_, fun w b off c hS hc => ?_⟩
    · have := getAsk_frame w hE i0 i1 b c 1 (EN9 m0 m1 m2 m3 m4 m5 m6 m7 m8 L0) h2
      rw [← h1] at this
      exact this hS hc
    · obtain ⟨k, n, j, kk, jj, hk, hq, hn, he, hy⟩ := hy
      exact rGetAsk_order w b off c L hS hL hc m0 m1 k hk n j _ hq hn rfl m2 m3 m4 m5 m6 m7 m8 kk jj L0 hy he
  · have h1 := ask_back2 hy
    have h2 := hy.2
    refine ⟨2, EN0 n1 n2, h2, h1, fun w b c hE i0 i1 hS hc => ?_, fun w b off c hS hc => ?_⟩
    · have := getAsk_frame w hE i0 i1 b c 2 (EN0 n1 n2) h2
      rw [← h1] at this
      exact this hS hc
    · refine (rGetAsk_tree w b off c L hS hL hc 2 n1 n2 _ hy.1 (by decide) rfl h2).mono ?_
      rintro r w' ⟨rfl, g⟩
      exact ⟨none, 0, rfl, exE_okZ n1 n2 w', g⟩
/-- A frame that is an answer's: what both make of it. -/
theorem rep_taken {G : List Nat} {E : Nat → Addr} (L : List UInt8) (hL : L.length ≤ 32768) (hno : ¬ repNo L) : ∃ (r : Rep), repF r = true ∧ L = repB r ∧
    (∀ (w : World) (b c : Nat), EAt G E w → 1 ∈ G → BytesAt w (some ⟨b, 0, none⟩) (frameB L) → (frameB L).length ≤ c →
      Calls Tryd.prog 14 #[.slice (some ⟨b, 0, none⟩) (frameB L).length c] w fun e w' => ∃ a' c', e = .returned (.tuple #[.agg #[.int .i64 r.cl, .int .i64 r.nu, .int .i64 r.co, .int .i64 r.id, .slice a' r.tree.length c'], .nilIface]) ∧ Own w w' a' c' r.tree) ∧
    ∀ (w : World) (b off c : Nat), BytesAt w (some ⟨b, off, none⟩) (frameB L) → (frameB L).length ≤ c →
      Calls Tryd.prog 23 #[.slice (some ⟨b, off, none⟩) (frameB L).length c] w fun e w' => ∃ a' c', e = .returned (.tuple #[.agg #[.int .i64 r.cl, .int .i64 r.nu, .int .i64 r.co, .int .i64 r.id, .slice a' r.tree.length c'], .bool true]) ∧ Own w w' a' c' r.tree := by
  rcases rep_cases L with h | ⟨n0, n1, n2, n3, k, n, j, hk, hq, hn, he⟩
  · exact absurd h hno
  · obtain ⟨h1, h2⟩ := rep_back hk hq hn he
    have hl : (L.drop (k + j)).length = n := by rw [List.length_drop]; omega
    refine ⟨⟨n0, n1, n2, n3, L.drop (k + j)⟩, h2, h1, fun w b c hE i1 hS hc => ?_, fun w b off c hS hc => ?_⟩
    · have := getReply_yes w hE i1 b 0 c L hS hL hc n0 n1 n2 n3 k n j hk hq hn he
      dsimp only
      rw [hl]
      exact this
    · have := rGetReply_yes w b off c L hS hL hc n0 n1 n2 n3 k n j hk hq hn he
      dsimp only
      rw [hl]
      exact this
end Go.Proofs.YtlgbnjaoadlolaaDoor
