/- almonerref09.Put; almonerref20.PutAsk. -/
import Derived.Test.YtlgbnjaoadlolaaDoorP28
import Derived.Test.YtlgbnjaoadlolaaDoorP15
namespace Go.Proofs.YtlgbnjaoadlolaaDoor
open Go.RowKit

abbrev numC (d : Int) : List Value := [.int .i64 d]
theorem numC_len (d : Int) : (numC d).length = 1 := rfl
theorem numC_one (d : Int) : ∀ u ∈ numC d, u.oneCell' = true := by intro u hu; simp at hu; subst hu; rfl
theorem Tryd.infoInt : (Tryd.prog.info? 3).map (fun i => (i.zero, i.size, i.bytes)) = some (some (.int .i64 0), 1, 8) := by kernel_rfl
/-- A row of numbers that the call itself made. -/
def OwnI (W w : World) (a : Option Addr) (c : Nat) (l : List Int) : Prop := w.ownsRow W.heap.size 3 1 (.slice a l.length c) l.length (l.flatMap numC) ∧ RecsAt 1 numC w a l ∧ (a = none → c = 0) ∧ (∀ x, a = some x → W.heap.size ≤ x.block) ∧ Gr W w
theorem OwnI.of {W w : World} {v : Value} {l : List Int} (h : w.ownsRow W.heap.size 3 1 v l.length (l.flatMap numC)) (g : Gr W w) : ∃ a c, v = .slice a l.length c ∧ OwnI W w a c l := by
  obtain ⟨a, c, hv, hr, hn, hB⟩ := recs_of_owns numC_len h
  subst hv
  exact ⟨a, c, rfl, h, hr, hn, hB, g⟩
theorem OwnI.gr {W w w' : World} {a : Option Addr} {c : Nat} {l : List Int} (h : OwnI W w a c l) (g : Gr w w') : OwnI W w' a c l := ⟨owns_gr h.1 g, RecsAt.of_below h.2.1 (B := w.heap.size) (fun x hx => (owns_lt h.1 x.block (by rw [hx]; rfl)).1) g, h.2.2.1, h.2.2.2.1, h.2.2.2.2.trans g⟩
/-- append(own, src...) of numbers. -/
theorem wpList_appI {W w : World} {ops : Array Oper} {rest : List Oper} {o : Oper} {a : Act} {Q : Exit → Act → World → Prop} (hgd : o.guard = none) (s x : Operand)
    (ho : o.op = .call { callee := .builtin .append, args := #[s, x], argTypes := #[66, 66] }) (a1 : Option Addr) (c1 : Nat) (L1 : List Int) (hs : a.eval s = .slice a1 L1.length c1) (hO : OwnI W w a1 c1 L1)
    (sa : Option Addr) (c : Nat) (l : List Int) (hx : a.eval x = .slice sa l.length c) (hl : RecsAt 1 numC w sa l) (hc : sa = none → c = 0) (hb : L1.length + l.length ≤ 1000000)
    (h : ∀ a' c' w', OwnI W w' a' c' (L1 ++ l) → w.grownBy w' (Value.slice a1 L1.length c1).ownBlock → wpList Tryd.prog ops Q rest (a.put o.dst (.slice a' (L1 ++ l).length c')) w') : wpList Tryd.prog ops Q (o :: rest) a w := by
  obtain ⟨i5, hi, hz0, hz1, hz2⟩ := info_parts Tryd.infoInt
  obtain ⟨ow, br, bn, bb, g⟩ := hO
  refine wpList_append_recs (k := 1) (enc := numC) hgd s x 66 ho W.heap.size 3 i5 _ 8 Tryd.underlying66 hi hz0 hz1 hz2 rfl (by decide) numC_len numC_one (.slice a1 L1.length c1) L1 hs ow sa c l hx hl hc (by unfold maxLen; omega) (by omega) g.size ?_
  intro v2 w2 hown2 hgr2
  have g2 : Gr W w2 := g.grown hgr2 (own_block ow)
  obtain ⟨a2, c2, hv2, ho2⟩ := OwnI.of hown2 g2
  subst hv2
  exact h a2 c2 w2 ho2 hgr2
theorem ownI_lit (w : World) {n m : Nat} {l : List Int} (hw : w.heap.size = m) (hn : l.length = n) (cs : Array Value) (h : cs.toList = l.flatMap numC) (hm : n ≤ 1000000) : OwnI w (w.alloc (.cells cs 3)) (some ⟨m, 0, none⟩) n l := by
  subst hn
  subst hw
  have hl : (l.flatMap numC).length = l.length := by rw [flat_len numC_len, Nat.mul_one]
  have hcs : cs.size = l.length := by rw [← hl, ← h]; simp
  have ho : (w.alloc (.cells cs 3)).ownsRow w.heap.size 3 1 (.slice (some ⟨w.heap.size, 0, none⟩) l.length l.length) l.length (l.flatMap numC) := by
    refine ⟨by rw [hl, Nat.mul_one], .inr ⟨w.heap.size, l.length, cs, rfl, Nat.le_refl _, heap_alloc_new w _, by omega, by unfold maxLen; omega, by omega, ?_⟩⟩
    rw [← h]
    exact List.take_of_length_le (by simp; omega)
  obtain ⟨a, c, hv, hO⟩ := OwnI.of ho ((Gr.refl w).alloc _)
  cases hv
  exact hO
set_option maxRecDepth 100000 in
set_option maxHeartbeats 6400000 in
theorem rPut_any (e : Ent) (a : Option Addr) (c : Nat) (w : World) (h : (⟨e, a, c⟩ : EntM).ok Any w) (hf : entF e = true) :
    Calls Tryd.prog 43 #[.agg #[.int .i64 e.cl, .int .i64 e.nu, .int .i64 e.kd, .int .i64 e.id, .int .i64 e.srv.k, .int .i64 e.srv.q, .int .i64 e.srv.t, .int .i64 e.po, .slice a e.tasks.length c, .int .i64 e.at_]] w fun r w' => ∃ a' c', r = .returned (.slice a' (listB (entN e)).length c') ∧ Own w w' a' c' (listB (entN e)) := by
  have hnn := entN_nums hf
  have hbl := entB_len hf
  obtain ⟨ht8, htk⟩ := ent_tasks hf
  obtain ⟨⟨htr, -⟩, -⟩ := h
  dsimp only at htr
  obtain ⟨W, hW⟩ : ∃ W, W = (w.alloc (.cells #[.int .i64 e.cl, .int .i64 e.nu, .int .i64 e.kd, .int .i64 e.id, .int .i64 e.srv.k, .int .i64 e.srv.q, .int .i64 e.srv.t, .int .i64 e.po, .slice a e.tasks.length c, .int .i64 e.at_] 79)).alloc (.cells #[.int .i64 e.kd, .int .i64 e.id, .int .i64 e.srv.k, .int .i64 e.srv.q, .int .i64 e.srv.t, .int .i64 e.po, .slice a e.tasks.length c, .int .i64 e.at_] 29) := ⟨_, rfl⟩
  have gW : Gr w W := by rw [hW]; exact ((Gr.refl w).alloc _).alloc _
  have hWs : W.heap.size = w.heap.size + 2 := by rw [hW]; simp
  have hO0 : OwnI W (W.alloc (.cells #[.int .i64 e.cl, .int .i64 e.nu, .int .i64 e.kd, .int .i64 e.at_, .int .i64 e.id, .int .i64 e.srv.k, .int .i64 e.srv.q, .int .i64 e.srv.t, .int .i64 e.po, .int .i64 (e.tasks.length : Int)] 3)) (some ⟨w.heap.size + 2, 0, none⟩) 10 (headN e) := ownI_lit (n := 10) W hWs rfl _ rfl (by decide)
  have hbo : Blk W (w.heap.size + 1) #[.int .i64 e.kd, .int .i64 e.id, .int .i64 e.srv.k, .int .i64 e.srv.q, .int .i64 e.srv.t, .int .i64 e.po, .slice a e.tasks.length c, .int .i64 e.at_] 29 := by rw [hW]; exact Blk.new1 (by simp)
  replace hbo := Lib.hid hbo
  replace hnn := Lib.hid hnn
  replace htk := Lib.hid htk
  replace htr := Lib.hid htr
  replace hf := Lib.hid hf
  replace hO0 := Lib.hid hO0
  replace hWs := Lib.hid hWs
  replace hW := Lib.hid hW
  go_enter Tryd.func43, Tryd.ntmps43
  go_upto_region 4 with fail
  rw [← hW.out]
  go_loopw [4, 40] (fun lv kv wr => ∃ (k : Nat) (L : List Int) (a1 : Option Addr) (c1 : Nat), k ≤ e.tasks.length ∧ kv = .int .i64 k ∧ lv = .slice a1 L.length c1 ∧ Hid (L = headN e ++ (e.tasks.take k).flatMap tskN) ∧ Hid (OwnI W wr a1 c1 L)) (fun _ kv _ => e.tasks.length - (intOf kv).toNat)
  case atStart => exact ⟨0, headN e, _, _, Nat.zero_le _, rfl, rfl, Lib.hid (by simp), hO0⟩
  case round =>
    obtain ⟨j, L, a1, c1, hj, rfl, rfl, hL, hO⟩ := hrel
    obtain ⟨wo, rfl⟩ : ∃ wo : World, wo = wr := ⟨_, rfl⟩
    have hLl : L.length ≤ 42 := by
      rw [hL.out, List.length_append, tsks_len, List.length_take]
      have : (headN e).length = 10 := rfl
      omega
    by_cases hjl : j < e.tasks.length
    · obtain ⟨t, ht⟩ := get_some e.tasks j hjl
      obtain ⟨b, off, rfl, hb, hct⟩ := htr.out j t ht
      have gwo := gW.trans hO.out.2.2.2.2
      have e0 : wo.cell? ⟨b, off + j * 4, none⟩ = some (.int .i64 t.c) := by rw [gwo.cells.1 _ _ hb]; exact hct 0 _ rfl
      have e1 : wo.cell? ⟨b, off + j * 4 + 1, none⟩ = some (.int .i64 t.p) := by rw [gwo.cells.1 _ _ hb]; exact hct 1 _ rfl
      have e2 : wo.cell? ⟨b, off + j * 4 + 2, none⟩ = some (.int .i64 t.d) := by rw [gwo.cells.1 _ _ hb]; exact hct 2 _ rfl
      have e3 : wo.cell? ⟨b, off + j * 4 + 3, none⟩ = some (.int .i64 t.s) := by rw [gwo.cells.1 _ _ hb]; exact hct 3 _ rfl
      have hbo3 : b < wo.heap.size := Nat.lt_of_lt_of_le hb gwo.size
      have hts : (e.tasks.take (j + 1)).flatMap tskN = (e.tasks.take j).flatMap tskN ++ tskN t := by rw [take_snoc ht, List.flatMap_append]; simp
      have hO1 := (hO.out.gr ((Gr.refl wo).alloc (.cells #[.int .i64 t.c, .int .i64 t.p, .int .i64 t.d, .int .i64 t.s] 117))).gr ((Gr.refl _).alloc (.cells #[.int .i64 t.c, .int .i64 t.p, .int .i64 t.d, .int .i64 t.s] 3))
      have hs1 : RecsAt 1 numC ((wo.alloc (.cells #[.int .i64 t.c, .int .i64 t.p, .int .i64 t.d, .int .i64 t.s] 117)).alloc (.cells #[.int .i64 t.c, .int .i64 t.p, .int .i64 t.d, .int .i64 t.s] 3)) (some ⟨wo.heap.size + 1, 0, none⟩) (tskN t) := recs_alloc1 numC_len _ (by simp) _ _ _ rfl
      replace hO1 := Lib.hid hO1
      replace hs1 := Lib.hid hs1
      replace hts := Lib.hid hts
      replace ht := Lib.hid ht
      clear hct
      go_wp2_with (at_builtin; go_loud (refine wpList_appI (W := W) rfl _ _ rfl a1 c1 L rfl hO1.out (some ⟨wo.heap.size + 1, 0, none⟩) 4 (tskN t) rfl hs1.out (fun h => by cases h) (by show L.length + 4 ≤ _; omega) ?_; intro a2 c2 w2 hO2 hg2; clear hg2; replace hO2 := Lib.hid hO2))
      go_roundw
      case rel => exact ⟨j + 1, L ++ tskN t, a2, c2, by omega, by go_num, by rw [List.length_append], Lib.hid (by rw [hts.out, ← List.append_assoc, ← hL.out]), hO2⟩
      case measure => simp [intOf]; omega
    · have hje : j = e.tasks.length := by omega
      have hjb : decide ((j : Int) < e.tasks.length) = false := decide_eq_false (by omega)
      have hLe : L = entN e := by rw [hL.out, hje, List.take_length]; rfl
      have gwo := gW.trans hO.out.2.2.2.2
      have hE0 := own_empty wo #[] rfl
      have hri := hO.out.2.1
      replace hje := Lib.hid hje
      replace hLe := Lib.hid hLe
      replace hE0 := Lib.hid hE0
      replace hri := Lib.hid hri
      go_wp2_with fail
      go_loopw [7, 59] (fun bv kv wr => ∃ (k : Nat) (B : List UInt8) (a2 : Option Addr) (c2 : Nat), k ≤ L.length ∧ kv = .int .i64 k ∧ bv = .slice a2 B.length c2 ∧ Hid (B = listB (L.take k)) ∧ Hid (Own wo wr a2 c2 B)) (fun _ kv _ => L.length - (intOf kv).toNat)
      case atStart => exact ⟨0, [], _, _, Nat.zero_le _, rfl, rfl, Lib.hid rfl, hE0⟩
      case round =>
        obtain ⟨k, B, a2, c2, hk, rfl, rfl, hB, hOB⟩ := hrel
        have hnt : Nums (L.take k) := fun n hn => by have := List.mem_of_mem_take hn; rw [hLe.out] at this; exact hnn.out n this
        have hBl : B.length ≤ 252 := by
          have h1 := listB_len hnt
          have h2 : (L.take k).length ≤ 42 := by rw [List.length_take]; omega
          rw [hB.out]; omega
        by_cases hlt : k < L.length
        · have hlt2 : (k : Int) < L.length := by omega
          obtain ⟨v, hv⟩ := get_some L k hlt
          obtain ⟨v0, v1⟩ := hnn.out v (by rw [← hLe.out]; exact List.mem_of_getElem? hv)
          obtain ⟨m, rfl⟩ : ∃ m : Nat, v = m := ⟨v.toNat, by omega⟩
          have hr2 : RecsAt 1 numC wr a1 L := RecsAt.of_below hri.out (B := wo.heap.size) (fun x hx => RecsAt.lt hri.out hx (by intro e; rw [e] at hlt; simp at hlt)) hOB.out.2.2.2.2
          obtain ⟨b, off, hab, hbl, hcl⟩ := hr2 k (m : Int) hv
          subst hab
          have hcell : wr.cell? ⟨b, off + k, none⟩ = some (.int .i64 (m : Int)) := by have := hcl 0 _ rfl; simpa using this
          have hnum := rNum_any wr m (by omega)
          have hnl := numB_6 (n := m) (by omega)
          have hsn : listB (L.take (k + 1)) = listB (L.take k) ++ numB m := by rw [take_snoc hv, listB_snoc]; rfl
          obtain ⟨N, hN⟩ : ∃ N, N = numB m := ⟨_, rfl⟩
          rw [← hN] at hnum hsn hnl
          replace hnum := Lib.hid hnum
          replace hsn := Lib.hid hsn
          replace hN := Lib.hid hN
          replace hnt := Lib.hid hnt
          clear hv hcl hr2
          go_wp2_with fail
          refine hnum.out.mono ?_
          rintro r w4 ⟨a4, c4, rfl, hO4⟩
          have hOw := hOB.out.gr hO4.2.2.2.2
          replace hO4 := Lib.hid hO4
          replace hOw := Lib.hid hOw
          go_wp2_with (at_builtin; go_loud (refine wpList_app (W := wo) rfl _ _ rfl a2 c2 B rfl hOw.out a4 c4 N rfl hO4.out.2.1 hO4.out.2.2.1 (by omega) ?_; intro a5 c5 w5 hO5 hg5; replace hO5 := Lib.hid hO5; clear hg5))
          go_roundw
          case rel => exact ⟨k + 1, B ++ N, a5, c5, by omega, by go_num, by rw [List.length_append], Lib.hid (by rw [hsn.out, hB.out]), hO5⟩
          case measure => simp [intOf]; omega
        · have hke : k = L.length := by omega
          have hkb : decide ((k : Int) < L.length) = false := decide_eq_false (by omega)
          have hBe : B = listB (entN e) := by rw [hB.out, hke, List.take_length, hLe.out]
          replace hke := Lib.hid hke
          replace hBe := Lib.hid hBe
          replace hnt := Lib.hid hnt
          go_wp2_with fail
          go_ret
          exact ⟨a2, c2, by rw [← hBe.out]; rfl, by rw [← hBe.out]; exact hOB.out.older gwo⟩
end Go.Proofs.YtlgbnjaoadlolaaDoor
