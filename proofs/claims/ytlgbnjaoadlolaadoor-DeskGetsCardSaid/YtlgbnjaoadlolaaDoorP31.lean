/- almonerref09.Put; almonerref20.PutAsk. almonerref20.PutAsk. Printed by gen_p31.py. -/
import Derived.Test.YtlgbnjaoadlolaaDoorP28
import Derived.Test.YtlgbnjaoadlolaaDoorP15
import Derived.Deep.RegionHeld3
namespace Go.Proofs.YtlgbnjaoadlolaaDoor
open Go.RowKit

abbrev numC (d : Int) : List Value := [.int .i64 d]
theorem numC_len (d : Int) : (numC d).length = 1 := rfl
theorem numC_one (d : Int) : ∀ u ∈ numC d, u.oneCell' = true := by intro u hu; simp at hu; subst hu; rfl
theorem Tryd.infoInt : (Tryd.prog.info? 3).map (fun i => (i.zero, i.size, i.bytes)) = some (some (.int .i64 0), 1, 8) := by kernel_rfl
/-- A row of numbers that the call itself made. -/
def OwnI (W w : World) (a : Option Addr) (c : Nat) (l : List Int) : Prop := w.ownsRow W.heap.size 3 1 (.slice a l.length c) l.length (l.flatMap numC) ∧ RecsAt 1 numC w a l ∧ (a = none → c = 0) ∧ (∀ x, a = some x → W.heap.size ≤ x.block) ∧ Gr W w
theorem OwnI.of {W w : World} {v : Value} {l : List Int} (h : w.ownsRow W.heap.size 3 1 v l.length (l.flatMap numC)) (g : Gr W w) : ∃ a c, v = .slice a l.length c ∧ OwnI W w a c l := by
  obtain ⟨a, c, hv, hr, hn, hB⟩ := recs_of_owns numC_len h
  subst hv
  exact ⟨a, c, rfl, h, hr, hn, hB, g⟩
theorem OwnI.gr {W w w' : World} {a : Option Addr} {c : Nat} {l : List Int} (h : OwnI W w a c l) (g : Gr w w') : OwnI W w' a c l := ⟨owns_gr h.1 g, RecsAt.of_below h.2.1 (B := w.heap.size) (fun x hx => (owns_lt h.1 x.block (by rw [hx]; rfl)).1) g, h.2.2.1, h.2.2.2.1, h.2.2.2.2.trans g⟩
/-- append(own, src...) of numbers. -/
theorem wpList_appI {W w : World} {ops : Array Oper} {rest : List Oper} {o : Oper} {a : Act} {Q : Exit → Act → World → Prop} (hgd : o.guard = none) (s x : Operand)
    (ho : o.op = .call { callee := .builtin .append, args := #[s, x], argTypes := #[66, 66] }) (a1 : Option Addr) (c1 : Nat) (L1 : List Int) (hs : a.eval s = .slice a1 L1.length c1) (hO : OwnI W w a1 c1 L1)
    (sa : Option Addr) (c : Nat) (l : List Int) (hx : a.eval x = .slice sa l.length c) (hl : RecsAt 1 numC w sa l) (hc : sa = none → c = 0) (hb : L1.length + l.length ≤ 1000000)
    (h : ∀ a' c' w', OwnI W w' a' c' (L1 ++ l) → w.grownBy w' (Value.slice a1 L1.length c1).ownBlock → wpList Tryd.prog ops Q rest (a.put o.dst (.slice a' (L1 ++ l).length c')) w') : wpList Tryd.prog ops Q (o :: rest) a w := by
  obtain ⟨i5, hi, hz0, hz1, hz2⟩ := info_parts Tryd.infoInt
  obtain ⟨ow, br, bn, bb, g⟩ := hO
  refine wpList_append_recs (k := 1) (enc := numC) hgd s x 66 ho W.heap.size 3 i5 _ 8 Tryd.underlying66 hi hz0 hz1 hz2 rfl (by decide) numC_len numC_one (.slice a1 L1.length c1) L1 hs ow sa c l hx hl hc (by unfold maxLen; omega) (by omega) g.size ?_
  intro v2 w2 hown2 hgr2
  have g2 : Gr W w2 := g.grown hgr2 (own_block ow)
  obtain ⟨a2, c2, hv2, ho2⟩ := OwnI.of hown2 g2
  subst hv2
  exact h a2 c2 w2 ho2 hgr2
theorem ownI_lit (w : World) {n m : Nat} {l : List Int} (hw : w.heap.size = m) (hn : l.length = n) (cs : Array Value) (h : cs.toList = l.flatMap numC) (hm : n ≤ 1000000) : OwnI w (w.alloc (.cells cs 3)) (some ⟨m, 0, none⟩) n l := by
  subst hn
  subst hw
  have hl : (l.flatMap numC).length = l.length := by rw [flat_len numC_len, Nat.mul_one]
  have hcs : cs.size = l.length := by rw [← hl, ← h]; simp
  have ho : (w.alloc (.cells cs 3)).ownsRow w.heap.size 3 1 (.slice (some ⟨w.heap.size, 0, none⟩) l.length l.length) l.length (l.flatMap numC) := by
    refine ⟨by rw [hl, Nat.mul_one], .inr ⟨w.heap.size, l.length, cs, rfl, Nat.le_refl _, heap_alloc_new w _, by omega, by unfold maxLen; omega, by omega, ?_⟩⟩
    rw [← h]
    exact List.take_of_length_le (by simp; omega)
  obtain ⟨a, c, hv, hO⟩ := OwnI.of ho ((Gr.refl w).alloc _)
  cases hv
  exact hO
set_option maxRecDepth 100000 in
set_option maxHeartbeats 6400000 in
theorem rPut_any (e : Ent) (a : Option Addr) (c : Nat) (w : World) (h : (⟨e, a, c⟩ : EntM).ok Any w) (hf : entF e = true) :
    Calls Tryd.prog 43 #[.agg #[.int .i64 e.cl, .int .i64 e.nu, .int .i64 e.kd, .int .i64 e.id, .int .i64 e.srv.k, .int .i64 e.srv.q, .int .i64 e.srv.t, .int .i64 e.po, .slice a e.tasks.length c, .int .i64 e.at_]] w fun r w' => ∃ a' c', r = .returned (.slice a' (listB (entN e)).length c') ∧ Own w w' a' c' (listB (entN e)) := by
  have hnn := entN_nums hf
  have hbl := entB_len hf
  obtain ⟨ht8, htk⟩ := ent_tasks hf
  obtain ⟨⟨htr, -⟩, -⟩ := h
  dsimp only at htr
  obtain ⟨W, hW⟩ : ∃ W, W = (w.alloc (.cells #[.int .i64 e.cl, .int .i64 e.nu, .int .i64 e.kd, .int .i64 e.id, .int .i64 e.srv.k, .int .i64 e.srv.q, .int .i64 e.srv.t, .int .i64 e.po, .slice a e.tasks.length c, .int .i64 e.at_] 79)).alloc (.cells #[.int .i64 e.kd, .int .i64 e.id, .int .i64 e.srv.k, .int .i64 e.srv.q, .int .i64 e.srv.t, .int .i64 e.po, .slice a e.tasks.length c, .int .i64 e.at_] 29) := ⟨_, rfl⟩
  have gW : Gr w W := by rw [hW]; exact ((Gr.refl w).alloc _).alloc _
  have hWs : W.heap.size = w.heap.size + 2 := by rw [hW]; simp
  have hO0 : OwnI W (W.alloc (.cells #[.int .i64 e.cl, .int .i64 e.nu, .int .i64 e.kd, .int .i64 e.at_, .int .i64 e.id, .int .i64 e.srv.k, .int .i64 e.srv.q, .int .i64 e.srv.t, .int .i64 e.po, .int .i64 (e.tasks.length : Int)] 3)) (some ⟨w.heap.size + 2, 0, none⟩) 10 (headN e) := ownI_lit (n := 10) W hWs rfl _ rfl (by decide)
  have hbo : Blk W (w.heap.size + 1) #[.int .i64 e.kd, .int .i64 e.id, .int .i64 e.srv.k, .int .i64 e.srv.q, .int .i64 e.srv.t, .int .i64 e.po, .slice a e.tasks.length c, .int .i64 e.at_] 29 := by rw [hW]; exact Blk.new1 (by simp)
  replace hbo := Lib.hid hbo
  replace hnn := Lib.hid hnn
  replace htk := Lib.hid htk
  replace htr := Lib.hid htr
  replace hf := Lib.hid hf
  replace hO0 := Lib.hid hO0
  replace hWs := Lib.hid hWs
  replace hW := Lib.hid hW
  go_enter Tryd.func43, Tryd.ntmps43
  go_upto_region 4 with fail
  rw [← hW.out]
  go_loopw [4, 40] (fun lv kv wr => ∃ (k : Nat) (L : List Int) (a1 : Option Addr) (c1 : Nat), k ≤ e.tasks.length ∧ kv = .int .i64 k ∧ lv = .slice a1 L.length c1 ∧ Hid (L = headN e ++ (e.tasks.take k).flatMap tskN) ∧ Hid (OwnI W wr a1 c1 L)) (fun _ kv _ => e.tasks.length - (intOf kv).toNat)
  case atStart => exact ⟨0, headN e, _, _, Nat.zero_le _, rfl, rfl, Lib.hid (by simp), hO0⟩
  case round =>
    obtain ⟨j, L, a1, c1, hj, rfl, rfl, hL, hO⟩ := hrel
    obtain ⟨wo, rfl⟩ : ∃ wo : World, wo = wr := ⟨_, rfl⟩
    have hLl : L.length ≤ 42 := by
      rw [hL.out, List.length_append, tsks_len, List.length_take]
      have : (headN e).length = 10 := rfl
      omega
    by_cases hjl : j < e.tasks.length
    · obtain ⟨t, ht⟩ := get_some e.tasks j hjl
      obtain ⟨b, off, rfl, hb, hct⟩ := htr.out j t ht
      have gwo := gW.trans hO.out.2.2.2.2
      have e0 : wo.cell? ⟨b, off + j * 4, none⟩ = some (.int .i64 t.c) := by rw [gwo.cells.1 _ _ hb]; exact hct 0 _ rfl
      have e1 : wo.cell? ⟨b, off + j * 4 + 1, none⟩ = some (.int .i64 t.p) := by rw [gwo.cells.1 _ _ hb]; exact hct 1 _ rfl
      have e2 : wo.cell? ⟨b, off + j * 4 + 2, none⟩ = some (.int .i64 t.d) := by rw [gwo.cells.1 _ _ hb]; exact hct 2 _ rfl
      have e3 : wo.cell? ⟨b, off + j * 4 + 3, none⟩ = some (.int .i64 t.s) := by rw [gwo.cells.1 _ _ hb]; exact hct 3 _ rfl
      have hbo3 : b < wo.heap.size := Nat.lt_of_lt_of_le hb gwo.size
      have hts : (e.tasks.take (j + 1)).flatMap tskN = (e.tasks.take j).flatMap tskN ++ tskN t := by rw [take_snoc ht, List.flatMap_append]; simp
      have hO1 := (hO.out.gr ((Gr.refl wo).alloc (.cells #[.int .i64 t.c, .int .i64 t.p, .int .i64 t.d, .int .i64 t.s] 117))).gr ((Gr.refl _).alloc (.cells #[.int .i64 t.c, .int .i64 t.p, .int .i64 t.d, .int .i64 t.s] 3))
      have hs1 : RecsAt 1 numC ((wo.alloc (.cells #[.int .i64 t.c, .int .i64 t.p, .int .i64 t.d, .int .i64 t.s] 117)).alloc (.cells #[.int .i64 t.c, .int .i64 t.p, .int .i64 t.d, .int .i64 t.s] 3)) (some ⟨wo.heap.size + 1, 0, none⟩) (tskN t) := recs_alloc1 numC_len _ (by simp) _ _ _ rfl
      replace hO1 := Lib.hid hO1
      replace hs1 := Lib.hid hs1
      replace hts := Lib.hid hts
      replace ht := Lib.hid ht
      clear hct
      go_wp2_with (at_builtin; go_loud (refine wpList_appI (W := W) rfl _ _ rfl a1 c1 L rfl hO1.out (some ⟨wo.heap.size + 1, 0, none⟩) 4 (tskN t) rfl hs1.out (fun h => by cases h) (by show L.length + 4 ≤ _; omega) ?_; intro a2 c2 w2 hO2 hg2; clear hg2; replace hO2 := Lib.hid hO2))
      go_roundw
      case rel => exact ⟨j + 1, L ++ tskN t, a2, c2, by omega, by go_num, by rw [List.length_append], Lib.hid (by rw [hts.out, ← List.append_assoc, ← hL.out]), hO2⟩
      case measure => simp [intOf]; omega
    · have hje : j = e.tasks.length := by omega
      have hjb : decide ((j : Int) < e.tasks.length) = false := decide_eq_false (by omega)
      have hLe : L = entN e := by rw [hL.out, hje, List.take_length]; rfl
      have gwo := gW.trans hO.out.2.2.2.2
      have hE0 := own_empty wo #[] rfl
      have hri := hO.out.2.1
      replace hje := Lib.hid hje
      replace hLe := Lib.hid hLe
      replace hE0 := Lib.hid hE0
      replace hri := Lib.hid hri
      go_wp2_with fail
      go_loopw [7, 59] (fun bv kv wr => ∃ (k : Nat) (B : List UInt8) (a2 : Option Addr) (c2 : Nat), k ≤ L.length ∧ kv = .int .i64 k ∧ bv = .slice a2 B.length c2 ∧ Hid (B = listB (L.take k)) ∧ Hid (Own wo wr a2 c2 B)) (fun _ kv _ => L.length - (intOf kv).toNat)
      case atStart => exact ⟨0, [], _, _, Nat.zero_le _, rfl, rfl, Lib.hid rfl, hE0⟩
      case round =>
        obtain ⟨k, B, a2, c2, hk, rfl, rfl, hB, hOB⟩ := hrel
        have hnt : Nums (L.take k) := fun n hn => by have := List.mem_of_mem_take hn; rw [hLe.out] at this; exact hnn.out n this
        have hBl : B.length ≤ 252 := by
          have h1 := listB_len hnt
          have h2 : (L.take k).length ≤ 42 := by rw [List.length_take]; omega
          rw [hB.out]; omega
        by_cases hlt : k < L.length
        · have hlt2 : (k : Int) < L.length := by omega
          obtain ⟨v, hv⟩ := get_some L k hlt
          obtain ⟨v0, v1⟩ := hnn.out v (by rw [← hLe.out]; exact List.mem_of_getElem? hv)
          obtain ⟨m, rfl⟩ : ∃ m : Nat, v = m := ⟨v.toNat, by omega⟩
          have hr2 : RecsAt 1 numC wr a1 L := RecsAt.of_below hri.out (B := wo.heap.size) (fun x hx => RecsAt.lt hri.out hx (by intro e; rw [e] at hlt; simp at hlt)) hOB.out.2.2.2.2
          obtain ⟨b, off, hab, hbl, hcl⟩ := hr2 k (m : Int) hv
          subst hab
          have hcell : wr.cell? ⟨b, off + k, none⟩ = some (.int .i64 (m : Int)) := by have := hcl 0 _ rfl; simpa using this
          have hnum := rNum_any wr m (by omega)
          have hnl := numB_6 (n := m) (by omega)
          have hsn : listB (L.take (k + 1)) = listB (L.take k) ++ numB m := by rw [take_snoc hv, listB_snoc]; rfl
          obtain ⟨N, hN⟩ : ∃ N, N = numB m := ⟨_, rfl⟩
          rw [← hN] at hnum hsn hnl
          replace hnum := Lib.hid hnum
          replace hsn := Lib.hid hsn
          replace hN := Lib.hid hN
          replace hnt := Lib.hid hnt
          clear hv hcl hr2
          go_wp2_with fail
          refine hnum.out.mono ?_
          rintro r w4 ⟨a4, c4, rfl, hO4⟩
          have hOw := hOB.out.gr hO4.2.2.2.2
          replace hO4 := Lib.hid hO4
          replace hOw := Lib.hid hOw
          go_wp2_with (at_builtin; go_loud (refine wpList_app (W := wo) rfl _ _ rfl a2 c2 B rfl hOw.out a4 c4 N rfl hO4.out.2.1 hO4.out.2.2.1 (by omega) ?_; intro a5 c5 w5 hO5 hg5; replace hO5 := Lib.hid hO5; clear hg5))
          go_roundw
          case rel => exact ⟨k + 1, B ++ N, a5, c5, by omega, by go_num, by rw [List.length_append], Lib.hid (by rw [hsn.out, hB.out]), hO5⟩
          case measure => simp [intOf]; omega
        · have hke : k = L.length := by omega
          have hkb : decide ((k : Int) < L.length) = false := decide_eq_false (by omega)
          have hBe : B = listB (entN e) := by rw [hB.out, hke, List.take_length, hLe.out]
          replace hke := Lib.hid hke
          replace hBe := Lib.hid hBe
          replace hnt := Lib.hid hnt
          go_wp2_with fail
          go_ret
          exact ⟨a2, c2, by rw [← hBe.out]; rfl, by rw [← hBe.out]; exact hOB.out.older gwo⟩


/-- At a step of a region that draws its order: append(own, src...) of bytes. -/
theorem step_app {W w : World} {ops : Array Oper} {o : Oper} {a : Act} {K : Act → World → Prop} {Q : Exit → Act → World → Prop} {E : Prop} (hgd : o.guard = none) (s x : Operand)
    (ho : o.op = .call { callee := .builtin .append, args := #[s, x], argTypes := #[22, 22] }) (a1 : Option Addr) (c1 : Nat) (L1 : List UInt8) (hs : a.eval s = .slice a1 L1.length c1) (hO : Own W w a1 c1 L1)
    (ad : Addr) (c : Nat) (l : List UInt8) (hx : a.eval x = .slice (some ad) l.length c) (hl : BytesAt w (some ad) l) (hb : L1.length + l.length ≤ 140737488355328)
    (h : ∀ a' c' w', Own W w' a' c' (L1 ++ l) → w.grownBy w' (Value.slice a1 L1.length c1).ownBlock → K (a.put o.dst (.slice a' (L1 ++ l).length c')) w') :
    if Region.wanted o (yielded ops a.tmps) = true then Oper.wp Tryd.prog o a w K Q else E := by
  have hw : Region.wanted o (yielded ops a.tmps) = true := by simp [Region.wanted, hgd]
  rw [if_pos hw]
  obtain ⟨i5, hi, hz0, hz1, hz2⟩ := info_parts Tryd.infoU8
  obtain ⟨ow, br, bn, bb, g⟩ := hO
  refine wp_append_own w s x 22 ho W.heap.size 5 i5 _ 1 1 Tryd.underlying22 hi hz0 hz1 hz2 rfl (by decide) (.slice a1 L1.length c1) L1.length (L1.flatMap byteC) hs ow ad l.length c (l.flatMap byteC) hx (flat_len byteC_len l) ?_ ?_ (by unfold maxLen; omega) (by omega) g.size ?_
  · intro j u hj
    obtain ⟨y, hy, hu⟩ := flat_at byteC_len (by decide) l j u hj
    obtain ⟨b, off, hh, _, hcell⟩ := hl _ y hy
    obtain rfl := Option.some.inj hh
    have := hcell _ u hu
    have e1 : off + j / 1 * 1 + j % 1 = off + j := by omega
    rw [e1] at this
    unfold Addr.add
    by_cases hj0 : j = 0
    · subst hj0; simpa using this
    · simpa [hj0] using this
  · intro u hu
    obtain ⟨y, _, hy⟩ := List.mem_flatMap.1 hu
    exact byteC_one y u hy
  · intro v' w' ho' hg' _
    have g2 : Gr W w' := g.grown hg' (own_block ow)
    obtain ⟨a2, c2, hv2, ho2⟩ := Own.of (l := L1 ++ l) (by simpa using ho') g2
    subst hv2
    exact h a2 c2 w' ho2 hg'
theorem rNum_some (n : Nat) (hn : n < 9223372036854775808) (N : List UInt8) (hN : N = numB n) (w : World) :
    Calls Tryd.prog 34 #[.int .i64 n] w fun e w' => ∃ g c, e = .returned (.slice (some ⟨g, 0, none⟩) N.length c) ∧ Own w w' (some ⟨g, 0, none⟩) c N := by
  subst hN
  refine (rNum_any w n hn).mono ?_
  rintro e w' ⟨a, c, rfl, ho⟩
  obtain ⟨g, rfl, _⟩ := ho.block (by intro e; have := numB_pos n; rw [e] at this; simp at this)
  exact ⟨g, c, rfl, ho⟩
set_option maxRecDepth 100000 in
set_option maxHeartbeats 6400000 in
theorem rPutAsk_any (kn : Nat) (e : Ent) (a : Option Addr) (c : Nat) (w : World) (h : (⟨e, a, c⟩ : EntM).ok Any w) (hf : askF kn e = true) :
    Calls Tryd.prog 21 #[.agg #[.int .i64 kn, .int .i64 e.cl, .int .i64 e.nu, .int .i64 e.kd, .int .i64 e.id, .int .i64 e.srv.k, .int .i64 e.srv.q, .int .i64 e.srv.t, .int .i64 e.po, .slice a e.tasks.length c, .int .i64 e.at_]] w fun r w' => ∃ a' c', r = .returned (.slice a' (frameB (askB kn e)).length c') ∧ Own w w' a' c' (frameB (askB kn e)) := by
  obtain ⟨hk, n1, n2, n3, n4⟩ := askF_parts hf
  have hkn : kn = 1 ∨ kn = 2 := by rcases hk with ⟨h1, -⟩ | h1 <;> omega
  have hfe : kn = 1 → entF e = true := fun h1 => by rcases hk with ⟨-, h2⟩ | h2; exact h2; omega
  have hal := askB_len hf
  obtain ⟨cn, hcn⟩ : ∃ n : Nat, e.cl = n := ⟨e.cl.toNat, by omega⟩
  obtain ⟨un, hun⟩ : ∃ n : Nat, e.nu = n := ⟨e.nu.toNat, by omega⟩
  obtain ⟨NK, hNK⟩ : ∃ N, N = numB kn := ⟨_, rfl⟩
  obtain ⟨NC, hNC⟩ : ∃ N, N = numB cn := ⟨_, rfl⟩
  obtain ⟨NU, hNU⟩ : ∃ N, N = numB un := ⟨_, rfl⟩
  have lK : NK.length ≤ 6 := by rw [hNK]; exact numB_6 (by omega)
  have lC : NC.length ≤ 6 := by rw [hNC]; exact numB_6 (by omega)
  have lU : NU.length ≤ 6 := by rw [hNU]; exact numB_6 (by omega)
  have sK := rNum_some kn (by omega) NK hNK
  have sC := rNum_some cn (by omega) NC hNC
  have sU := rNum_some un (by omega) NU hNU
  obtain ⟨H, hH⟩ : ∃ H, H = NK ++ NC ++ NU := ⟨_, rfl⟩
  have hHl : H.length ≤ 18 := by rw [hH]; simp only [List.length_append]; omega
  have hHB : listB [(kn : Int), e.cl, e.nu] = H := by rw [hH, hNK, hNC, hNU, hcn, hun]; simp [listB]
  obtain ⟨W, hW⟩ : ∃ W, W = w.alloc (.cells #[.int .i64 kn, .int .i64 cn, .int .i64 un, .int .i64 e.kd, .int .i64 e.id, .int .i64 e.srv.k, .int .i64 e.srv.q, .int .i64 e.srv.t, .int .i64 e.po, .slice a e.tasks.length c, .int .i64 e.at_] 31) := ⟨_, rfl⟩
  have gW : Gr w W := by rw [hW]; exact (Gr.refl w).alloc _
  have hA : Blk W w.heap.size #[.int .i64 kn, .int .i64 cn, .int .i64 un, .int .i64 e.kd, .int .i64 e.id, .int .i64 e.srv.k, .int .i64 e.srv.q, .int .i64 e.srv.t, .int .i64 e.po, .slice a e.tasks.length c, .int .i64 e.at_] 31 := by rw [hW]; exact Blk.new w _ _
  have gdd : Gr W W.drew := (Gr.refl W).drew
  have hzA := hA.lt
  have hent := fun w1 => rentry_any kn ⟨e, a, c⟩ w1
  dsimp only at hent
  rw [hcn, hun] at hent
  have hput := fun (h1 : kn = 1) w1 (g : Gr w w1) => rPut_any e a c w1 (h.gr g) (hfe h1)
  rw [hcn, hun] at hput ⊢
  replace hcn := Lib.hid hcn
  replace hun := Lib.hid hun
  replace hNK := Lib.hid hNK
  replace hNC := Lib.hid hNC
  replace hNU := Lib.hid hNU
  replace hH := Lib.hid hH
  replace hHB := Lib.hid hHB
  replace sK := Lib.hid sK
  replace sC := Lib.hid sC
  replace sU := Lib.hid sU
  replace hent := Lib.hid hent
  replace hput := Lib.hid hput
  replace hf := Lib.hid hf
  replace hW := Lib.hid hW
  replace hkn := Lib.hid hkn
  have u0 := hA.cell (i := 0) (v := .int .i64 kn) rfl
  have u1 := hA.cell (i := 1) (v := .int .i64 cn) rfl
  have u2 := hA.cell (i := 2) (v := .int .i64 un) rfl
  have u3 := hA.cell (i := 3) (v := .int .i64 e.kd) rfl
  have u4 := hA.cell (i := 4) (v := .int .i64 e.id) rfl
  have u5 := hA.cell (i := 5) (v := .int .i64 e.srv.k) rfl
  have u6 := hA.cell (i := 6) (v := .int .i64 e.srv.q) rfl
  have u7 := hA.cell (i := 7) (v := .int .i64 e.srv.t) rfl
  have u8 := hA.cell (i := 8) (v := .int .i64 e.po) rfl
  have u9 := hA.cell (i := 9) (v := .slice a e.tasks.length c) rfl
  have u10 := hA.cell (i := 10) (v := .int .i64 e.at_) rfl
  replace hA := Lib.hid hA
  go_enter Tryd.func21, Tryd.ntmps21
  go_upto_region 1 with fail
  rw [← hW.out]
  go_region_held3 (fun w' => w'.cell? ⟨w.heap.size, 0, none⟩ = some (.int .i64 kn) ∧ w'.cell? ⟨w.heap.size, 1, none⟩ = some (.int .i64 cn)) (simp (maxDischargeDepth := 8) [go_sem, *])
    (first
      | (go_at_call 34; (with_reducible refine (sK.out W.drew).mono ?_); rintro r wk ⟨g6, c6, rfl, hok⟩; have gk := gdd.trans hok.2.2.2.2; have hAk := hA.out.gr gk; have uk0 := hAk.cell (i := 0) (v := .int .i64 kn) rfl; have uk1 := hAk.cell (i := 1) (v := .int .i64 cn) rfl; have uk2 := hAk.cell (i := 2) (v := .int .i64 un) rfl; have uk3 := hAk.cell (i := 3) (v := .int .i64 e.kd) rfl; have uk4 := hAk.cell (i := 4) (v := .int .i64 e.id) rfl; have uk5 := hAk.cell (i := 5) (v := .int .i64 e.srv.k) rfl; have uk6 := hAk.cell (i := 6) (v := .int .i64 e.srv.q) rfl; have uk7 := hAk.cell (i := 7) (v := .int .i64 e.srv.t) rfl; have uk8 := hAk.cell (i := 8) (v := .int .i64 e.po) rfl; have uk9 := hAk.cell (i := 9) (v := .slice a e.tasks.length c) rfl; have uk10 := hAk.cell (i := 10) (v := .int .i64 e.at_) rfl; replace hAk := Lib.hid hAk; replace hok := Lib.hid hok)
      | (go_at_call 34; (with_reducible refine (sC.out wk).mono ?_); rintro r w3 ⟨g9, c9, rfl, hoc⟩; have hO6 := (hok.out.older gdd).gr hoc.2.2.2.2; have hB9 := hoc.2.1; have g3 := gk.trans hoc.2.2.2.2; have hA3 := hA.out.gr g3; have u3_0 := hA3.cell (i := 0) (v := .int .i64 kn) rfl; have u3_1 := hA3.cell (i := 1) (v := .int .i64 cn) rfl; have u3_2 := hA3.cell (i := 2) (v := .int .i64 un) rfl; have u3_3 := hA3.cell (i := 3) (v := .int .i64 e.kd) rfl; have u3_4 := hA3.cell (i := 4) (v := .int .i64 e.id) rfl; have u3_5 := hA3.cell (i := 5) (v := .int .i64 e.srv.k) rfl; have u3_6 := hA3.cell (i := 6) (v := .int .i64 e.srv.q) rfl; have u3_7 := hA3.cell (i := 7) (v := .int .i64 e.srv.t) rfl; have u3_8 := hA3.cell (i := 8) (v := .int .i64 e.po) rfl; have u3_9 := hA3.cell (i := 9) (v := .slice a e.tasks.length c) rfl; have u3_10 := hA3.cell (i := 10) (v := .int .i64 e.at_) rfl; replace hA3 := Lib.hid hA3; replace hO6 := Lib.hid hO6; replace hB9 := Lib.hid hB9; replace hoc := Lib.hid hoc)
      | (go_at_call 34; (with_reducible refine (sC.out W.drew).mono ?_); rintro r wc ⟨g9, c9, rfl, hoc⟩; have gc := gdd.trans hoc.2.2.2.2; have hAc := hA.out.gr gc; have uc0 := hAc.cell (i := 0) (v := .int .i64 kn) rfl; have uc1 := hAc.cell (i := 1) (v := .int .i64 cn) rfl; have uc2 := hAc.cell (i := 2) (v := .int .i64 un) rfl; have uc3 := hAc.cell (i := 3) (v := .int .i64 e.kd) rfl; have uc4 := hAc.cell (i := 4) (v := .int .i64 e.id) rfl; have uc5 := hAc.cell (i := 5) (v := .int .i64 e.srv.k) rfl; have uc6 := hAc.cell (i := 6) (v := .int .i64 e.srv.q) rfl; have uc7 := hAc.cell (i := 7) (v := .int .i64 e.srv.t) rfl; have uc8 := hAc.cell (i := 8) (v := .int .i64 e.po) rfl; have uc9 := hAc.cell (i := 9) (v := .slice a e.tasks.length c) rfl; have uc10 := hAc.cell (i := 10) (v := .int .i64 e.at_) rfl; replace hAc := Lib.hid hAc; replace hoc := Lib.hid hoc)
      | (go_at_call 34; (with_reducible refine (sK.out wc).mono ?_); rintro r w3 ⟨g6, c6, rfl, hok⟩; have hO6 := hok.older gc; have hB9 := hoc.out.2.1.gr hok.2.2.2.2; have g3 := gc.trans hok.2.2.2.2; have hA3 := hA.out.gr g3; have u3_0 := hA3.cell (i := 0) (v := .int .i64 kn) rfl; have u3_1 := hA3.cell (i := 1) (v := .int .i64 cn) rfl; have u3_2 := hA3.cell (i := 2) (v := .int .i64 un) rfl; have u3_3 := hA3.cell (i := 3) (v := .int .i64 e.kd) rfl; have u3_4 := hA3.cell (i := 4) (v := .int .i64 e.id) rfl; have u3_5 := hA3.cell (i := 5) (v := .int .i64 e.srv.k) rfl; have u3_6 := hA3.cell (i := 6) (v := .int .i64 e.srv.q) rfl; have u3_7 := hA3.cell (i := 7) (v := .int .i64 e.srv.t) rfl; have u3_8 := hA3.cell (i := 8) (v := .int .i64 e.po) rfl; have u3_9 := hA3.cell (i := 9) (v := .slice a e.tasks.length c) rfl; have u3_10 := hA3.cell (i := 10) (v := .int .i64 e.at_) rfl; replace hA3 := Lib.hid hA3; replace hO6 := Lib.hid hO6; replace hB9 := Lib.hid hB9; replace hok := Lib.hid hok)
      | (refine step_app (W := W) (by rfl) _ _ (by rfl) (some ⟨g6, 0, none⟩) c6 NK (by rfl) hO6.out ⟨g9, 0, none⟩ c9 NC (by rfl) hB9.out (by omega) ?_; intro a4 c4 w4 hO4 hg4; clear hg4; have hA4 := hA.out.gr hO4.2.2.2.2; have u4_0 := hA4.cell (i := 0) (v := .int .i64 kn) rfl; have u4_1 := hA4.cell (i := 1) (v := .int .i64 cn) rfl; have u4_2 := hA4.cell (i := 2) (v := .int .i64 un) rfl; have u4_3 := hA4.cell (i := 3) (v := .int .i64 e.kd) rfl; have u4_4 := hA4.cell (i := 4) (v := .int .i64 e.id) rfl; have u4_5 := hA4.cell (i := 5) (v := .int .i64 e.srv.k) rfl; have u4_6 := hA4.cell (i := 6) (v := .int .i64 e.srv.q) rfl; have u4_7 := hA4.cell (i := 7) (v := .int .i64 e.srv.t) rfl; have u4_8 := hA4.cell (i := 8) (v := .int .i64 e.po) rfl; have u4_9 := hA4.cell (i := 9) (v := .slice a e.tasks.length c) rfl; have u4_10 := hA4.cell (i := 10) (v := .int .i64 e.at_) rfl; replace hA4 := Lib.hid hA4; replace hO4 := Lib.hid hO4)
      | fail)
  all_goals
    go_wp2_with fail
    refine (sU.out w4).mono ?_
    rintro r w5 ⟨g5, c5, rfl, ho5⟩
    have hO5 := hO4.out.gr ho5.2.2.2.2
    replace ho5 := Lib.hid ho5
    replace hO5 := Lib.hid hO5
    by_cases hk1 : kn = 1
    · have hkb : ((kn : Int) == 1) = true := by rw [hk1]; rfl
      have hpt := hput.out hk1
      obtain ⟨P, hP⟩ : ∃ P, P = listB (entN e) := ⟨_, rfl⟩
      have hPl : P.length ≤ 252 := by rw [hP]; exact entB_len (hfe hk1)
      have hAB : askB kn e = H ++ (numB P.length ++ P) := by unfold askB; rw [hHB.out, if_pos (by omega), hP]
      rw [← hP] at hpt
      have hby := fun w1 a1 c1 (hb : BytesAt w1 a1 P) (hc : a1 = none → c1 = 0) => rBytes_any w1 a1 c1 P hb hc (by omega)
      obtain ⟨T, hT⟩ : ∃ T, T = numB P.length ++ P := ⟨_, rfl⟩
      have hTl : T.length ≤ 260 := by rw [hT, List.length_append]; have := numB_6 (n := P.length) (by omega); omega
      rw [← hT] at hby hAB
      obtain ⟨B, hB⟩ : ∃ B, B = askB kn e := ⟨_, rfl⟩
      rw [← hB] at hAB
      have hBl : B.length ≤ 300 := by rw [hB]; exact hal
      have hfr := fun w1 a1 c1 (hb : BytesAt w1 a1 B) (hc : a1 = none → c1 = 0) => rframe_any w1 a1 c1 B hb hc (by omega)
      replace hk1 := Lib.hid hk1
      replace hpt := Lib.hid hpt
      replace hP := Lib.hid hP
      replace hby := Lib.hid hby
      replace hT := Lib.hid hT
      replace hB := Lib.hid hB
      replace hAB := Lib.hid hAB
      replace hfr := Lib.hid hfr
      go_wp2_with (at_builtin; go_loud (refine wpList_app2 (W := W) rfl _ _ rfl a4 c4 (NK.length + NC.length) (NK ++ NC) rfl List.length_append hO5.out (some ⟨g5, 0, none⟩) c5 NU rfl ho5.out.2.1 (fun h => by cases h) (by omega) ?_; intro a6 c6 w6 hO6 hg6 hat6; clear hg6 hat6; rw [← hH.out] at hO6 ⊢; have hA6 := hA.out.gr hO6.2.2.2.2; have u6_0 := hA6.cell (i := 0) (v := .int .i64 kn) rfl; have u6_1 := hA6.cell (i := 1) (v := .int .i64 cn) rfl; have u6_2 := hA6.cell (i := 2) (v := .int .i64 un) rfl; have u6_3 := hA6.cell (i := 3) (v := .int .i64 e.kd) rfl; have u6_4 := hA6.cell (i := 4) (v := .int .i64 e.id) rfl; have u6_5 := hA6.cell (i := 5) (v := .int .i64 e.srv.k) rfl; have u6_6 := hA6.cell (i := 6) (v := .int .i64 e.srv.q) rfl; have u6_7 := hA6.cell (i := 7) (v := .int .i64 e.srv.t) rfl; have u6_8 := hA6.cell (i := 8) (v := .int .i64 e.po) rfl; have u6_9 := hA6.cell (i := 9) (v := .slice a e.tasks.length c) rfl; have u6_10 := hA6.cell (i := 10) (v := .int .i64 e.at_) rfl; replace hA6 := Lib.hid hA6; replace hO6 := Lib.hid hO6))
      refine (hent.out w6).mono ?_
      rintro r w7 ⟨rfl, g7⟩
      have gw7 : Gr w w7 := (gW.trans hO6.out.2.2.2.2).trans g7
      go_wp2_with fail
      refine (hpt.out w7 gw7).mono ?_
      rintro r w8 ⟨a8, c8, rfl, ho8⟩
      have hby8 := hby.out w8 a8 c8 ho8.2.1 ho8.2.2.1
      have hO8 := hO6.out.gr (g7.trans ho8.2.2.2.2)
      replace hby8 := Lib.hid hby8
      replace ho8 := Lib.hid ho8
      replace hO8 := Lib.hid hO8
      go_wp2_with fail
      refine hby8.out.mono ?_
      rintro r w9 ⟨a9, c9, rfl, ho9⟩
      have hO9 := hO8.out.gr ho9.2.2.2.2
      replace ho9 := Lib.hid ho9
      replace hO9 := Lib.hid hO9
      go_wp2_with (at_builtin; go_loud (refine wpList_app2 (W := W) rfl _ _ rfl a6 c6 H.length H rfl rfl hO9.out a9 c9 T rfl ho9.out.2.1 ho9.out.2.2.1 (by omega) ?_; intro a10 c10 w10 hO10 hg10 hat10; clear hg10 hat10; rw [← hAB.out] at hO10 ⊢; replace hO10 := Lib.hid hO10))
      refine (hfr.out w10 a10 c10 hO10.out.2.1 hO10.out.2.2.1).mono ?_
      rintro r w11 ⟨a11, c11, rfl, ho11⟩
      have g10 := gW.trans hO10.out.2.2.2.2
      replace ho11 := Lib.hid ho11
      go_wp2_with fail
      go_ret
      exact ⟨a11, c11, by rw [← hB.out]; rfl, by rw [← hB.out]; exact ho11.out.older g10⟩
    · have hkb : ((kn : Int) == 1) = false := beq_eq_false_iff_ne.2 (by omega)
      have hAB : askB kn e = H := by unfold askB; rw [hHB.out, if_neg (by omega), List.append_nil]
      have hfr := fun w1 a1 c1 (hb : BytesAt w1 a1 H) (hc : a1 = none → c1 = 0) => rframe_any w1 a1 c1 H hb hc (by omega)
      replace hk1 := Lib.hid hk1
      replace hAB := Lib.hid hAB
      replace hfr := Lib.hid hfr
      go_wp2_with (at_builtin; go_loud (refine wpList_app2 (W := W) rfl _ _ rfl a4 c4 (NK.length + NC.length) (NK ++ NC) rfl List.length_append hO5.out (some ⟨g5, 0, none⟩) c5 NU rfl ho5.out.2.1 (fun h => by cases h) (by omega) ?_; intro a6 c6 w6 hO6 hg6 hat6; clear hg6 hat6; rw [← hH.out] at hO6 ⊢; have hA6 := hA.out.gr hO6.2.2.2.2; have u6_0 := hA6.cell (i := 0) (v := .int .i64 kn) rfl; have u6_1 := hA6.cell (i := 1) (v := .int .i64 cn) rfl; have u6_2 := hA6.cell (i := 2) (v := .int .i64 un) rfl; have u6_3 := hA6.cell (i := 3) (v := .int .i64 e.kd) rfl; have u6_4 := hA6.cell (i := 4) (v := .int .i64 e.id) rfl; have u6_5 := hA6.cell (i := 5) (v := .int .i64 e.srv.k) rfl; have u6_6 := hA6.cell (i := 6) (v := .int .i64 e.srv.q) rfl; have u6_7 := hA6.cell (i := 7) (v := .int .i64 e.srv.t) rfl; have u6_8 := hA6.cell (i := 8) (v := .int .i64 e.po) rfl; have u6_9 := hA6.cell (i := 9) (v := .slice a e.tasks.length c) rfl; have u6_10 := hA6.cell (i := 10) (v := .int .i64 e.at_) rfl; replace hA6 := Lib.hid hA6; replace hO6 := Lib.hid hO6))
      refine (hfr.out w6 a6 c6 hO6.out.2.1 hO6.out.2.2.1).mono ?_
      rintro r w11 ⟨a11, c11, rfl, ho11⟩
      have g10 := gW.trans hO6.out.2.2.2.2
      replace ho11 := Lib.hid ho11
      go_wp2_with fail
      go_ret
      exact ⟨a11, c11, by rw [hAB.out]; rfl, by rw [hAB.out]; exact ho11.out.older g10⟩
end Go.Proofs.YtlgbnjaoadlolaaDoor
