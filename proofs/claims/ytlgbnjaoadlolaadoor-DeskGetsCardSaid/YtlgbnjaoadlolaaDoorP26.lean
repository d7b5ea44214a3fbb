/- almonerref03: Num, Bytes; almonerref20: PutReply, ReplyInForm, SameReply; desk: checkReply, PutReply, Refuse. desk: checkReply, PutReply, Refuse; almonerref20: ReplyInForm, PutReply, SameReply. desk: PutReply, Refuse; almonerref20: PutReply, SameReply. almonerref20.PutReply; almonernum: Bytes, Kept, Apart. -/
import Derived.Test.YtlgbnjaoadlolaaDoorP22
import Derived.Test.YtlgbnjaoadlolaaDoorL6
import Derived.Test.YtlgbnjaoadlolaaDoorP11
namespace Go.Proofs.YtlgbnjaoadlolaaDoor
open Go.RowKit

/-- append(own, src...) of bytes. -/
theorem wpList_app {W w : World} {ops : Array Oper} {rest : List Oper} {o : Oper} {a : Act} {Q : Exit → Act → World → Prop} (hgd : o.guard = none) (s x : Operand)
    (ho : o.op = .call { callee := .builtin .append, args := #[s, x], argTypes := #[22, 22] }) (a1 : Option Addr) (c1 : Nat) (L1 : List UInt8) (hs : a.eval s = .slice a1 L1.length c1) (hO : Own W w a1 c1 L1)
    (sa : Option Addr) (c : Nat) (l : List UInt8) (hx : a.eval x = .slice sa l.length c) (hl : BytesAt w sa l) (hc : sa = none → c = 0) (hb : L1.length + l.length ≤ 140737488355328)
    (h : ∀ a' c' w', Own W w' a' c' (L1 ++ l) → w.grownBy w' (Value.slice a1 L1.length c1).ownBlock → wpList Tryd.prog ops Q rest (a.put o.dst (.slice a' (L1 ++ l).length c')) w') : wpList Tryd.prog ops Q (o :: rest) a w := by
  obtain ⟨i5, hi, hz0, hz1, hz2⟩ := info_parts Tryd.infoU8
  obtain ⟨ow, br, bn, bb, g⟩ := hO
  refine wpList_append_recs (k := 1) (enc := byteC) hgd s x 22 ho W.heap.size 5 i5 _ 1 Tryd.underlying22 hi hz0 hz1 hz2 rfl (by decide) byteC_len byteC_one (.slice a1 L1.length c1) L1 hs ow sa c l hx hl hc (by unfold maxLen; omega) (by omega) g.size ?_
  intro v2 w2 hown2 hgr2
  have g2 : Gr W w2 := g.grown hgr2 (own_block ow)
  obtain ⟨a2, c2, hv2, ho2⟩ := Own.of hown2 g2
  subst hv2
  exact h a2 c2 w2 ho2 hgr2
theorem own_empty (w : World) (e : Array Value) (he : e = #[]) : Own w (w.alloc (.cells e 5)) (some ⟨w.heap.size, 0, none⟩) 0 [] := by
  subst he
  obtain ⟨a, c, hv, hO⟩ := Own.of (l := []) (owns_empty (α := UInt8) (enc := byteC) w 5 1 (.cells #[] 5) rfl w.heap.size (Nat.le_refl _)) ((Gr.refl w).alloc _)
  cases hv
  exact hO
theorem numB_pos (n : Nat) : 1 ≤ (numB n).length := by
  by_cases hs : n < 128
  · rw [numB_small hs]; simp
  · rw [numB_great hs]; simp
theorem bytes_one {w : World} {n m : Nat} (hn : w.heap.size = n) (hm : m < 256) : BytesAt (w.alloc (.cells #[.int .u8 (m : Int)] 5)) (some ⟨n, 0, none⟩) [UInt8.ofNat m] := recs_alloc1 byteC_len w hn _ _ _ (byte_cell m hm)
set_option maxRecDepth 100000 in
set_option maxHeartbeats 1600000 in
theorem rNum_any (w : World) (n : Nat) (hn : n < 9223372036854775808) :
    Calls Tryd.prog 34 #[.int .i64 n] w fun e w' => ∃ a c, e = .returned (.slice a (numB n).length c) ∧ Own w w' a c (numB n) := by
  have hlen := numB_10 hn
  have h0 := own_empty w #[] rfl
  replace hlen := Lib.hid hlen
  replace h0 := Lib.hid h0
  go_enter Tryd.func34, Tryd.ntmps34
  go_wp2_with fail
  go_loopw [0, 3] (fun nv ov wr => ∃ (m : Nat) (L : List UInt8) (a : Option Addr) (c : Nat), nv = .int .i64 m ∧ m ≤ n ∧ ov = .slice a L.length c ∧ Hid (L ++ numB m = numB n) ∧ Hid (Own w wr a c L)) (fun nv _ _ => (intOf nv).toNat)
  case atStart => exact ⟨n, [], _, _, rfl, Nat.le_refl _, rfl, Lib.hid rfl, h0⟩
  case round =>
    obtain ⟨m, L, a, c, rfl, hmn, rfl, heq, hO⟩ := hrel
    have hll : L.length ≤ 10 := by
      have h1 := congrArg List.length heq.out
      rw [List.length_append] at h1
      have := hlen.out
      omega
    by_cases hs : m < 128
    · have heq' := heq.out
      rw [numB_small hs] at heq'
      have hd : (m : Int) / 128 = 0 := by omega
      have hmm : (m : Int) % 128 = (m : Int) := by omega
      have hm8 : (m : Int) % 256 = m := by omega
      have hb1 := bytes_one (w := wr) rfl (m := m) (by omega)
      have hO1 := hO.out.gr ((Gr.refl wr).alloc (.cells #[.int .u8 (m : Int)] 5))
      replace hO1 := Lib.hid hO1
      replace hb1 := Lib.hid hb1
      replace heq' := Lib.hid heq'
      go_wp2_with (at_builtin; go_loud (refine wpList_app (W := w) rfl _ _ rfl a c L rfl hO1.out (some ⟨wr.heap.size, 0, none⟩) 1 [UInt8.ofNat m] rfl hb1.out (fun h => by cases h) (by simp; omega) ?_; intro a2 c2 w2 hO2 hg2; rw [heq'.out] at hO2 ⊢; replace hO2 := Lib.hid hO2))
      go_ret
      exact ⟨a2, c2, rfl, hO2.out⟩
    · have heq' := heq.out
      rw [numB_great hs] at heq'
      have heq2 : L ++ [UInt8.ofNat (m % 128 + 128)] ++ numB (m / 128) = numB n := by rw [List.append_assoc]; exact heq'
      obtain ⟨d, hd⟩ : ∃ d : Nat, (m : Int) / 128 = (d : Int) := ⟨m / 128, by omega⟩
      obtain ⟨r, hr⟩ : ∃ r : Nat, (m : Int) % 128 = (r : Int) := ⟨m % 128, by omega⟩
      have hdm : m / 128 = d := by omega
      have hrm : m % 128 = r := by omega
      rw [hdm, hrm] at heq2
      have hd1 : 1 ≤ (d : Int) := by omega
      have hd0 : ((d : Int) == 0) = false := beq_eq_false_iff_ne.2 (by omega)
      have hdm2 : d ≤ m := by omega
      have hdm3 : d < m := by omega
      have hr1 : r < 128 := by omega
      have hr8 : (r : Int) % 256 = r := by omega
      have hb1 := bytes_one (w := wr) rfl (m := r + 128) (by omega)
      rw [show ((r + 128 : Nat) : Int) = (r : Int) + 128 by omega] at hb1
      have hO1 := hO.out.gr ((Gr.refl wr).alloc (.cells #[.int .u8 ((r : Int) + 128)] 5))
      replace hO1 := Lib.hid hO1
      replace hb1 := Lib.hid hb1
      replace heq' := Lib.hid heq'
      replace heq2 := Lib.hid heq2
      replace hdm := Lib.hid hdm
      replace hrm := Lib.hid hrm
      go_wp2_with (at_builtin; go_loud (refine wpList_app (W := w) rfl _ _ rfl a c L rfl hO1.out (some ⟨wr.heap.size, 0, none⟩) 1 [UInt8.ofNat (r + 128)] rfl hb1.out (fun h => by cases h) (by simp; omega) ?_; intro a2 c2 w2 hO2 hg2; replace hO2 := Lib.hid hO2))
      go_roundw
      case rel => exact ⟨d, L ++ [UInt8.ofNat (r + 128)], a2, c2, rfl, by omega, by rw [List.length_append]; rfl, heq2, hO2⟩
      case measure => simp [intOf]; omega
set_option maxRecDepth 100000 in
set_option maxHeartbeats 1600000 in
theorem rBytes_any (w : World) (a : Option Addr) (c : Nat) (l : List UInt8) (h : BytesAt w a l) (hc : a = none → c = 0) (hl : l.length ≤ 100000) :
    Calls Tryd.prog 35 #[.slice a l.length c] w fun e w' => ∃ a' c', e = .returned (.slice a' (numB l.length ++ l).length c') ∧ Own w w' a' c' (numB l.length ++ l) := by
  have hn := rNum_any w l.length (by omega)
  have hlen := numB_6 (n := l.length) (by omega)
  obtain ⟨N, hN⟩ : ∃ N, N = numB l.length := ⟨_, rfl⟩
  rw [← hN] at hn hlen ⊢
  replace hn := Lib.hid hn
  replace hN := Lib.hid hN
  replace h := Lib.hid h
  go_enter Tryd.func35, Tryd.ntmps35
  go_wp2_with fail
  refine hn.out.mono ?_
  rintro e w1 ⟨a1, c1, rfl, hO⟩
  have hb := h.out.gr hO.2.2.2.2
  replace hb := Lib.hid hb
  replace hO := Lib.hid hO
  go_wp2_with (at_builtin; go_loud (refine wpList_app (W := w) rfl _ _ rfl a1 c1 N rfl hO.out a c l rfl hb.out hc (by omega) ?_; intro a2 c2 w2 hO2 hg2; replace hO2 := Lib.hid hO2))
  go_ret
  exact ⟨a2, c2, by rw [List.length_append]; rfl, hO2.out⟩


def repN (r : Rep) : List Int := [r.cl, r.nu, r.co, r.id]
def allN (l : List Int) : Bool := l.all fun n => decide (0 ≤ n ∧ n ≤ 1099511627776)
/-- An answer in form, and its payload. -/
def repF (r : Rep) : Bool := allN (repN r) && decide (r.tree.length ≤ 16000)
def repB (r : Rep) : List UInt8 := listB (repN r) ++ (numB r.tree.length ++ r.tree)
theorem okN_nums {l : List Int} (h : allN l = true) : Nums l := fun n hn => by
  unfold allN at h
  exact of_decide_eq_true (List.all_eq_true.1 h n hn)
theorem okN_bad {l : List Int} {k : Nat} {v : Int} (hv : l[k]? = some v) (h : ¬ (0 ≤ v ∧ v ≤ 1099511627776)) : allN l = false := by
  unfold allN
  rw [List.all_eq_false]
  exact ⟨v, List.mem_of_getElem? hv, by simpa using h⟩
theorem okN_all {l : List Int} (h : ∀ (k : Nat) (v : Int), l[k]? = some v → 0 ≤ v ∧ v ≤ 1099511627776) : allN l = true := by
  unfold allN
  rw [List.all_eq_true]
  intro n hn
  obtain ⟨k, hk⟩ := List.mem_iff_getElem?.1 hn
  exact decide_eq_true (h k n hk)
set_option maxRecDepth 100000 in
set_option maxHeartbeats 3200000 in
theorem checkReply_any {G : List Nat} {E : Nat → Addr} (w : World) (hE : EAt G E w) (i0 : 0 ∈ G) (r : Rep) (a : Option Addr) (c : Nat) :
    Calls Tryd.prog 25 #[.agg #[.int .i64 r.cl, .int .i64 r.nu, .int .i64 r.co, .int .i64 r.id, .slice a r.tree.length c]] w fun e w' => e = .returned (entV E (repF r)) ∧ Gr w w' := by
  obtain ⟨N, hN⟩ : ∃ N, N = repN r := ⟨_, rfl⟩
  have hNl : N.length = 4 := by rw [hN]; rfl
  have hF : repF r = (allN N && decide (r.tree.length ≤ 16000)) := by rw [hN]; rfl
  obtain ⟨F, hFF⟩ : ∃ F, repF r = F := ⟨_, rfl⟩
  rw [hFF] at hF ⊢
  have gw : Gr w (w.alloc (.cells #[.int .i64 r.cl, .int .i64 r.nu, .int .i64 r.co, .int .i64 r.id, .slice a r.tree.length c] 24)) := (Gr.refl w).alloc _
  have he := (hE.gr gw).c0 i0
  replace hN := Lib.hid hN
  replace hF := Lib.hid hF
  replace hFF := Lib.hid hFF
  go_enter Tryd.func25, Tryd.ntmps25
  go_wp2_with fail
  go_loop [14] (fun kv => ∃ k : Nat, k ≤ 4 ∧ kv = .int .i64 k ∧ Hid (∀ j v, j < k → N[j]? = some v → 0 ≤ v ∧ v ≤ 1099511627776)) (fun kv => 4 - (intOf kv).toNat)
  case atStart => exact ⟨0, by omega, rfl, Lib.hid (fun j v h => by omega)⟩
  case round =>
    obtain ⟨k, hk, rfl, hall⟩ := hrel
    by_cases hlt : k < 4
    · have hlt2 : (k : Int) < 4 := by omega
      obtain ⟨v, hv⟩ := get_some N k (by omega)
      have hcs : (#[.int .i64 r.cl, .int .i64 r.nu, .int .i64 r.co, .int .i64 r.id] : Array Value)[k]? = some (.int .i64 v) := by
        have hv2 := hv
        rw [hN.out] at hv2
        show ((repN r).map (Value.int .i64)).toArray[k]? = _
        rw [List.getElem?_toArray, List.getElem?_map, hv2]
        rfl
      have hix := fun w => idx_run w Tryd.underlying62 hlt hcs
      replace hcs := Lib.hid hcs
      by_cases hgood : 0 ≤ v ∧ v ≤ 1099511627776
      · have hall2 : ∀ j v, j < k + 1 → N[j]? = some v → 0 ≤ v ∧ v ≤ 1099511627776 := fun j x hj hx => by
          by_cases hjk : j < k
          · exact hall.out j x hjk hx
          · obtain rfl : j = k := by omega
            rw [hv] at hx; cases hx; exact hgood
        obtain ⟨h1, h2⟩ := hgood
        replace hall2 := Lib.hid hall2
        replace hv := Lib.hid hv
        go_wp2_with fail
        go_round
        case rel => exact ⟨k + 1, by omega, by go_num, hall2⟩
        case measure => simp [intOf]; omega
      · have hbad : F = false := by rw [hF.out, okN_bad hv hgood]; rfl
        replace hv := Lib.hid hv
        replace hbad := Lib.hid hbad
        by_cases h1 : v < 0
        · clear hgood
          go_wp2_with fail
          go_ret
          exact ⟨by rw [hbad.out]; rfl, gw⟩
        · have h2 : 1099511627776 < v := by omega
          clear hgood
          go_wp2_with fail
          go_ret
          exact ⟨by rw [hbad.out]; rfl, gw⟩
    · have hk4 : k = 4 := by omega
      have hk4b : decide ((k : Int) < 4) = false := decide_eq_false (by omega)
      have hok : allN N = true := okN_all fun j v hj => hall.out j v (by have := get_lt hj; omega) hj
      have hF2 := hF.out
      rw [hok, Bool.true_and] at hF2
      replace hok := Lib.hid hok
      replace hk4 := Lib.hid hk4
      by_cases ht : r.tree.length ≤ 16000
      · rw [decide_eq_true ht] at hF2
        replace hF2 := Lib.hid hF2
        have ht2 : ¬ (16000 : Int) < r.tree.length := by omega
        go_wp2_with fail
        go_ret
        exact ⟨by rw [hF2.out]; rfl, gw⟩
      · rw [decide_eq_false ht] at hF2
        replace hF2 := Lib.hid hF2
        have ht2 : (16000 : Int) < r.tree.length := by omega
        go_wp2_with fail
        go_ret
        exact ⟨by rw [hF2.out]; rfl, gw⟩
set_option maxRecDepth 100000 in
set_option maxHeartbeats 3200000 in
theorem rInForm_any (w : World) (r : Rep) (a : Option Addr) (c : Nat) :
    Calls Tryd.prog 13 #[.agg #[.int .i64 r.cl, .int .i64 r.nu, .int .i64 r.co, .int .i64 r.id, .slice a r.tree.length c]] w fun e w' => e = .returned (.bool (repF r)) ∧ Gr w w' := by
  obtain ⟨N, hN⟩ : ∃ N, N = repN r := ⟨_, rfl⟩
  have hNl : N.length = 4 := by rw [hN]; rfl
  have hF : repF r = (allN N && decide (r.tree.length ≤ 16000)) := by rw [hN]; rfl
  obtain ⟨F, hFF⟩ : ∃ F, repF r = F := ⟨_, rfl⟩
  rw [hFF] at hF ⊢
  have gw : Gr w ((w.alloc (.cells #[.int .i64 r.cl, .int .i64 r.nu, .int .i64 r.co, .int .i64 r.id, .slice a r.tree.length c] 24)).alloc (.cells #[.int .i64 r.cl, .int .i64 r.nu, .int .i64 r.co, .int .i64 r.id] 3)) := ((Gr.refl w).alloc _).alloc _
  have hbk : Blk ((w.alloc (.cells #[.int .i64 r.cl, .int .i64 r.nu, .int .i64 r.co, .int .i64 r.id, .slice a r.tree.length c] 24)).alloc (.cells #[.int .i64 r.cl, .int .i64 r.nu, .int .i64 r.co, .int .i64 r.id] 3)) (w.heap.size + 1) #[.int .i64 r.cl, .int .i64 r.nu, .int .i64 r.co, .int .i64 r.id] 3 := Blk.new1 (by simp)
  replace hN := Lib.hid hN
  replace hF := Lib.hid hF
  replace hFF := Lib.hid hFF
  replace hbk := Lib.hid hbk
  go_enter Tryd.func13, Tryd.ntmps13
  go_wp2_with fail
  go_loop [15] (fun kv => ∃ k : Nat, k ≤ 4 ∧ kv = .int .i64 k ∧ Hid (∀ j v, j < k → N[j]? = some v → 0 ≤ v ∧ v ≤ 1099511627776)) (fun kv => 4 - (intOf kv).toNat)
  case atStart => exact ⟨0, by omega, rfl, Lib.hid (fun j v h => by omega)⟩
  case round =>
    obtain ⟨k, hk, rfl, hall⟩ := hrel
    by_cases hlt : k < 4
    · have hlt2 : (k : Int) < 4 := by omega
      obtain ⟨v, hv⟩ := get_some N k (by omega)
      have hcs : (#[.int .i64 r.cl, .int .i64 r.nu, .int .i64 r.co, .int .i64 r.id] : Array Value)[k]? = some (.int .i64 v) := by
        have hv2 := hv
        rw [hN.out] at hv2
        show ((repN r).map (Value.int .i64)).toArray[k]? = _
        rw [List.getElem?_toArray, List.getElem?_map, hv2]
        rfl
      have hcl := hbk.out.cell hcs
      replace hcs := Lib.hid hcs
      by_cases hgood : 0 ≤ v ∧ v ≤ 1099511627776
      · have hall2 : ∀ j v, j < k + 1 → N[j]? = some v → 0 ≤ v ∧ v ≤ 1099511627776 := fun j x hj hx => by
          by_cases hjk : j < k
          · exact hall.out j x hjk hx
          · obtain rfl : j = k := by omega
            rw [hv] at hx; cases hx; exact hgood
        obtain ⟨h1, h2⟩ := hgood
        replace hall2 := Lib.hid hall2
        replace hv := Lib.hid hv
        go_wp2_with fail
        go_round
        case rel => exact ⟨k + 1, by omega, by go_num, hall2⟩
        case measure => simp [intOf]; omega
      · have hbad : F = false := by rw [hF.out, okN_bad hv hgood]; rfl
        replace hv := Lib.hid hv
        replace hbad := Lib.hid hbad
        by_cases h1 : v < 0
        · clear hgood
          go_wp2_with fail
          go_ret
          exact ⟨retb hbad.out.symm, gw⟩
        · have h2 : 1099511627776 < v := by omega
          clear hgood
          go_wp2_with fail
          go_ret
          exact ⟨retb hbad.out.symm, gw⟩
    · have hk4 : k = 4 := by omega
      have hk4b : decide ((k : Int) < 4) = false := decide_eq_false (by omega)
      have hok : allN N = true := okN_all fun j v hj => hall.out j v (by have := get_lt hj; omega) hj
      have hF2 := hF.out
      rw [hok, Bool.true_and] at hF2
      replace hok := Lib.hid hok
      replace hk4 := Lib.hid hk4
      by_cases ht : r.tree.length ≤ 16000
      · rw [decide_eq_true ht] at hF2
        replace hF2 := Lib.hid hF2
        have ht2 : (r.tree.length : Int) ≤ 16000 := by omega
        go_wp2_with fail
        go_ret
        exact ⟨retb (by rw [hF2.out]), gw⟩
      · rw [decide_eq_false ht] at hF2
        replace hF2 := Lib.hid hF2
        have ht2 : ¬ (r.tree.length : Int) ≤ 16000 := by omega
        go_wp2_with fail
        go_ret
        exact ⟨retb (by rw [hF2.out]), gw⟩


theorem repN_len (r : Rep) : (repN r).length = 4 := rfl
theorem repB_len {r : Rep} (h : repF r = true) : (listB (repN r)).length ≤ 24 ∧ (numB r.tree.length).length ≤ 6 ∧ r.tree.length ≤ 16000 := by
  unfold repF at h
  rw [Bool.and_eq_true] at h
  have h1 := listB_len (okN_nums h.1)
  have ht := of_decide_eq_true h.2
  exact ⟨by rw [repN_len] at h1; omega, numB_6 (by omega), ht⟩
set_option maxRecDepth 100000 in
set_option maxHeartbeats 3200000 in
theorem putReply_yes {G : List Nat} {E : Nat → Addr} (w : World) (hE : EAt G E w) (i0 : 0 ∈ G) (r : Rep) (a : Option Addr) (c : Nat) (hf : repF r = true) (hB : BytesAt w a r.tree) (hcn : a = none → c = 0) (hx : ∀ x, a = some x → x.block < w.heap.size) :
    Calls Tryd.prog 9 #[.agg #[.int .i64 r.cl, .int .i64 r.nu, .int .i64 r.co, .int .i64 r.id, .slice a r.tree.length c]] w fun e w' => ∃ a' c', e = .returned (.tuple #[.slice a' (frameB (repB r)).length c', .nilIface]) ∧ Own w w' a' c' (frameB (repB r)) := by
  have hck := checkReply_any (w.alloc (.cells #[.int .i64 r.cl, .int .i64 r.nu, .int .i64 r.co, .int .i64 r.id, .slice a r.tree.length c] 24)) (hE.gr ((Gr.refl w).alloc _)) i0 r a c
  rw [hf] at hck
  obtain ⟨l1, l2, l3⟩ := repB_len hf
  have hhd : Nums (repN r) := okN_nums (by unfold repF at hf; rw [Bool.and_eq_true] at hf; exact hf.1)
  obtain ⟨H, hH⟩ : ∃ H, H = repN r := ⟨_, rfl⟩
  have hHl : H.length = 4 := by rw [hH]; rfl
  have hRB : repB r = listB H ++ (numB r.tree.length ++ r.tree) := by rw [hH]; rfl
  rw [← hH] at l1 hhd
  obtain ⟨RB, hRBe⟩ : ∃ RB, RB = repB r := ⟨_, rfl⟩
  rw [← hRBe] at hRB ⊢
  have hRBl : RB.length ≤ 20000 := by rw [hRB]; simp only [List.length_append]; omega
  have hck2 : Calls Tryd.prog 25 #[.agg #[.int .i64 r.cl, .int .i64 r.nu, .int .i64 r.co, .int .i64 r.id, .slice a r.tree.length c]] (w.alloc (.cells #[.int .i64 r.cl, .int .i64 r.nu, .int .i64 r.co, .int .i64 r.id, .slice a r.tree.length c] 24)) fun e w' => e = .returned .nilIface ∧ Gr (w.alloc (.cells #[.int .i64 r.cl, .int .i64 r.nu, .int .i64 r.co, .int .i64 r.id, .slice a r.tree.length c] 24)) w' := hck
  clear hck
  replace hck2 := Lib.hid hck2
  replace hf := Lib.hid hf
  replace hH := Lib.hid hH
  replace hRB := Lib.hid hRB
  replace hRBe := Lib.hid hRBe
  replace hB := Lib.hid hB
  replace hx := Lib.hid hx
  replace hhd := Lib.hid hhd
  replace hHl := Lib.hid hHl
  go_enter Tryd.func9, Tryd.ntmps9
  go_wp2_with fail
  refine (hck2.out).mono ?_
  rintro e wa ⟨rfl, ga⟩
  obtain ⟨ca, fa, sa⟩ := ga.cells
  try simp only [size_drewN] at ca fa sa
  try simp only [World.size_alloc] at ca fa sa
  try simp only [World.size_drew] at ca fa sa
  try simp only [World.size_setCell] at ca fa sa
  have za0 : w.heap.size < wa.heap.size := by omega
  have ya0 : w.heap.size ≤ wa.heap.size := by omega
  have ka0 := fun o => ca (w.heap.size) o (by omega)
  have ja0 := fun o => fa (w.heap.size) o (by omega)
  have gwa : Gr w wa := ((Gr.refl w).alloc _).trans ga
  go_wp2_with fail
  refine (newWriter_at _ (n := wa.heap.size) rfl).mono ?_
  rintro e w3 ⟨rfl, hW⟩
  have g3 := hW.world
  have hbe := ((Blk.new w #[.int .i64 r.cl, .int .i64 r.nu, .int .i64 r.co, .int .i64 r.id, .slice a r.tree.length c] 24).gr ga).gr g3
  have c0 := hbe.cell (i := 0) (v := .int .i64 r.cl) rfl
  have c1 := hbe.cell (i := 1) (v := .int .i64 r.nu) rfl
  have c2 := hbe.cell (i := 2) (v := .int .i64 r.co) rfl
  have c3 := hbe.cell (i := 3) (v := .int .i64 r.id) rfl
  replace hW := Lib.hid hW
  replace hbe := Lib.hid hbe
  go_wp2_with fail
  go_loopw [23] (fun kv wr => ∃ q : Nat, q ≤ 4 ∧ kv = .int .i64 q ∧ WrAt wa wr wa.heap.size wr.heap.size (listB (H.take q))) (fun kv _ => 4 - (intOf kv).toNat)
  case atStart => exact ⟨0, by omega, rfl, hW.out.full⟩
  case round =>
    obtain ⟨k, hk, rfl, hWr⟩ := hrel
    by_cases hlt : k < 4
    · have hlt2 : (k : Int) < 4 := by omega
      obtain ⟨v, hv⟩ := get_some H k (by rw [hHl.out]; omega)
      obtain ⟨v0, v1⟩ := hhd.out v (List.mem_of_getElem? hv)
      obtain ⟨m, rfl⟩ : ∃ m : Nat, v = m := ⟨v.toNat, by omega⟩
      have hcs : (#[.int .i64 r.cl, .int .i64 r.nu, .int .i64 r.co, .int .i64 r.id] : Array Value)[k]? = some (.int .i64 (m : Int)) := by
        have hv2 := hv
        rw [hH.out] at hv2
        show ((repN r).map (Value.int .i64)).toArray[k]? = _
        rw [List.getElem?_toArray, List.getElem?_map, hv2]
        rfl
      have hix := fun w => idx_run w Tryd.underlying62 hlt hcs
      have hlen := listB_len (l := H.take k) (fun n hn => hhd.out n (List.mem_of_mem_take hn))
      have hlen2 : (H.take k).length ≤ 4 := by rw [List.length_take]; omega
      have hnum := num_any _ wr _ wr.heap.size (listB (H.take k)) m hWr (by omega) (by omega)
      have hsn : listB (H.take (k + 1)) = listB (H.take k) ++ numB m := by rw [take_snoc hv, listB_snoc]; rfl
      replace hWr := Lib.hid hWr
      replace hnum := Lib.hid hnum
      replace hsn := Lib.hid hsn
      replace hcs := Lib.hid hcs
      clear hv
      go_wp2_with fail
      refine hnum.out.mono ?_
      rintro e w4 ⟨rfl, hK⟩
      go_wp2_with fail
      go_roundw
      case rel => exact ⟨k + 1, by omega, by go_num, by rw [hsn.out]; exact hK.at⟩
      case measure => simp [intOf]; omega
    · have hk4 : k = 4 := by omega
      have hh : H.take k = H := List.take_of_length_le (by rw [hHl.out]; omega)
      have hk4b : decide ((k : Int) < 4) = false := decide_eq_false (by omega)
      rw [hh] at hWr
      have g4 := hWr.world
      have gwr := gwa.trans g4
      have hbw := ((Blk.new w #[.int .i64 r.cl, .int .i64 r.nu, .int .i64 r.co, .int .i64 r.id, .slice a r.tree.length c] 24).gr ga).gr g4
      have f4 := hbw.cell (i := 4) (v := .slice a r.tree.length c) rfl
      have z6 := hbw.lt
      have hwb := wbytes_any _ wr _ _ (listB H) a c r.tree hWr (by omega) (hB.out.gr gwr) hcn (fun x hxx => .inl (by have := hx.out x hxx; have := gwa.size; omega)) (by omega)
      rw [List.append_assoc, ← hRB.out] at hwb
      replace hwb := Lib.hid hwb
      replace hWr := Lib.hid hWr
      replace hbw := Lib.hid hbw
      replace hk4 := Lib.hid hk4
      replace hh := Lib.hid hh
      go_wp2_with fail
      refine hwb.out.mono ?_
      rintro e w7 ⟨rfl, hW7⟩
      have hfr := framed_any _ w7 _ _ RB hW7 (by omega)
      have g7 : Gr w w7 := gwa.trans hW7.world
      replace hfr := Lib.hid hfr
      replace hW7 := Lib.hid hW7
      go_wp2_with fail
      refine hfr.out.mono ?_
      rintro e w8 ⟨a8, c8, rfl, h8⟩
      replace h8 := Lib.hid h8
      go_wp2_with fail
      go_ret2
      exact ⟨a8, c8, rfl, h8.out.older g7⟩
set_option maxHeartbeats 1600000 in
theorem putReply_no {G : List Nat} {E : Nat → Addr} (w : World) (hE : EAt G E w) (i0 : 0 ∈ G) (r : Rep) (a : Option Addr) (c : Nat) (hf : repF r = false) :
    Calls Tryd.prog 9 #[.agg #[.int .i64 r.cl, .int .i64 r.nu, .int .i64 r.co, .int .i64 r.id, .slice a r.tree.length c]] w fun e w' => e = .returned (.tuple #[.slice none 0 0, (Value.iface 137 (.pointer (some (E 0))))]) ∧ Gr w w' := by
  have hck := checkReply_any (w.alloc (.cells #[.int .i64 r.cl, .int .i64 r.nu, .int .i64 r.co, .int .i64 r.id, .slice a r.tree.length c] 24)) (hE.gr ((Gr.refl w).alloc _)) i0 r a c
  rw [hf] at hck
  have hck2 : Calls Tryd.prog 25 #[.agg #[.int .i64 r.cl, .int .i64 r.nu, .int .i64 r.co, .int .i64 r.id, .slice a r.tree.length c]] (w.alloc (.cells #[.int .i64 r.cl, .int .i64 r.nu, .int .i64 r.co, .int .i64 r.id, .slice a r.tree.length c] 24)) fun e w' => e = .returned (Value.iface 137 (.pointer (some (E 0)))) ∧ Gr (w.alloc (.cells #[.int .i64 r.cl, .int .i64 r.nu, .int .i64 r.co, .int .i64 r.id, .slice a r.tree.length c] 24)) w' := hck
  clear hck
  replace hck2 := Lib.hid hck2
  replace hf := Lib.hid hf
  go_enter Tryd.func9, Tryd.ntmps9
  go_wp2_with fail
  refine (hck2.out).mono ?_
  rintro e wa ⟨rfl, ga⟩
  obtain ⟨ca, fa, sa⟩ := ga.cells
  try simp only [size_drewN] at ca fa sa
  try simp only [World.size_alloc] at ca fa sa
  try simp only [World.size_drew] at ca fa sa
  try simp only [World.size_setCell] at ca fa sa
  have za0 : w.heap.size < wa.heap.size := by omega
  have ya0 : w.heap.size ≤ wa.heap.size := by omega
  have ka0 := fun o => ca (w.heap.size) o (by omega)
  have ja0 := fun o => fa (w.heap.size) o (by omega)
  go_wp2_with fail
  go_ret2
  exact ⟨rfl, ((Gr.refl w).alloc _).trans ga⟩
set_option maxHeartbeats 1600000 in
theorem refuse_any (k : Int) (x : EntM) (code : Int) (w : World) :
    Calls Tryd.prog 12 #[.agg #[.int .i64 k, .int .i64 x.e.cl, .int .i64 x.e.nu, .int .i64 x.e.kd, .int .i64 x.e.id, .int .i64 x.e.srv.k, .int .i64 x.e.srv.q, .int .i64 x.e.srv.t, .int .i64 x.e.po, .slice x.a x.e.tasks.length x.c, .int .i64 x.e.at_], .int .i64 code] w fun e w' => e = .returned (.agg #[.int .i64 x.e.cl, .int .i64 x.e.nu, .int .i64 code, .int .i64 0, .slice none 0 0]) ∧ Gr w w' := by
  go_enter Tryd.func12, Tryd.ntmps12
  go_wp2
  refine bodyPost_ret (v := .agg #[.int .i64 x.e.cl, .int .i64 x.e.nu, .int .i64 code, .int .i64 0, .slice none 0 0]) (by simp [results, Tryd.results12, go_sem]) rfl ⟨rfl, ?_⟩
  repeat (first | exact Gr.refl _ | apply Gr.alloc | apply Gr.drew | apply Gr.drewN | (refine Gr.setCell ?_ (by simp) _) | (refine Gr.trans ?_ (by assumption)))
set_option maxRecDepth 100000 in
set_option maxHeartbeats 3200000 in
theorem rSameReply_yes (w : World) (r : Rep) (a a' : Option Addr) (c c' : Nat) (h : BytesAt w a r.tree) (h' : BytesAt w a' r.tree) :
    Calls Tryd.prog 11 #[.agg #[.int .i64 r.cl, .int .i64 r.nu, .int .i64 r.co, .int .i64 r.id, .slice a r.tree.length c], .agg #[.int .i64 r.cl, .int .i64 r.nu, .int .i64 r.co, .int .i64 r.id, .slice a' r.tree.length c']] w fun e w' => e = .returned (.bool true) ∧ Gr w w' := by
  have q1 := conv_any c (h.gr (((Gr.refl w).alloc (.cells #[.int .i64 r.cl, .int .i64 r.nu, .int .i64 r.co, .int .i64 r.id, .slice a r.tree.length c] 24)).alloc (.cells #[.int .i64 r.cl, .int .i64 r.nu, .int .i64 r.co, .int .i64 r.id, .slice a' r.tree.length c'] 24)))
  have q2 := conv_any c' (h'.gr (((Gr.refl w).alloc (.cells #[.int .i64 r.cl, .int .i64 r.nu, .int .i64 r.co, .int .i64 r.id, .slice a r.tree.length c] 24)).alloc (.cells #[.int .i64 r.cl, .int .i64 r.nu, .int .i64 r.co, .int .i64 r.id, .slice a' r.tree.length c'] 24)))
  replace h := Lib.hid h
  replace h' := Lib.hid h'
  go_enter Tryd.func11, Tryd.ntmps11
  go_wp2_with fail
  go_ret
  exact ⟨rfl, (by repeat (first | exact Gr.refl _ | apply Gr.alloc | apply Gr.drew | apply Gr.drewN | (refine Gr.setCell ?_ (by first | (simp; done) | (simp; omega)) _) | (refine Gr.trans ?_ (by assumption))))⟩


/-- Rows of unlike types lie apart. -/
theorem Own.ne {W w : World} {a : Option Addr} {c : Nat} {l : List UInt8} (h : Own W w a c l) {b : Nat} {cs : Array Value} {t : TypeId} (hb : Blk w b cs t) (ht : t ≠ 5) : ∀ x, a = some x → x.block ≠ b := fun x hx he => by
  rcases h.1.2 with hn | ⟨g, cap, cur, hv, hg, hh, _⟩
  · rw [hx] at hn; cases hn.1
  · rw [hx] at hv
    cases hv
    dsimp only at he
    rw [he] at hh
    unfold Blk at hb
    rw [hb] at hh
    cases hh
    exact ht rfl
theorem Own.blk {W w w' : World} {a : Option Addr} {c : Nat} {l : List UInt8} (h : Own W w a c l) {b : Nat} {cs : Array Value} {t : TypeId} (hb : Blk w b cs t) (ht : t ≠ 5) (hg : w.grownBy w' (Value.slice a l.length c).ownBlock) : Blk w' b cs t := by
  refine hb.grown hg ?_
  cases a with
  | none => intro e; cases e
  | some x => intro e; exact h.ne hb ht x rfl (Option.some.inj e).symm
set_option maxRecDepth 100000 in
set_option maxHeartbeats 3200000 in
theorem rPutReply_any (w : World) (r : Rep) (a : Option Addr) (c : Nat) (hf : repF r = true) (hB : BytesAt w a r.tree) (hcn : a = none → c = 0) :
    Calls Tryd.prog 15 #[.agg #[.int .i64 r.cl, .int .i64 r.nu, .int .i64 r.co, .int .i64 r.id, .slice a r.tree.length c]] w fun e w' => ∃ a' c', e = .returned (.slice a' (frameB (repB r)).length c') ∧ Own w w' a' c' (frameB (repB r)) := by
  obtain ⟨l1, l2, l3⟩ := repB_len hf
  have hhd : Nums (repN r) := okN_nums (by unfold repF at hf; rw [Bool.and_eq_true] at hf; exact hf.1)
  obtain ⟨H, hH⟩ : ∃ H, H = repN r := ⟨_, rfl⟩
  have hHl : H.length = 4 := by rw [hH]; rfl
  have hRB : repB r = listB H ++ (numB r.tree.length ++ r.tree) := by rw [hH]; rfl
  rw [← hH] at l1 hhd
  obtain ⟨RB, hRBe⟩ : ∃ RB, RB = repB r := ⟨_, rfl⟩
  rw [← hRBe] at hRB ⊢
  have hRBl : RB.length ≤ 20000 := by rw [hRB]; simp only [List.length_append]; omega
  obtain ⟨T, hT⟩ : ∃ T, T = numB r.tree.length ++ r.tree := ⟨_, rfl⟩
  have hTl : T.length ≤ 16100 := by rw [hT, List.length_append]; omega
  rw [← hT] at hRB
  obtain ⟨W, hW⟩ : ∃ W, W = w.alloc (.cells #[.int .i64 r.cl, .int .i64 r.nu, .int .i64 r.co, .int .i64 r.id, .slice a r.tree.length c] 24) := ⟨_, rfl⟩
  have gW : Gr w W := by rw [hW]; exact (Gr.refl w).alloc _
  have hWs : W.heap.size = w.heap.size + 1 := by rw [hW]; simp
  have hbR : Blk W w.heap.size #[.int .i64 r.cl, .int .i64 r.nu, .int .i64 r.co, .int .i64 r.id, .slice a r.tree.length c] 24 := by rw [hW]; exact Blk.new w _ _
  have hO0 := own_empty W #[] rfl
  have hby := fun w1 (g : Gr w w1) => rBytes_any w1 a c r.tree (hB.gr g) hcn (by omega)
  rw [← hT] at hby
  rw [hWs] at hO0
  replace hO0 := Lib.hid (hO0.gr ((Gr.refl _).alloc (.cells #[.int .i64 r.cl, .int .i64 r.nu, .int .i64 r.co, .int .i64 r.id] 3)))
  have hbI : Blk ((W.alloc (.cells #[] 5)).alloc (.cells #[.int .i64 r.cl, .int .i64 r.nu, .int .i64 r.co, .int .i64 r.id] 3)) (w.heap.size + 2) #[.int .i64 r.cl, .int .i64 r.nu, .int .i64 r.co, .int .i64 r.id] 3 := Blk.new1 (by simp [hWs])
  replace hbI := Lib.hid hbI
  replace hf := Lib.hid hf
  replace hH := Lib.hid hH
  replace hRB := Lib.hid hRB
  replace hRBe := Lib.hid hRBe
  replace hB := Lib.hid hB
  replace hT := Lib.hid hT
  replace hhd := Lib.hid hhd
  replace hHl := Lib.hid hHl
  replace hby := Lib.hid hby
  replace hbR := Lib.hid hbR
  replace hWs := Lib.hid hWs
  replace hW := Lib.hid hW
  go_enter Tryd.func15, Tryd.ntmps15
  go_upto_region 3 with fail
  rw [← hW.out]
  go_loopw [3, 17] (fun ov kv wr => ∃ (k : Nat) (L : List UInt8) (a1 : Option Addr) (c1 : Nat), k ≤ 4 ∧ kv = .int .i64 k ∧ ov = .slice a1 L.length c1 ∧ Hid (L = listB (H.take k)) ∧ Hid (Own W wr a1 c1 L) ∧ Hid (Blk wr (w.heap.size + 2) #[.int .i64 r.cl, .int .i64 r.nu, .int .i64 r.co, .int .i64 r.id] 3)) (fun _ kv _ => 4 - (intOf kv).toNat)
  case atStart => exact ⟨0, [], _, _, by omega, rfl, rfl, Lib.hid rfl, hO0, hbI⟩
  case round =>
    obtain ⟨k, L, a1, c1, hk, rfl, rfl, hLe, hO, hI⟩ := hrel
    by_cases hlt : k < 4
    · have hlt2 : (k : Int) < 4 := by omega
      obtain ⟨v, hv⟩ := get_some H k (by rw [hHl.out]; omega)
      obtain ⟨v0, v1⟩ := hhd.out v (List.mem_of_getElem? hv)
      obtain ⟨m, rfl⟩ : ∃ m : Nat, v = m := ⟨v.toNat, by omega⟩
      have hcs : (#[.int .i64 r.cl, .int .i64 r.nu, .int .i64 r.co, .int .i64 r.id] : Array Value)[k]? = some (.int .i64 (m : Int)) := by
        have hv2 := hv
        rw [hH.out] at hv2
        show ((repN r).map (Value.int .i64)).toArray[k]? = _
        rw [List.getElem?_toArray, List.getElem?_map, hv2]
        rfl
      have hcl := hI.out.cell hcs
      have hlen := listB_len (l := H.take k) (fun n hn => hhd.out n (List.mem_of_mem_take hn))
      have hlen2 : (H.take k).length ≤ 4 := by rw [List.length_take]; omega
      have hLl : L.length ≤ 24 := by rw [hLe.out]; omega
      have hnum := rNum_any wr m (by omega)
      have hnl := numB_6 (n := m) (by omega)
      have hsn : listB (H.take (k + 1)) = listB (H.take k) ++ numB m := by rw [take_snoc hv, listB_snoc]; rfl
      obtain ⟨N, hN⟩ : ∃ N, N = numB m := ⟨_, rfl⟩
      rw [← hN] at hnum hsn hnl
      replace hnum := Lib.hid hnum
      replace hsn := Lib.hid hsn
      replace hcs := Lib.hid hcs
      replace hN := Lib.hid hN
      clear hv hlen hlen2
      go_wp2_with fail
      refine hnum.out.mono ?_
      rintro e w4 ⟨a4, c4, rfl, hO4⟩
      have hOw := hO.out.gr hO4.2.2.2.2
      have hIw := hI.out.gr hO4.2.2.2.2
      replace hO4 := Lib.hid hO4
      replace hOw := Lib.hid hOw
      replace hIw := Lib.hid hIw
      go_wp2_with (at_builtin; go_loud (refine wpList_app (W := W) rfl _ _ rfl a1 c1 L rfl hOw.out a4 c4 N rfl hO4.out.2.1 hO4.out.2.2.1 (by omega) ?_; intro a5 c5 w5 hO5 hg5; have hI5 := hOw.out.blk hIw.out (by decide) hg5; replace hO5 := Lib.hid hO5; replace hI5 := Lib.hid hI5; clear hg5))
      go_roundw
      case rel => exact ⟨k + 1, L ++ N, a5, c5, by omega, by go_num, by rw [List.length_append], Lib.hid (by rw [hsn.out, hLe.out]), hO5, hI5⟩
      case measure => simp [intOf]; omega
    · have hk4 : k = 4 := by omega
      have hh : H.take k = H := List.take_of_length_le (by rw [hHl.out]; omega)
      have hk4b : decide ((k : Int) < 4) = false := decide_eq_false (by omega)
      have hLe2 := hLe.out
      rw [hh] at hLe2
      have gwr := hO.out.2.2.2.2
      have hbw := hbR.out.gr gwr
      have f4 := hbw.cell (i := 4) (v := .slice a r.tree.length c) rfl
      have hLl : L.length ≤ 24 := by rw [hLe2]; omega
      have hbt := hby.out wr (gW.trans gwr)
      replace hbw := Lib.hid hbw
      replace hk4 := Lib.hid hk4
      replace hh := Lib.hid hh
      replace hLe2 := Lib.hid hLe2
      replace hbt := Lib.hid hbt
      go_wp2_with fail
      refine hbt.out.mono ?_
      rintro e w4 ⟨a4, c4, rfl, hO4⟩
      have hOw := hO.out.gr hO4.2.2.2.2
      replace hO4 := Lib.hid hO4
      replace hOw := Lib.hid hOw
      go_wp2_with (at_builtin; go_loud (refine wpList_app (W := W) rfl _ _ rfl a1 c1 L rfl hOw.out a4 c4 T rfl hO4.out.2.1 hO4.out.2.2.1 (by omega) ?_; intro a5 c5 w5 hO5 hg5; rw [hLe2.out, ← hRB.out] at hO5 ⊢; replace hO5 := Lib.hid hO5; clear hg5))
      have hfr := rframe_any w5 a5 c5 RB hO5.out.2.1 hO5.out.2.2.1 (by omega)
      replace hfr := Lib.hid hfr
      refine hfr.out.mono ?_
      rintro e w6 ⟨a6, c6, rfl, hO6⟩
      have g5 := gW.trans hO5.out.2.2.2.2
      replace hO6 := Lib.hid hO6
      go_wp2_with fail
      go_ret
      exact ⟨a6, c6, rfl, hO6.out.older g5⟩
end Go.Proofs.YtlgbnjaoadlolaaDoor
