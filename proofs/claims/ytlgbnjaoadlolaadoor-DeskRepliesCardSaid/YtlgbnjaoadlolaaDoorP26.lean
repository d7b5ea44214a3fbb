/- almonerref20.PutReply; almonernum: Bytes, Kept, Apart. -/
import Derived.Test.YtlgbnjaoadlolaaDoorP25
namespace Go.Proofs.YtlgbnjaoadlolaaDoor
open Go.RowKit

/-- Rows of unlike types lie apart. -/
theorem Own.ne {W w : World} {a : Option Addr} {c : Nat} {l : List UInt8} (h : Own W w a c l) {b : Nat} {cs : Array Value} {t : TypeId} (hb : Blk w b cs t) (ht : t ≠ 5) : ∀ x, a = some x → x.block ≠ b := fun x hx he => by
  rcases h.1.2 with hn | ⟨g, cap, cur, hv, hg, hh, _⟩
  · rw [hx] at hn; cases hn.1
  · rw [hx] at hv
    cases hv
    dsimp only at he
    rw [he] at hh
    unfold Blk at hb
    rw [hb] at hh
    cases hh
    exact ht rfl
theorem Own.blk {W w w' : World} {a : Option Addr} {c : Nat} {l : List UInt8} (h : Own W w a c l) {b : Nat} {cs : Array Value} {t : TypeId} (hb : Blk w b cs t) (ht : t ≠ 5) (hg : w.grownBy w' (Value.slice a l.length c).ownBlock) : Blk w' b cs t := by
  refine hb.grown hg ?_
  cases a with
  | none => intro e; cases e
  | some x => intro e; exact h.ne hb ht x rfl (Option.some.inj e).symm
set_option maxRecDepth 100000 in
set_option maxHeartbeats 3200000 in
theorem rPutReply_any (w : World) (r : Rep) (a : Option Addr) (c : Nat) (hf : repF r = true) (hB : BytesAt w a r.tree) (hcn : a = none → c = 0) :
    Calls Tryd.prog 15 #[.agg #[.int .i64 r.cl, .int .i64 r.nu, .int .i64 r.co, .int .i64 r.id, .slice a r.tree.length c]] w fun e w' => ∃ a' c', e = .returned (.slice a' (frameB (repB r)).length c') ∧ Own w w' a' c' (frameB (repB r)) := by
  obtain ⟨l1, l2, l3⟩ := repB_len hf
  have hhd : Nums (repN r) := okN_nums (by unfold repF at hf; rw [Bool.and_eq_true] at hf; exact hf.1)
  obtain ⟨H, hH⟩ : ∃ H, H = repN r := ⟨_, rfl⟩
  have hHl : H.length = 4 := by rw [hH]; rfl
  have hRB : repB r = listB H ++ (numB r.tree.length ++ r.tree) := by rw [hH]; rfl
  rw [← hH] at l1 hhd
  obtain ⟨RB, hRBe⟩ : ∃ RB, RB = repB r := ⟨_, rfl⟩
  rw [← hRBe] at hRB ⊢
  have hRBl : RB.length ≤ 20000 := by rw [hRB]; simp only [List.length_append]; omega
  obtain ⟨T, hT⟩ : ∃ T, T = numB r.tree.length ++ r.tree := ⟨_, rfl⟩
  have hTl : T.length ≤ 16100 := by rw [hT, List.length_append]; omega
  rw [← hT] at hRB
  obtain ⟨W, hW⟩ : ∃ W, W = w.alloc (.cells #[.int .i64 r.cl, .int .i64 r.nu, .int .i64 r.co, .int .i64 r.id, .slice a r.tree.length c] 24) := ⟨_, rfl⟩
  have gW : Gr w W := by rw [hW]; exact (Gr.refl w).alloc _
  have hWs : W.heap.size = w.heap.size + 1 := by rw [hW]; simp
  have hbR : Blk W w.heap.size #[.int .i64 r.cl, .int .i64 r.nu, .int .i64 r.co, .int .i64 r.id, .slice a r.tree.length c] 24 := by rw [hW]; exact Blk.new w _ _
  have hO0 := own_empty W #[] rfl
  have hby := fun w1 (g : Gr w w1) => rBytes_any w1 a c r.tree (hB.gr g) hcn (by omega)
  rw [← hT] at hby
  rw [hWs] at hO0
  replace hO0 := Lib.hid (hO0.gr ((Gr.refl _).alloc (.cells #[.int .i64 r.cl, .int .i64 r.nu, .int .i64 r.co, .int .i64 r.id] 3)))
  have hbI : Blk ((W.alloc (.cells #[] 5)).alloc (.cells #[.int .i64 r.cl, .int .i64 r.nu, .int .i64 r.co, .int .i64 r.id] 3)) (w.heap.size + 2) #[.int .i64 r.cl, .int .i64 r.nu, .int .i64 r.co, .int .i64 r.id] 3 := Blk.new1 (by simp [hWs])
  replace hbI := Lib.hid hbI
  replace hf := Lib.hid hf
  replace hH := Lib.hid hH
  replace hRB := Lib.hid hRB
  replace hRBe := Lib.hid hRBe
  replace hB := Lib.hid hB
  replace hT := Lib.hid hT
  replace hhd := Lib.hid hhd
  replace hHl := Lib.hid hHl
  replace hby := Lib.hid hby
  replace hbR := Lib.hid hbR
  replace hWs := Lib.hid hWs
  replace hW := Lib.hid hW
  go_enter Tryd.func15, Tryd.ntmps15
  go_upto_region 3 with fail
  rw [← hW.out]
  go_loopw [3, 17] (fun ov kv wr => ∃ (k : Nat) (L : List UInt8) (a1 : Option Addr) (c1 : Nat), k ≤ 4 ∧ kv = .int .i64 k ∧ ov = .slice a1 L.length c1 ∧ Hid (L = listB (H.take k)) ∧ Hid (Own W wr a1 c1 L) ∧ Hid (Blk wr (w.heap.size + 2) #[.int .i64 r.cl, .int .i64 r.nu, .int .i64 r.co, .int .i64 r.id] 3)) (fun _ kv _ => 4 - (intOf kv).toNat)
  case atStart => exact ⟨0, [], _, _, by omega, rfl, rfl, Lib.hid rfl, hO0, hbI⟩
  case round =>
    obtain ⟨k, L, a1, c1, hk, rfl, rfl, hLe, hO, hI⟩ := hrel
    by_cases hlt : k < 4
    · have hlt2 : (k : Int) < 4 := by omega
      obtain ⟨v, hv⟩ := get_some H k (by rw [hHl.out]; omega)
      obtain ⟨v0, v1⟩ := hhd.out v (List.mem_of_getElem? hv)
      obtain ⟨m, rfl⟩ : ∃ m : Nat, v = m := ⟨v.toNat, by omega⟩
      have hcs : (#[.int .i64 r.cl, .int .i64 r.nu, .int .i64 r.co, .int .i64 r.id] : Array Value)[k]? = some (.int .i64 (m : Int)) := by
        have hv2 := hv
        rw [hH.out] at hv2
        show ((repN r).map (Value.int .i64)).toArray[k]? = _
        rw [List.getElem?_toArray, List.getElem?_map, hv2]
        rfl
      have hcl := hI.out.cell hcs
      have hlen := listB_len (l := H.take k) (fun n hn => hhd.out n (List.mem_of_mem_take hn))
      have hlen2 : (H.take k).length ≤ 4 := by rw [List.length_take]; omega
      have hLl : L.length ≤ 24 := by rw [hLe.out]; omega
      have hnum := rNum_any wr m (by omega)
      have hnl := numB_6 (n := m) (by omega)
      have hsn : listB (H.take (k + 1)) = listB (H.take k) ++ numB m := by rw [take_snoc hv, listB_snoc]; rfl
      obtain ⟨N, hN⟩ : ∃ N, N = numB m := ⟨_, rfl⟩
      rw [← hN] at hnum hsn hnl
      replace hnum := Lib.hid hnum
      replace hsn := Lib.hid hsn
      replace hcs := Lib.hid hcs
      replace hN := Lib.hid hN
      clear hv hlen hlen2
      go_wp2_with fail
      refine hnum.out.mono ?_
      rintro e w4 ⟨a4, c4, rfl, hO4⟩
      have hOw := hO.out.gr hO4.2.2.2.2
      have hIw := hI.out.gr hO4.2.2.2.2
      replace hO4 := Lib.hid hO4
      replace hOw := Lib.hid hOw
      replace hIw := Lib.hid hIw
      go_wp2_with (at_builtin; go_loud (refine wpList_app (W := W) rfl _ _ rfl a1 c1 L rfl hOw.out a4 c4 N rfl hO4.out.2.1 hO4.out.2.2.1 (by omega) ?_; intro a5 c5 w5 hO5 hg5; have hI5 := hOw.out.blk hIw.out (by decide) hg5; replace hO5 := Lib.hid hO5; replace hI5 := Lib.hid hI5; clear hg5))
      go_roundw
      case rel => exact ⟨k + 1, L ++ N, a5, c5, by omega, by go_num, by rw [List.length_append], Lib.hid (by rw [hsn.out, hLe.out]), hO5, hI5⟩
      case measure => simp [intOf]; omega
    · have hk4 : k = 4 := by omega
      have hh : H.take k = H := List.take_of_length_le (by rw [hHl.out]; omega)
      have hk4b : decide ((k : Int) < 4) = false := decide_eq_false (by omega)
      have hLe2 := hLe.out
      rw [hh] at hLe2
      have gwr := hO.out.2.2.2.2
      have hbw := hbR.out.gr gwr
      have f4 := hbw.cell (i := 4) (v := .slice a r.tree.length c) rfl
      have hLl : L.length ≤ 24 := by rw [hLe2]; omega
      have hbt := hby.out wr (gW.trans gwr)
      replace hbw := Lib.hid hbw
      replace hk4 := Lib.hid hk4
      replace hh := Lib.hid hh
      replace hLe2 := Lib.hid hLe2
      replace hbt := Lib.hid hbt
      go_wp2_with fail
      refine hbt.out.mono ?_
      rintro e w4 ⟨a4, c4, rfl, hO4⟩
      have hOw := hO.out.gr hO4.2.2.2.2
      replace hO4 := Lib.hid hO4
      replace hOw := Lib.hid hOw
      go_wp2_with (at_builtin; go_loud (refine wpList_app (W := W) rfl _ _ rfl a1 c1 L rfl hOw.out a4 c4 T rfl hO4.out.2.1 hO4.out.2.2.1 (by omega) ?_; intro a5 c5 w5 hO5 hg5; rw [hLe2.out, ← hRB.out] at hO5 ⊢; replace hO5 := Lib.hid hO5; clear hg5))
      have hfr := rframe_any w5 a5 c5 RB hO5.out.2.1 hO5.out.2.2.1 (by omega)
      replace hfr := Lib.hid hfr
      refine hfr.out.mono ?_
      rintro e w6 ⟨a6, c6, rfl, hO6⟩
      have g5 := gW.trans hO5.out.2.2.2.2
      replace hO6 := Lib.hid hO6
      go_wp2_with fail
      go_ret
      exact ⟨a6, c6, rfl, hO6.out.older g5⟩
end Go.Proofs.YtlgbnjaoadlolaaDoor
