/- desk: PutReply, Refuse; almonerref20: PutReply, SameReply. -/
import Derived.Test.YtlgbnjaoadlolaaDoorP24
import Derived.Test.YtlgbnjaoadlolaaDoorP11
namespace Go.Proofs.YtlgbnjaoadlolaaDoor
open Go.RowKit

theorem repN_len (r : Rep) : (repN r).length = 4 := rfl
theorem repB_len {r : Rep} (h : repF r = true) : (listB (repN r)).length ≤ 24 ∧ (numB r.tree.length).length ≤ 6 ∧ r.tree.length ≤ 16000 := by
  unfold repF at h
  rw [Bool.and_eq_true] at h
  have h1 := listB_len (okN_nums h.1)
  have ht := of_decide_eq_true h.2
  exact ⟨by rw [repN_len] at h1; omega, numB_6 (by omega), ht⟩
set_option maxRecDepth 100000 in
set_option maxHeartbeats 3200000 in
theorem putReply_yes {G : List Nat} {E : Nat → Addr} (w : World) (hE : EAt G E w) (i0 : 0 ∈ G) (r : Rep) (a : Option Addr) (c : Nat) (hf : repF r = true) (hB : BytesAt w a r.tree) (hcn : a = none → c = 0) (hx : ∀ x, a = some x → x.block < w.heap.size) :
    Calls Tryd.prog 9 #[.agg #[.int .i64 r.cl, .int .i64 r.nu, .int .i64 r.co, .int .i64 r.id, .slice a r.tree.length c]] w fun e w' => ∃ a' c', e = .returned (.tuple #[.slice a' (frameB (repB r)).length c', .nilIface]) ∧ Own w w' a' c' (frameB (repB r)) := by
  have hck := checkReply_any (w.alloc (.cells #[.int .i64 r.cl, .int .i64 r.nu, .int .i64 r.co, .int .i64 r.id, .slice a r.tree.length c] 24)) (hE.gr ((Gr.refl w).alloc _)) i0 r a c
  rw [hf] at hck
  obtain ⟨l1, l2, l3⟩ := repB_len hf
  have hhd : Nums (repN r) := okN_nums (by unfold repF at hf; rw [Bool.and_eq_true] at hf; exact hf.1)
  obtain ⟨H, hH⟩ : ∃ H, H = repN r := ⟨_, rfl⟩
  have hHl : H.length = 4 := by rw [hH]; rfl
  have hRB : repB r = listB H ++ (numB r.tree.length ++ r.tree) := by rw [hH]; rfl
  rw [← hH] at l1 hhd
  obtain ⟨RB, hRBe⟩ : ∃ RB, RB = repB r := ⟨_, rfl⟩
  rw [← hRBe] at hRB ⊢
  have hRBl : RB.length ≤ 20000 := by rw [hRB]; simp only [List.length_append]; omega
  have hck2 : Calls Tryd.prog 25 #[.agg #[.int .i64 r.cl, .int .i64 r.nu, .int .i64 r.co, .int .i64 r.id, .slice a r.tree.length c]] (w.alloc (.cells #[.int .i64 r.cl, .int .i64 r.nu, .int .i64 r.co, .int .i64 r.id, .slice a r.tree.length c] 24)) fun e w' => e = .returned .nilIface ∧ Gr (w.alloc (.cells #[.int .i64 r.cl, .int .i64 r.nu, .int .i64 r.co, .int .i64 r.id, .slice a r.tree.length c] 24)) w' := hck
  clear hck
  replace hck2 := Lib.hid hck2
  replace hf := Lib.hid hf
  replace hH := Lib.hid hH
  replace hRB := Lib.hid hRB
  replace hRBe := Lib.hid hRBe
  replace hB := Lib.hid hB
  replace hx := Lib.hid hx
  replace hhd := Lib.hid hhd
  replace hHl := Lib.hid hHl
  go_enter Tryd.func9, Tryd.ntmps9
  go_wp2_with fail
  refine (hck2.out).mono ?_
  rintro e wa ⟨rfl, ga⟩
  obtain ⟨ca, fa, sa⟩ := ga.cells
  try simp only [size_drewN] at ca fa sa
  try simp only [World.size_alloc] at ca fa sa
  try simp only [World.size_drew] at ca fa sa
  try simp only [World.size_setCell] at ca fa sa
  have za0 : w.heap.size < wa.heap.size := by omega
  have ya0 : w.heap.size ≤ wa.heap.size := by omega
  have ka0 := fun o => ca (w.heap.size) o (by omega)
  have ja0 := fun o => fa (w.heap.size) o (by omega)
  have gwa : Gr w wa := ((Gr.refl w).alloc _).trans ga
  go_wp2_with fail
  refine (newWriter_at _ (n := wa.heap.size) rfl).mono ?_
  rintro e w3 ⟨rfl, hW⟩
  have g3 := hW.world
  have hbe := ((Blk.new w #[.int .i64 r.cl, .int .i64 r.nu, .int .i64 r.co, .int .i64 r.id, .slice a r.tree.length c] 24).gr ga).gr g3
  have c0 := hbe.cell (i := 0) (v := .int .i64 r.cl) rfl
  have c1 := hbe.cell (i := 1) (v := .int .i64 r.nu) rfl
  have c2 := hbe.cell (i := 2) (v := .int .i64 r.co) rfl
  have c3 := hbe.cell (i := 3) (v := .int .i64 r.id) rfl
  replace hW := Lib.hid hW
  replace hbe := Lib.hid hbe
  go_wp2_with fail
  go_loopw [23] (fun kv wr => ∃ q : Nat, q ≤ 4 ∧ kv = .int .i64 q ∧ WrAt wa wr wa.heap.size wr.heap.size (listB (H.take q))) (fun kv _ => 4 - (intOf kv).toNat)
  case atStart => exact ⟨0, by omega, rfl, hW.out.full⟩
  case round =>
    obtain ⟨k, hk, rfl, hWr⟩ := hrel
    by_cases hlt : k < 4
    · have hlt2 : (k : Int) < 4 := by omega
      obtain ⟨v, hv⟩ := get_some H k (by rw [hHl.out]; omega)
      obtain ⟨v0, v1⟩ := hhd.out v (List.mem_of_getElem? hv)
      obtain ⟨m, rfl⟩ : ∃ m : Nat, v = m := ⟨v.toNat, by omega⟩
      have hcs : (#[.int .i64 r.cl, .int .i64 r.nu, .int .i64 r.co, .int .i64 r.id] : Array Value)[k]? = some (.int .i64 (m : Int)) := by
        have hv2 := hv
        rw [hH.out] at hv2
        show ((repN r).map (Value.int .i64)).toArray[k]? = _
        rw [List.getElem?_toArray, List.getElem?_map, hv2]
        rfl
      have hix := fun w => idx_run w Tryd.underlying62 hlt hcs
      have hlen := listB_len (l := H.take k) (fun n hn => hhd.out n (List.mem_of_mem_take hn))
      have hlen2 : (H.take k).length ≤ 4 := by rw [List.length_take]; omega
      have hnum := num_any _ wr _ wr.heap.size (listB (H.take k)) m hWr (by omega) (by omega)
      have hsn : listB (H.take (k + 1)) = listB (H.take k) ++ numB m := by rw [take_snoc hv, listB_snoc]; rfl
      replace hWr := Lib.hid hWr
      replace hnum := Lib.hid hnum
      replace hsn := Lib.hid hsn
      replace hcs := Lib.hid hcs
      clear hv
      go_wp2_with fail
      refine hnum.out.mono ?_
      rintro e w4 ⟨rfl, hK⟩
      go_wp2_with fail
      go_roundw
      case rel => exact ⟨k + 1, by omega, by go_num, by rw [hsn.out]; exact hK.at⟩
      case measure => simp [intOf]; omega
    · have hk4 : k = 4 := by omega
      have hh : H.take k = H := List.take_of_length_le (by rw [hHl.out]; omega)
      have hk4b : decide ((k : Int) < 4) = false := decide_eq_false (by omega)
      rw [hh] at hWr
      have g4 := hWr.world
      have gwr := gwa.trans g4
      have hbw := ((Blk.new w #[.int .i64 r.cl, .int .i64 r.nu, .int .i64 r.co, .int .i64 r.id, .slice a r.tree.length c] 24).gr ga).gr g4
      have f4 := hbw.cell (i := 4) (v := .slice a r.tree.length c) rfl
      have z6 := hbw.lt
      have hwb := wbytes_any _ wr _ _ (listB H) a c r.tree hWr (by omega) (hB.out.gr gwr) hcn (fun x hxx => .inl (by have := hx.out x hxx; have := gwa.size; omega)) (by omega)
      rw [List.append_assoc, ← hRB.out] at hwb
      replace hwb := Lib.hid hwb
      replace hWr := Lib.hid hWr
      replace hbw := Lib.hid hbw
      replace hk4 := Lib.hid hk4
      replace hh := Lib.hid hh
      go_wp2_with fail
      refine hwb.out.mono ?_
      rintro e w7 ⟨rfl, hW7⟩
      have hfr := framed_any _ w7 _ _ RB hW7 (by omega)
      have g7 : Gr w w7 := gwa.trans hW7.world
      replace hfr := Lib.hid hfr
      replace hW7 := Lib.hid hW7
      go_wp2_with fail
      refine hfr.out.mono ?_
      rintro e w8 ⟨a8, c8, rfl, h8⟩
      replace h8 := Lib.hid h8
      go_wp2_with fail
      go_ret2
      exact ⟨a8, c8, rfl, h8.out.older g7⟩
set_option maxHeartbeats 1600000 in
theorem putReply_no {G : List Nat} {E : Nat → Addr} (w : World) (hE : EAt G E w) (i0 : 0 ∈ G) (r : Rep) (a : Option Addr) (c : Nat) (hf : repF r = false) :
    Calls Tryd.prog 9 #[.agg #[.int .i64 r.cl, .int .i64 r.nu, .int .i64 r.co, .int .i64 r.id, .slice a r.tree.length c]] w fun e w' => e = .returned (.tuple #[.slice none 0 0, (Value.iface 137 (.pointer (some (E 0))))]) ∧ Gr w w' := by
  have hck := checkReply_any (w.alloc (.cells #[.int .i64 r.cl, .int .i64 r.nu, .int .i64 r.co, .int .i64 r.id, .slice a r.tree.length c] 24)) (hE.gr ((Gr.refl w).alloc _)) i0 r a c
  rw [hf] at hck
  have hck2 : Calls Tryd.prog 25 #[.agg #[.int .i64 r.cl, .int .i64 r.nu, .int .i64 r.co, .int .i64 r.id, .slice a r.tree.length c]] (w.alloc (.cells #[.int .i64 r.cl, .int .i64 r.nu, .int .i64 r.co, .int .i64 r.id, .slice a r.tree.length c] 24)) fun e w' => e = .returned (Value.iface 137 (.pointer (some (E 0)))) ∧ Gr (w.alloc (.cells #[.int .i64 r.cl, .int .i64 r.nu, .int .i64 r.co, .int .i64 r.id, .slice a r.tree.length c] 24)) w' := hck
  clear hck
  replace hck2 := Lib.hid hck2
  replace hf := Lib.hid hf
  go_enter Tryd.func9, Tryd.ntmps9
  go_wp2_with fail
  refine (hck2.out).mono ?_
  rintro e wa ⟨rfl, ga⟩
  obtain ⟨ca, fa, sa⟩ := ga.cells
  try simp only [size_drewN] at ca fa sa
  try simp only [World.size_alloc] at ca fa sa
  try simp only [World.size_drew] at ca fa sa
  try simp only [World.size_setCell] at ca fa sa
  have za0 : w.heap.size < wa.heap.size := by omega
  have ya0 : w.heap.size ≤ wa.heap.size := by omega
  have ka0 := fun o => ca (w.heap.size) o (by omega)
  have ja0 := fun o => fa (w.heap.size) o (by omega)
  go_wp2_with fail
  go_ret2
  exact ⟨rfl, ((Gr.refl w).alloc _).trans ga⟩
set_option maxHeartbeats 1600000 in
theorem refuse_any (k : Int) (x : EntM) (code : Int) (w : World) :
    Calls Tryd.prog 12 #[.agg #[.int .i64 k, .int .i64 x.e.cl, .int .i64 x.e.nu, .int .i64 x.e.kd, .int .i64 x.e.id, .int .i64 x.e.srv.k, .int .i64 x.e.srv.q, .int .i64 x.e.srv.t, .int .i64 x.e.po, .slice x.a x.e.tasks.length x.c, .int .i64 x.e.at_], .int .i64 code] w fun e w' => e = .returned (.agg #[.int .i64 x.e.cl, .int .i64 x.e.nu, .int .i64 code, .int .i64 0, .slice none 0 0]) ∧ Gr w w' := by
  go_enter Tryd.func12, Tryd.ntmps12
  go_wp2
  refine bodyPost_ret (v := .agg #[.int .i64 x.e.cl, .int .i64 x.e.nu, .int .i64 code, .int .i64 0, .slice none 0 0]) (by simp [results, Tryd.results12, go_sem]) rfl ⟨rfl, ?_⟩
  repeat (first | exact Gr.refl _ | apply Gr.alloc | apply Gr.drew | apply Gr.drewN | (refine Gr.setCell ?_ (by simp) _) | (refine Gr.trans ?_ (by assumption)))
set_option maxRecDepth 100000 in
set_option maxHeartbeats 3200000 in
theorem rSameReply_yes (w : World) (r : Rep) (a a' : Option Addr) (c c' : Nat) (h : BytesAt w a r.tree) (h' : BytesAt w a' r.tree) :
    Calls Tryd.prog 11 #[.agg #[.int .i64 r.cl, .int .i64 r.nu, .int .i64 r.co, .int .i64 r.id, .slice a r.tree.length c], .agg #[.int .i64 r.cl, .int .i64 r.nu, .int .i64 r.co, .int .i64 r.id, .slice a' r.tree.length c']] w fun e w' => e = .returned (.bool true) ∧ Gr w w' := by
  have q1 := conv_any c (h.gr (((Gr.refl w).alloc (.cells #[.int .i64 r.cl, .int .i64 r.nu, .int .i64 r.co, .int .i64 r.id, .slice a r.tree.length c] 24)).alloc (.cells #[.int .i64 r.cl, .int .i64 r.nu, .int .i64 r.co, .int .i64 r.id, .slice a' r.tree.length c'] 24)))
  have q2 := conv_any c' (h'.gr (((Gr.refl w).alloc (.cells #[.int .i64 r.cl, .int .i64 r.nu, .int .i64 r.co, .int .i64 r.id, .slice a r.tree.length c] 24)).alloc (.cells #[.int .i64 r.cl, .int .i64 r.nu, .int .i64 r.co, .int .i64 r.id, .slice a' r.tree.length c'] 24)))
  replace h := Lib.hid h
  replace h' := Lib.hid h'
  go_enter Tryd.func11, Tryd.ntmps11
  go_wp2_with fail
  go_ret
  exact ⟨rfl, (by repeat (first | exact Gr.refl _ | apply Gr.alloc | apply Gr.drew | apply Gr.drewN | (refine Gr.setCell ?_ (by first | (simp; done) | (simp; omega)) _) | (refine Gr.trans ?_ (by assumption))))⟩
end Go.Proofs.YtlgbnjaoadlolaaDoor
