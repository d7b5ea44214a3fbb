/- order.Put. desk.PutAsk. Printed by gen_p9.py. -/
import Derived.Test.YtlgbnjaoadlolaaDoorP7
namespace Go.Proofs.YtlgbnjaoadlolaaDoor
open Go.RowKit

/-- An entry's numbers, in their order. -/
def tskN (t : Tsk) : List Int := [t.c, t.p, t.d, t.s]
def headN (e : Ent) : List Int := [e.cl, e.nu, e.kd, e.at_, e.id, e.srv.k, e.srv.q, e.srv.t, e.po, (e.tasks.length : Int)]
def entN (e : Ent) : List Int := headN e ++ e.tasks.flatMap tskN
def listB (l : List Int) : List UInt8 := l.flatMap fun n => numB n.toNat
theorem listB_snoc (l : List Int) (n : Int) : listB (l ++ [n]) = listB l ++ numB n.toNat := by simp [listB]
theorem listB_append (a b : List Int) : listB (a ++ b) = listB a ++ listB b := by simp [listB]
def Nums (l : List Int) : Prop := ∀ n ∈ l, 0 ≤ n ∧ n ≤ 1099511627776
theorem listB_len : ∀ {l : List Int}, Nums l → (listB l).length ≤ 6 * l.length
  | [], _ => by simp [listB]
  | n :: l, h => by
    have h1 := listB_len (l := l) (fun x hx => h x (List.mem_cons_of_mem _ hx))
    have h2 := h n (List.mem_cons_self ..)
    have h3 := numB_6 (n := n.toNat) (by omega)
    rw [show listB (n :: l) = numB n.toNat ++ listB l from rfl, List.length_append, List.length_cons]
    omega
theorem ent_tasks {e : Ent} (h : entF e = true) : e.tasks.length ≤ 8 ∧ ∀ t ∈ e.tasks, tskF t = true := by
  unfold entF ordF at h
  simp only [Bool.and_eq_true] at h
  obtain ⟨-, -, h⟩ := h
  split at h
  · simp only [Bool.and_eq_true, decide_eq_true_iff] at h
    rw [h.1.2]
    exact ⟨by simp, fun t ht => by cases ht⟩
  · split at h
    · simp only [Bool.and_eq_true, decide_eq_true_iff] at h
      rw [h.1.2]
      exact ⟨by simp, fun t ht => by cases ht⟩
    · split at h
      · simp only [Bool.and_eq_true, decide_eq_true_iff] at h
        exact ⟨h.1.2, fun t ht => List.all_eq_true.1 h.2 t ht⟩
      · cases h
theorem ent_head {e : Ent} (h : entF e = true) : Nums (headN e) := by
  have ht := (ent_tasks h).1
  unfold entF ordF at h
  simp only [Bool.and_eq_true, decide_eq_true_iff, okN_iff] at h
  obtain ⟨⟨h1, h2, h3, h4⟩, ⟨⟨h5, h6⟩, h7, h8⟩, h⟩ := h
  have hs : (0 ≤ e.srv.k ∧ e.srv.k ≤ 1099511627776) ∧ (0 ≤ e.srv.q ∧ e.srv.q ≤ 1099511627776) ∧ (0 ≤ e.srv.t ∧ e.srv.t ≤ 1099511627776) ∧ (0 ≤ e.po ∧ e.po ≤ 1099511627776) ∧ 0 ≤ e.kd ∧ e.kd ≤ 1099511627776 := by
    split at h
    · simp only [Bool.and_eq_true, decide_eq_true_iff, okN_iff] at h
      omega
    · split at h
      · simp only [Bool.and_eq_true, decide_eq_true_iff] at h
        omega
      · split at h
        · simp only [Bool.and_eq_true, decide_eq_true_iff, okN_iff] at h
          omega
        · cases h
  intro n hn
  simp only [headN, List.mem_cons, List.not_mem_nil, or_false] at hn
  rcases hn with rfl | rfl | rfl | rfl | rfl | rfl | rfl | rfl | rfl | rfl <;> omega
theorem tsk_nums {t : Tsk} (h : tskF t = true) : Nums (tskN t) := by
  unfold tskF at h
  simp only [Bool.and_eq_true, okN_iff] at h
  intro n hn
  simp only [tskN, List.mem_cons, List.not_mem_nil, or_false] at hn
  rcases hn with rfl | rfl | rfl | rfl <;> omega

theorem tsks_len (l : List Tsk) : (l.flatMap tskN).length = l.length * 4 := by
  induction l with
  | nil => rfl
  | cons t l ih =>
    rw [List.flatMap_cons, List.length_append, ih, List.length_cons]
    have : (tskN t).length = 4 := rfl
    omega
theorem idx_run {t : TypeId} {n : Nat} {cs : Array Value} {k : Nat} {v : Int} (w : World) (h : Tryd.prog.underlying t = some (.array n 3)) (hk : k < n) (hv : cs[k]? = some (.int .i64 v)) : (Instr.index t (.agg cs) (.int .i64 k)).run Tryd.prog w = .ok (.int .i64 v) w := by
  have h1 : (0 : Int) ≤ (k : Int) ∧ (k : Int) < (n : Int) := by omega
  simp [Instr.index, run_underlying h, asIntOf, h1, hv, go_sem]
  omega
theorem newWriter_at (w : World) {n : Nat} (hn : w.heap.size = n) : Calls Tryd.prog 26 #[] w fun e w' => e = .returned (.pointer (some ⟨n, 0, none⟩)) ∧ WrAt w w' n w'.heap.size [] := by
  subst hn
  exact newWriter_any w
set_option maxRecDepth 100000 in
set_option maxHeartbeats 6400000 in
theorem put_yes {G : List Nat} {E : Nat → Addr} (e : Ent) (a : Option Addr) (c : Nat) (w : World) (h : (⟨e, a, c⟩ : EntM).ok Any w) (hE : EAt G E w) (i0 : 0 ∈ G) (hf : entF e = true) :
    Calls Tryd.prog 37 #[.agg #[.int .i64 e.cl, .int .i64 e.nu, .int .i64 e.kd, .int .i64 e.id, .int .i64 e.srv.k, .int .i64 e.srv.q, .int .i64 e.srv.t, .int .i64 e.po, .slice a e.tasks.length c, .int .i64 e.at_]] w fun r w' => ∃ a' c', r = .returned (.tuple #[.slice a' (listB (entN e)).length c', .nilIface]) ∧ Own w w' a' c' (listB (entN e)) := by
  have hck := fun w' (g : Gr w w') => check_any ⟨e, a, c⟩ w' (h.gr g) (hE.gr g) i0
  dsimp only at hck
  rw [hf] at hck
  have hck2 : ∀ w', Gr w w' → Calls Tryd.prog 57 #[.agg #[.int .i64 e.cl, .int .i64 e.nu, .int .i64 e.kd, .int .i64 e.id, .int .i64 e.srv.k, .int .i64 e.srv.q, .int .i64 e.srv.t, .int .i64 e.po, .slice a e.tasks.length c, .int .i64 e.at_]] w' fun e w'' => e = .returned .nilIface ∧ Gr w' w'' := hck
  have hhd := ent_head hf
  obtain ⟨ht8, htk⟩ := ent_tasks hf
  obtain ⟨⟨htr, -⟩, -⟩ := h
  dsimp only at htr
  replace hck2 := Lib.hid hck2
  replace hhd := Lib.hid hhd
  replace htk := Lib.hid htk
  replace hf := Lib.hid hf
  replace htr := Lib.hid htr
  clear hck
  go_enter Tryd.func37, Tryd.ntmps37
  go_wp2_with fail
  refine (hck2.out _ ((Gr.refl w).alloc _)).mono ?_
  rintro e wa ⟨rfl, ga⟩
  obtain ⟨ca, fa, sa⟩ := ga.cells
  try simp only [size_drewN] at ca fa sa
  try simp only [World.size_alloc] at ca fa sa
  try simp only [World.size_drew] at ca fa sa
  try simp only [World.size_setCell] at ca fa sa
  have za0 : w.heap.size < wa.heap.size := by omega
  have ya0 : w.heap.size ≤ wa.heap.size := by omega
  have ka0 := fun o => ca (w.heap.size) o (by omega)
  have ja0 := fun o => fa (w.heap.size) o (by omega)
  go_wp2_with fail
  refine (newWriter_at _ (n := wa.heap.size + 1) (by simp)).mono ?_
  rintro r w3 ⟨rfl, hW⟩
  have g3 := hW.world
  have hbo := (Blk.new wa #[.int .i64 e.kd, .int .i64 e.id, .int .i64 e.srv.k, .int .i64 e.srv.q, .int .i64 e.srv.t, .int .i64 e.po, .slice a e.tasks.length c, .int .i64 e.at_] 29).gr g3
  have hbe := (((Blk.new w #[.int .i64 e.cl, .int .i64 e.nu, .int .i64 e.kd, .int .i64 e.id, .int .i64 e.srv.k, .int .i64 e.srv.q, .int .i64 e.srv.t, .int .i64 e.po, .slice a e.tasks.length c, .int .i64 e.at_] 79).gr ga).alloc (.cells #[.int .i64 e.kd, .int .i64 e.id, .int .i64 e.srv.k, .int .i64 e.srv.q, .int .i64 e.srv.t, .int .i64 e.po, .slice a e.tasks.length c, .int .i64 e.at_] 29)).gr g3
  have gw3 : Gr w w3 := ((((Gr.refl w).alloc _).trans ga).alloc _).trans g3
  have c0 := hbe.cell (i := 0) (v := .int .i64 e.cl) rfl
  have c1 := hbe.cell (i := 1) (v := .int .i64 e.nu) rfl
  have d0 := hbo.cell (i := 0) (v := .int .i64 e.kd) rfl
  have d1 := hbo.cell (i := 1) (v := .int .i64 e.id) rfl
  have d2 := hbo.cell (i := 2) (v := .int .i64 e.srv.k) rfl
  have d3 := hbo.cell (i := 3) (v := .int .i64 e.srv.q) rfl
  have d4 := hbo.cell (i := 4) (v := .int .i64 e.srv.t) rfl
  have d5 := hbo.cell (i := 5) (v := .int .i64 e.po) rfl
  have d6 := hbo.cell (i := 6) (v := .slice a e.tasks.length c) rfl
  have d7 := hbo.cell (i := 7) (v := .int .i64 e.at_) rfl
  replace hW := Lib.hid hW
  have hbo2 := hbo
  replace hbo2 := Lib.hid hbo2
  clear hbe hbo
  go_wp2_with fail
  go_loopw [46] (fun kv wr => ∃ k : Nat, k ≤ 10 ∧ kv = .int .i64 k ∧ WrAt (wa.alloc (.cells #[.int .i64 e.kd, .int .i64 e.id, .int .i64 e.srv.k, .int .i64 e.srv.q, .int .i64 e.srv.t, .int .i64 e.po, .slice a e.tasks.length c, .int .i64 e.at_] 29)) wr (wa.heap.size + 1) wr.heap.size (listB ((headN e).take k))) (fun kv _ => 10 - (intOf kv).toNat)
  case atStart => exact ⟨0, by omega, rfl, hW.out.full⟩
  case round =>
    obtain ⟨k, hk, rfl, hWr⟩ := hrel
    by_cases hlt : k < 10
    · have hlt2 : (k : Int) < 10 := by omega
      obtain ⟨v, hv⟩ := get_some (headN e) k hlt
      obtain ⟨v0, v1⟩ := hhd.out v (List.mem_of_getElem? hv)
      obtain ⟨m, rfl⟩ : ∃ m : Nat, v = m := ⟨v.toNat, by omega⟩
      have hcs : (#[.int .i64 e.cl, .int .i64 e.nu, .int .i64 e.kd, .int .i64 e.at_, .int .i64 e.id, .int .i64 e.srv.k, .int .i64 e.srv.q, .int .i64 e.srv.t, .int .i64 e.po, .int .i64 (e.tasks.length : Int)] : Array Value)[k]? = some (.int .i64 (m : Int)) := by
        show ((headN e).map (Value.int .i64)).toArray[k]? = _
        simp [hv]
      have hix := fun w => idx_run w Tryd.underlying115 hlt hcs
      have hlen := listB_len (l := (headN e).take k) (fun n hn => hhd.out n (List.mem_of_mem_take hn))
      have hlen2 : ((headN e).take k).length ≤ 10 := by rw [List.length_take]; omega
      have hnum := num_any _ wr _ wr.heap.size (listB ((headN e).take k)) m hWr (by omega) (by omega)
      have hsn : listB ((headN e).take (k + 1)) = listB ((headN e).take k) ++ numB m := by rw [take_snoc hv, listB_snoc]; rfl
      replace hWr := Lib.hid hWr
      replace hnum := Lib.hid hnum
      replace hsn := Lib.hid hsn
      replace hcs := Lib.hid hcs
      clear hv
      go_wp2_with fail
      refine hnum.out.mono ?_
      rintro r w4 ⟨rfl, hK⟩
      go_wp2_with fail
      go_roundw
      case rel => exact ⟨k + 1, by omega, by go_num, by rw [hsn.out]; exact hK.at⟩
      case measure => simp [intOf]; omega
    · have hk10 : k = 10 := by omega
      have hh : (headN e).take k = headN e := List.take_of_length_le (by rw [hk10]; simp [headN])
      have hk10b : decide ((k : Int) < 10) = false := decide_eq_false (by omega)
      rw [hh] at hWr
      replace hk10 := Lib.hid hk10
      replace hh := Lib.hid hh
      have g4 := hWr.world
      have hbw : Blk wr wa.heap.size #[.int .i64 e.kd, .int .i64 e.id, .int .i64 e.srv.k, .int .i64 e.srv.q, .int .i64 e.srv.t, .int .i64 e.po, .slice a e.tasks.length c, .int .i64 e.at_] 29 := (Blk.new wa #[.int .i64 e.kd, .int .i64 e.id, .int .i64 e.srv.k, .int .i64 e.srv.q, .int .i64 e.srv.t, .int .i64 e.po, .slice a e.tasks.length c, .int .i64 e.at_] 29).gr g4
      have f6 := hbw.cell (i := 6) (v := .slice a e.tasks.length c) rfl
      have z6 := hbw.lt
      have hlh := listB_len hhd.out
      replace hWr := Lib.hid hWr
      replace hbw := Lib.hid hbw
      have hhl : (headN e).length = 10 := rfl
      obtain ⟨H, hH⟩ : ∃ H, H = headN e := ⟨_, rfl⟩
      rw [← hH] at hWr hlh hhl
      replace hH := Lib.hid hH
      have gw2 : Gr w (wa.alloc (.cells #[.int .i64 e.kd, .int .i64 e.id, .int .i64 e.srv.k, .int .i64 e.srv.q, .int .i64 e.srv.t, .int .i64 e.po, .slice a e.tasks.length c, .int .i64 e.at_] 29)) := (((Gr.refl w).alloc _).trans ga).alloc _
      go_wp2_with fail
      go_loopw [56] (fun jv wr => ∃ j : Nat, j ≤ e.tasks.length ∧ jv = .int .i64 j ∧ WrAt (wa.alloc (.cells #[.int .i64 e.kd, .int .i64 e.id, .int .i64 e.srv.k, .int .i64 e.srv.q, .int .i64 e.srv.t, .int .i64 e.po, .slice a e.tasks.length c, .int .i64 e.at_] 29)) wr (wa.heap.size + 1) wr.heap.size (listB (H ++ (e.tasks.take j).flatMap tskN))) (fun jv _ => e.tasks.length - (intOf jv).toNat)
      case atStart => exact ⟨0, Nat.zero_le _, rfl, by simpa using hWr.out⟩
      case round =>
        obtain ⟨j, hj, rfl, hWj⟩ := hrel
        obtain ⟨wo, rfl⟩ : ∃ wo : World, wo = wr := ⟨_, rfl⟩
        by_cases hjl : j < e.tasks.length
        · obtain ⟨t, ht⟩ := get_some e.tasks j hjl
          obtain ⟨b, off, rfl, hb, hct⟩ := htr.out j t ht
          have gwo := gw2.trans hWj.world
          have e0 : wo.cell? ⟨b, off + j * 4, none⟩ = some (.int .i64 t.c) := by rw [gwo.cells.1 _ _ hb]; exact hct 0 _ rfl
          have e1 : wo.cell? ⟨b, off + j * 4 + 1, none⟩ = some (.int .i64 t.p) := by rw [gwo.cells.1 _ _ hb]; exact hct 1 _ rfl
          have e2 : wo.cell? ⟨b, off + j * 4 + 2, none⟩ = some (.int .i64 t.d) := by rw [gwo.cells.1 _ _ hb]; exact hct 2 _ rfl
          have e3 : wo.cell? ⟨b, off + j * 4 + 3, none⟩ = some (.int .i64 t.s) := by rw [gwo.cells.1 _ _ hb]; exact hct 3 _ rfl
          have hbo3 : b < wo.heap.size := Nat.lt_of_lt_of_le hb gwo.size
          have htn := tsk_nums (htk.out t (List.mem_of_getElem? ht))
          have hts : (e.tasks.take (j + 1)).flatMap tskN = (e.tasks.take j).flatMap tskN ++ tskN t := by rw [take_snoc ht, List.flatMap_append]; simp
          have hpre : Nums (H ++ (e.tasks.take j).flatMap tskN) := fun n hn => by
            rcases List.mem_append.1 hn with hn | hn
            · rw [hH.out] at hn; exact hhd.out n hn
            · obtain ⟨y, hy, hyn⟩ := List.mem_flatMap.1 hn
              exact tsk_nums (htk.out y (List.mem_of_mem_take hy)) n hyn
          have hpl : (H ++ (e.tasks.take j).flatMap tskN).length ≤ 42 := by
            rw [List.length_append, hhl, tsks_len, List.length_take]
            omega
          obtain ⟨F, hF⟩ : ∃ F, F = H ++ (e.tasks.take j).flatMap tskN := ⟨_, rfl⟩
          rw [← hF] at hWj hpre hpl
          have hF2 : H ++ (e.tasks.take (j + 1)).flatMap tskN = F ++ tskN t := by rw [hts, hF, List.append_assoc]
          have hWa := hWj.gr ((Gr.refl wo).alloc (.cells #[.int .i64 t.c, .int .i64 t.p, .int .i64 t.d, .int .i64 t.s] 117))
          have hWa2 := hWa.full
          replace hWa := Lib.hid hWa
          replace hWa2 := Lib.hid hWa2
          replace hWj := Lib.hid hWj
          replace hts := Lib.hid hts
          replace hF := Lib.hid hF
          replace hF2 := Lib.hid hF2
          replace ht := Lib.hid ht
          replace htn := Lib.hid htn
          replace hpre := Lib.hid hpre
          clear hct
          go_wp2_with fail
          go_loopw [69] (fun kv wr => ∃ k : Nat, k ≤ 4 ∧ kv = .int .i64 k ∧ WrAt (wa.alloc (.cells #[.int .i64 e.kd, .int .i64 e.id, .int .i64 e.srv.k, .int .i64 e.srv.q, .int .i64 e.srv.t, .int .i64 e.po, .slice (some ⟨b, off, none⟩) e.tasks.length c, .int .i64 e.at_] 29)) wr (wa.heap.size + 1) wr.heap.size (listB (F ++ (tskN t).take k))) (fun kv _ => 4 - (intOf kv).toNat)
          case atStart => exact ⟨0, by omega, rfl, by simpa using hWa2.out⟩
          case round =>
            obtain ⟨k, hk, rfl, hWr2⟩ := hrel
            by_cases hlt : k < 4
            · have hlt2 : (k : Int) < 4 := by omega
              obtain ⟨v, hv⟩ := get_some (tskN t) k hlt
              obtain ⟨v0, v1⟩ := htn.out v (List.mem_of_getElem? hv)
              obtain ⟨m, rfl⟩ : ∃ m : Nat, v = m := ⟨v.toNat, by omega⟩
              have hcs : (#[.int .i64 t.c, .int .i64 t.p, .int .i64 t.d, .int .i64 t.s] : Array Value)[k]? = some (.int .i64 (m : Int)) := by
                show ((tskN t).map (Value.int .i64)).toArray[k]? = _
                simp [hv]
              have hix := fun w => idx_run w Tryd.underlying62 hlt hcs
              have hlen := listB_len (l := F ++ (tskN t).take k) (fun n hn => (List.mem_append.1 hn).elim (hpre.out n) (fun h => htn.out n (List.mem_of_mem_take h)))
              have hlen2 : (F ++ (tskN t).take k).length ≤ 46 := by rw [List.length_append, List.length_take]; omega
              have hnum := num_any _ wr _ wr.heap.size (listB (F ++ (tskN t).take k)) m hWr2 (by omega) (by omega)
              have hsn : listB (F ++ (tskN t).take (k + 1)) = listB (F ++ (tskN t).take k) ++ numB m := by rw [take_snoc hv, ← List.append_assoc, listB_snoc]; rfl
              replace hWr2 := Lib.hid hWr2
              replace hnum := Lib.hid hnum
              replace hsn := Lib.hid hsn
              replace hcs := Lib.hid hcs
              clear hv
              go_wp2_with fail
              refine hnum.out.mono ?_
              rintro r w4 ⟨rfl, hK⟩
              go_wp2_with fail
              go_roundw
              case rel => exact ⟨k + 1, by omega, by go_num, by rw [hsn.out]; exact hK.at⟩
              case measure => simp [intOf]; omega
            · have hk4 : k = 4 := by omega
              have hWe : WrAt (wa.alloc (.cells #[.int .i64 e.kd, .int .i64 e.id, .int .i64 e.srv.k, .int .i64 e.srv.q, .int .i64 e.srv.t, .int .i64 e.po, .slice (some ⟨b, off, none⟩) e.tasks.length c, .int .i64 e.at_] 29)) wr (wa.heap.size + 1) wr.heap.size (listB (H ++ (e.tasks.take (j + 1)).flatMap tskN)) := by
                rw [hF2.out]
                rw [hk4] at hWr2
                exact hWr2
              have hk4b : decide ((k : Int) < 4) = false := decide_eq_false (by omega)
              replace hWe := Lib.hid hWe
              replace hWr2 := Lib.hid hWr2
              replace hk4 := Lib.hid hk4
              go_wp2_with fail
              go_roundw
              case rel => exact ⟨j + 1, by omega, by go_num, hWe.out⟩
              case measure => simp [intOf]; omega
        · have hall : e.tasks.take j = e.tasks := List.take_of_length_le (by omega)
          rw [hall, hH.out] at hWj
          have hln := listB_len (l := entN e) (fun n hn => by
            rcases List.mem_append.1 hn with hn | hn
            · exact hhd.out n hn
            · obtain ⟨y, hy, hyn⟩ := List.mem_flatMap.1 hn
              exact tsk_nums (htk.out y hy) n hyn)
          have hnl : (entN e).length ≤ 42 := by
            unfold entN
            rw [List.length_append, tsks_len]
            have : (headN e).length = 10 := rfl
            omega
          have hdn := done_any _ wo _ _ (listB (entN e)) hWj (by omega)
          have gwo := gw2.trans hWj.world
          replace hdn := Lib.hid hdn
          replace hWj := Lib.hid hWj
          replace hall := Lib.hid hall
          go_wp2_with fail
          refine hdn.out.mono ?_
          rintro r w5 ⟨a5, c5, rfl, h5⟩
          replace h5 := Lib.hid h5
          go_wp2_with fail
          go_ret2
          exact ⟨a5, c5, rfl, h5.out.older gwo⟩


/-- A question's payload. -/
def askB (k : Int) (e : Ent) : List UInt8 := listB [k, e.cl, e.nu] ++ (if k = 1 then numB (listB (entN e)).length ++ listB (entN e) else [])
theorem entN_nums {e : Ent} (h : entF e = true) : Nums (entN e) := fun n hn => by
  rcases List.mem_append.1 hn with hn | hn
  · exact ent_head h n hn
  · obtain ⟨y, hy, hyn⟩ := List.mem_flatMap.1 hn
    exact tsk_nums ((ent_tasks h).2 y hy) n hyn
theorem entB_len {e : Ent} (h : entF e = true) : (listB (entN e)).length ≤ 252 := by
  have h1 := listB_len (entN_nums h)
  have h2 : (entN e).length ≤ 42 := by
    unfold entN
    rw [List.length_append, tsks_len]
    have : (headN e).length = 10 := rfl
    have := (ent_tasks h).1
    omega
  omega
theorem askF_parts {k : Int} {e : Ent} (h : askF k e = true) : (k = 1 ∧ entF e = true ∨ k = 2) ∧ 0 ≤ e.cl ∧ e.cl < 16 ∧ 1 ≤ e.nu ∧ e.nu ≤ 1099511627776 := by
  unfold askF at h
  simp only [Bool.or_eq_true, Bool.and_eq_true, decide_eq_true_iff] at h
  rcases h with ⟨h1, h2⟩ | ⟨⟨h1, -⟩, h2⟩
  · have h3 := h2
    unfold entF at h3
    simp only [Bool.and_eq_true, decide_eq_true_iff] at h3
    exact ⟨.inl ⟨h1, h2⟩, h3.1⟩
  · exact ⟨.inr h1, h2⟩
set_option maxRecDepth 100000 in
set_option maxHeartbeats 6400000 in
theorem putAsk_yes {G : List Nat} {E : Nat → Addr} (k0 : Int) (e : Ent) (a : Option Addr) (c : Nat) (w : World) (h : (⟨e, a, c⟩ : EntM).ok Any w) (hE : EAt G E w) (i0 : 0 ∈ G) (hf : askF k0 e = true) :
    Calls Tryd.prog 17 #[.agg #[.int .i64 k0, .int .i64 e.cl, .int .i64 e.nu, .int .i64 e.kd, .int .i64 e.id, .int .i64 e.srv.k, .int .i64 e.srv.q, .int .i64 e.srv.t, .int .i64 e.po, .slice a e.tasks.length c, .int .i64 e.at_]] w fun r w' => ∃ a' c', r = .returned (.tuple #[.slice a' (frameB (askB k0 e)).length c', .nilIface]) ∧ Own w w' a' c' (frameB (askB k0 e)) := by
  have hck := fun w' (g : Gr w w') => checkAsk_any k0 ⟨e, a, c⟩ w' (h.gr g) (hE.gr g) i0
  dsimp only at hck
  rw [hf] at hck
  have hck2 : ∀ w', Gr w w' → Calls Tryd.prog 36 #[.agg #[.int .i64 k0, .int .i64 e.cl, .int .i64 e.nu, .int .i64 e.kd, .int .i64 e.id, .int .i64 e.srv.k, .int .i64 e.srv.q, .int .i64 e.srv.t, .int .i64 e.po, .slice a e.tasks.length c, .int .i64 e.at_]] w' fun e w'' => e = .returned .nilIface ∧ Gr w' w'' := hck
  clear hck
  obtain ⟨hk, n1, n2, n3, n4⟩ := askF_parts hf
  rcases hk with ⟨rfl, hfe⟩ | rfl
  · have hpt := fun w' (g : Gr w w') => put_yes e a c w' (h.gr g) (hE.gr g) i0 hfe
    have hbl := entB_len hfe
    replace hpt := Lib.hid hpt
    replace hck2 := Lib.hid hck2
    replace hf := Lib.hid hf
    replace hfe := Lib.hid hfe
    replace h := Lib.hid h
    have hhd : Nums [1, e.cl, e.nu] := fun n hn => by
      simp only [List.mem_cons, List.not_mem_nil, or_false] at hn
      rcases hn with rfl | rfl | rfl <;> omega
    obtain ⟨H, hH⟩ : ∃ H, H = [(1 : Int), e.cl, e.nu] := ⟨_, rfl⟩
    have hHl : H.length = 3 := by rw [hH]; rfl
    rw [← hH] at hhd
    have hlh := listB_len hhd
    replace hH := Lib.hid hH
    replace hhd := Lib.hid hhd
    go_enter Tryd.func17, Tryd.ntmps17
    go_wp2_with fail
    refine (hck2.out _ ((Gr.refl w).alloc _)).mono ?_
    rintro e wa ⟨rfl, ga⟩
    obtain ⟨ca, fa, sa⟩ := ga.cells
    try simp only [size_drewN] at ca fa sa
    try simp only [World.size_alloc] at ca fa sa
    try simp only [World.size_drew] at ca fa sa
    try simp only [World.size_setCell] at ca fa sa
    have za0 : w.heap.size < wa.heap.size := by omega
    have ya0 : w.heap.size ≤ wa.heap.size := by omega
    have ka0 := fun o => ca (w.heap.size) o (by omega)
    have ja0 := fun o => fa (w.heap.size) o (by omega)
    have gwa : Gr w wa := ((Gr.refl w).alloc _).trans ga
    go_wp2_with fail
    refine (newWriter_at _ (n := wa.heap.size) rfl).mono ?_
    rintro r w3 ⟨rfl, hW⟩
    have g3 := hW.world
    have hbe := ((Blk.new w #[.int .i64 1, .int .i64 e.cl, .int .i64 e.nu, .int .i64 e.kd, .int .i64 e.id, .int .i64 e.srv.k, .int .i64 e.srv.q, .int .i64 e.srv.t, .int .i64 e.po, .slice a e.tasks.length c, .int .i64 e.at_] 31).gr ga).gr g3
    have c0 := hbe.cell (i := 0) (v := .int .i64 1) rfl
    have c1 := hbe.cell (i := 1) (v := .int .i64 e.cl) rfl
    have c2 := hbe.cell (i := 2) (v := .int .i64 e.nu) rfl
    replace hW := Lib.hid hW
    replace hbe := Lib.hid hbe
    go_wp2_with fail
    go_loopw [23] (fun kv wr => ∃ q : Nat, q ≤ 3 ∧ kv = .int .i64 q ∧ WrAt wa wr wa.heap.size wr.heap.size (listB (H.take q))) (fun kv _ => 3 - (intOf kv).toNat)
    case atStart => exact ⟨0, by omega, rfl, hW.out.full⟩
    case round =>
      obtain ⟨k, hk, rfl, hWr⟩ := hrel
      by_cases hlt : k < 3
      · have hlt2 : (k : Int) < 3 := by omega
        obtain ⟨v, hv⟩ := get_some H k (by omega)
        obtain ⟨v0, v1⟩ := hhd.out v (List.mem_of_getElem? hv)
        obtain ⟨m, rfl⟩ : ∃ m : Nat, v = m := ⟨v.toNat, by omega⟩
        have hcs : (#[.int .i64 1, .int .i64 e.cl, .int .i64 e.nu] : Array Value)[k]? = some (.int .i64 (m : Int)) := by
          have hv2 := hv
          rw [hH.out] at hv2
          show (([(1 : Int), e.cl, e.nu] : List Int).map (Value.int .i64)).toArray[k]? = _
          rw [List.getElem?_toArray, List.getElem?_map, hv2]
          rfl
        have hix := fun w => idx_run w Tryd.underlying76 hlt hcs
        have hlen := listB_len (l := H.take k) (fun n hn => hhd.out n (List.mem_of_mem_take hn))
        have hlen2 : (H.take k).length ≤ 3 := by rw [List.length_take]; omega
        have hnum := num_any _ wr _ wr.heap.size (listB (H.take k)) m hWr (by omega) (by omega)
        have hsn : listB (H.take (k + 1)) = listB (H.take k) ++ numB m := by rw [take_snoc hv, listB_snoc]; rfl
        replace hWr := Lib.hid hWr
        replace hnum := Lib.hid hnum
        replace hsn := Lib.hid hsn
        replace hcs := Lib.hid hcs
        clear hv
        go_wp2_with fail
        refine hnum.out.mono ?_
        rintro r w4 ⟨rfl, hK⟩
        go_wp2_with fail
        go_roundw
        case rel => exact ⟨k + 1, by omega, by go_num, by rw [hsn.out]; exact hK.at⟩
        case measure => simp [intOf]; omega
      · have hk3 : k = 3 := by omega
        have hh : H.take k = H := List.take_of_length_le (by omega)
        have hk3b : decide ((k : Int) < 3) = false := decide_eq_false (by omega)
        rw [hh] at hWr
        have g4 := hWr.world
        have gwr := gwa.trans g4
        have hbw := ((Blk.new w #[.int .i64 1, .int .i64 e.cl, .int .i64 e.nu, .int .i64 e.kd, .int .i64 e.id, .int .i64 e.srv.k, .int .i64 e.srv.q, .int .i64 e.srv.t, .int .i64 e.po, .slice a e.tasks.length c, .int .i64 e.at_] 31).gr ga).gr g4
        have f0 := hbw.cell (i := 0) (v := .int .i64 1) rfl
        have f1 := hbw.cell (i := 1) (v := .int .i64 e.cl) rfl
        have f2 := hbw.cell (i := 2) (v := .int .i64 e.nu) rfl
        have f3 := hbw.cell (i := 3) (v := .int .i64 e.kd) rfl
        have f4 := hbw.cell (i := 4) (v := .int .i64 e.id) rfl
        have f5 := hbw.cell (i := 5) (v := .int .i64 e.srv.k) rfl
        have f6 := hbw.cell (i := 6) (v := .int .i64 e.srv.q) rfl
        have f7 := hbw.cell (i := 7) (v := .int .i64 e.srv.t) rfl
        have f8 := hbw.cell (i := 8) (v := .int .i64 e.po) rfl
        have f9 := hbw.cell (i := 9) (v := .slice a e.tasks.length c) rfl
        have f10 := hbw.cell (i := 10) (v := .int .i64 e.at_) rfl
        have z6 := hbw.lt
        replace hWr := Lib.hid hWr
        replace hbw := Lib.hid hbw
        replace hk3 := Lib.hid hk3
        replace hh := Lib.hid hh
        go_wp2_with fail
        refine (entry_any 1 ⟨e, a, c⟩ wr).mono ?_
        rintro r w5 ⟨rfl, g5⟩
        go_wp2_with fail
        refine (hpt.out w5 (gwr.trans g5)).mono ?_
        rintro r w6 ⟨a6, c6, rfl, h6⟩
        have g6 := h6.2.2.2.2
        have hW6 := hWr.out.gr (g5.trans g6)
        have s5 := g5.size
        have hwb := wbytes_any _ w6 _ _ _ a6 c6 (listB (entN e)) hW6 (by omega) h6.2.1 h6.2.2.1 (fun x hx => .inr ⟨by have := h6.2.2.2.1 x hx; omega, h6.lt hx⟩) (by omega)
        replace hwb := Lib.hid hwb
        replace h6 := Lib.hid h6
        replace hW6 := Lib.hid hW6
        go_wp2_with fail
        refine hwb.out.mono ?_
        rintro r w7 ⟨rfl, hW7⟩
        have hfr := framed_any _ w7 _ _ _ hW7 (by rw [List.length_append, List.length_append]; have := numB_10 (n := (listB (entN e)).length) (by omega); omega)
        rw [show listB H ++ numB (listB (entN e)).length ++ listB (entN e) = askB 1 e by rw [hH.out]; unfold askB; rw [if_pos rfl, List.append_assoc]] at hfr
        have g7 := hW7.world
        replace hfr := Lib.hid hfr
        replace hW7 := Lib.hid hW7
        go_wp2_with fail
        refine hfr.out.mono ?_
        rintro r w8 ⟨a8, c8, rfl, h8⟩
        replace h8 := Lib.hid h8
        go_wp2_with fail
        go_ret2
        exact ⟨a8, c8, rfl, h8.out.older (gwa.trans g7)⟩
  · replace hck2 := Lib.hid hck2
    replace hf := Lib.hid hf
    replace h := Lib.hid h
    have hhd : Nums [2, e.cl, e.nu] := fun n hn => by
      simp only [List.mem_cons, List.not_mem_nil, or_false] at hn
      rcases hn with rfl | rfl | rfl <;> omega
    obtain ⟨H, hH⟩ : ∃ H, H = [(2 : Int), e.cl, e.nu] := ⟨_, rfl⟩
    have hHl : H.length = 3 := by rw [hH]; rfl
    rw [← hH] at hhd
    have hlh := listB_len hhd
    replace hH := Lib.hid hH
    replace hhd := Lib.hid hhd
    go_enter Tryd.func17, Tryd.ntmps17
    go_wp2_with fail
    refine (hck2.out _ ((Gr.refl w).alloc _)).mono ?_
    rintro e wa ⟨rfl, ga⟩
    obtain ⟨ca, fa, sa⟩ := ga.cells
    try simp only [size_drewN] at ca fa sa
    try simp only [World.size_alloc] at ca fa sa
    try simp only [World.size_drew] at ca fa sa
    try simp only [World.size_setCell] at ca fa sa
    have za0 : w.heap.size < wa.heap.size := by omega
    have ya0 : w.heap.size ≤ wa.heap.size := by omega
    have ka0 := fun o => ca (w.heap.size) o (by omega)
    have ja0 := fun o => fa (w.heap.size) o (by omega)
    have gwa : Gr w wa := ((Gr.refl w).alloc _).trans ga
    go_wp2_with fail
    refine (newWriter_at _ (n := wa.heap.size) rfl).mono ?_
    rintro r w3 ⟨rfl, hW⟩
    have g3 := hW.world
    have hbe := ((Blk.new w #[.int .i64 2, .int .i64 e.cl, .int .i64 e.nu, .int .i64 e.kd, .int .i64 e.id, .int .i64 e.srv.k, .int .i64 e.srv.q, .int .i64 e.srv.t, .int .i64 e.po, .slice a e.tasks.length c, .int .i64 e.at_] 31).gr ga).gr g3
    have c0 := hbe.cell (i := 0) (v := .int .i64 2) rfl
    have c1 := hbe.cell (i := 1) (v := .int .i64 e.cl) rfl
    have c2 := hbe.cell (i := 2) (v := .int .i64 e.nu) rfl
    replace hW := Lib.hid hW
    replace hbe := Lib.hid hbe
    go_wp2_with fail
    go_loopw [23] (fun kv wr => ∃ q : Nat, q ≤ 3 ∧ kv = .int .i64 q ∧ WrAt wa wr wa.heap.size wr.heap.size (listB (H.take q))) (fun kv _ => 3 - (intOf kv).toNat)
    case atStart => exact ⟨0, by omega, rfl, hW.out.full⟩
    case round =>
      obtain ⟨k, hk, rfl, hWr⟩ := hrel
      by_cases hlt : k < 3
      · have hlt2 : (k : Int) < 3 := by omega
        obtain ⟨v, hv⟩ := get_some H k (by omega)
        obtain ⟨v0, v1⟩ := hhd.out v (List.mem_of_getElem? hv)
        obtain ⟨m, rfl⟩ : ∃ m : Nat, v = m := ⟨v.toNat, by omega⟩
        have hcs : (#[.int .i64 2, .int .i64 e.cl, .int .i64 e.nu] : Array Value)[k]? = some (.int .i64 (m : Int)) := by
          have hv2 := hv
          rw [hH.out] at hv2
          show (([(2 : Int), e.cl, e.nu] : List Int).map (Value.int .i64)).toArray[k]? = _
          rw [List.getElem?_toArray, List.getElem?_map, hv2]
          rfl
        have hix := fun w => idx_run w Tryd.underlying76 hlt hcs
        have hlen := listB_len (l := H.take k) (fun n hn => hhd.out n (List.mem_of_mem_take hn))
        have hlen2 : (H.take k).length ≤ 3 := by rw [List.length_take]; omega
        have hnum := num_any _ wr _ wr.heap.size (listB (H.take k)) m hWr (by omega) (by omega)
        have hsn : listB (H.take (k + 1)) = listB (H.take k) ++ numB m := by rw [take_snoc hv, listB_snoc]; rfl
        replace hWr := Lib.hid hWr
        replace hnum := Lib.hid hnum
        replace hsn := Lib.hid hsn
        replace hcs := Lib.hid hcs
        clear hv
        go_wp2_with fail
        refine hnum.out.mono ?_
        rintro r w4 ⟨rfl, hK⟩
        go_wp2_with fail
        go_roundw
        case rel => exact ⟨k + 1, by omega, by go_num, by rw [hsn.out]; exact hK.at⟩
        case measure => simp [intOf]; omega
      · have hk3 : k = 3 := by omega
        have hh : H.take k = H := List.take_of_length_le (by omega)
        have hk3b : decide ((k : Int) < 3) = false := decide_eq_false (by omega)
        rw [hh] at hWr
        have g4 := hWr.world
        have gwr := gwa.trans g4
        have hbw := ((Blk.new w #[.int .i64 2, .int .i64 e.cl, .int .i64 e.nu, .int .i64 e.kd, .int .i64 e.id, .int .i64 e.srv.k, .int .i64 e.srv.q, .int .i64 e.srv.t, .int .i64 e.po, .slice a e.tasks.length c, .int .i64 e.at_] 31).gr ga).gr g4
        have f0 := hbw.cell (i := 0) (v := .int .i64 2) rfl
        have f1 := hbw.cell (i := 1) (v := .int .i64 e.cl) rfl
        have f2 := hbw.cell (i := 2) (v := .int .i64 e.nu) rfl
        have f3 := hbw.cell (i := 3) (v := .int .i64 e.kd) rfl
        have f4 := hbw.cell (i := 4) (v := .int .i64 e.id) rfl
        have f5 := hbw.cell (i := 5) (v := .int .i64 e.srv.k) rfl
        have f6 := hbw.cell (i := 6) (v := .int .i64 e.srv.q) rfl
        have f7 := hbw.cell (i := 7) (v := .int .i64 e.srv.t) rfl
        have f8 := hbw.cell (i := 8) (v := .int .i64 e.po) rfl
        have f9 := hbw.cell (i := 9) (v := .slice a e.tasks.length c) rfl
        have f10 := hbw.cell (i := 10) (v := .int .i64 e.at_) rfl
        have z6 := hbw.lt
        replace hWr := Lib.hid hWr
        replace hbw := Lib.hid hbw
        replace hk3 := Lib.hid hk3
        replace hh := Lib.hid hh
        have hfr := framed_any _ wr _ _ _ hWr.out (by omega)
        rw [show listB H = askB 2 e by rw [hH.out]; unfold askB; rw [if_neg (by decide), List.append_nil]] at hfr
        replace hfr := Lib.hid hfr
        go_wp2_with fail
        refine hfr.out.mono ?_
        rintro r w8 ⟨a8, c8, rfl, h8⟩
        replace h8 := Lib.hid h8
        go_wp2_with fail
        go_ret2
        exact ⟨a8, c8, rfl, h8.out.older gwr⟩
set_option maxRecDepth 100000 in
set_option maxHeartbeats 1600000 in
theorem putAsk_no {G : List Nat} {E : Nat → Addr} (k0 : Int) (e : Ent) (a : Option Addr) (c : Nat) (w : World) (h : (⟨e, a, c⟩ : EntM).ok Any w) (hE : EAt G E w) (i0 : 0 ∈ G) (hf : askF k0 e = false) :
    Calls Tryd.prog 17 #[.agg #[.int .i64 k0, .int .i64 e.cl, .int .i64 e.nu, .int .i64 e.kd, .int .i64 e.id, .int .i64 e.srv.k, .int .i64 e.srv.q, .int .i64 e.srv.t, .int .i64 e.po, .slice a e.tasks.length c, .int .i64 e.at_]] w fun r w' => r = .returned (.tuple #[.slice none 0 0, (Value.iface 137 (.pointer (some (E 0))))]) ∧ Gr w w' := by
  have hck := fun w' (g : Gr w w') => checkAsk_any k0 ⟨e, a, c⟩ w' (h.gr g) (hE.gr g) i0
  dsimp only at hck
  rw [hf] at hck
  have hck2 : ∀ w', Gr w w' → Calls Tryd.prog 36 #[.agg #[.int .i64 k0, .int .i64 e.cl, .int .i64 e.nu, .int .i64 e.kd, .int .i64 e.id, .int .i64 e.srv.k, .int .i64 e.srv.q, .int .i64 e.srv.t, .int .i64 e.po, .slice a e.tasks.length c, .int .i64 e.at_]] w' fun e w'' => e = .returned (Value.iface 137 (.pointer (some (E 0)))) ∧ Gr w' w'' := hck
  clear hck
  replace hck2 := Lib.hid hck2
  replace hf := Lib.hid hf
  replace h := Lib.hid h
  go_enter Tryd.func17, Tryd.ntmps17
  go_wp2_with fail
  refine (hck2.out _ ((Gr.refl w).alloc _)).mono ?_
  rintro e wa ⟨rfl, ga⟩
  obtain ⟨ca, fa, sa⟩ := ga.cells
  try simp only [size_drewN] at ca fa sa
  try simp only [World.size_alloc] at ca fa sa
  try simp only [World.size_drew] at ca fa sa
  try simp only [World.size_setCell] at ca fa sa
  have za0 : w.heap.size < wa.heap.size := by omega
  have ya0 : w.heap.size ≤ wa.heap.size := by omega
  have ka0 := fun o => ca (w.heap.size) o (by omega)
  have ja0 := fun o => fa (w.heap.size) o (by omega)
  go_wp2_with fail
  go_ret2
  exact ⟨rfl, ((Gr.refl w).alloc _).trans ga⟩
end Go.Proofs.YtlgbnjaoadlolaaDoor
