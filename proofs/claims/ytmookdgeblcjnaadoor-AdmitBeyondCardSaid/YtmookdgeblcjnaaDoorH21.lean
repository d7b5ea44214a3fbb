/- admit.Guest under PolicyDeadline. -/
import Derived.Test.YtmookdgeblcjnaaDoorH20
import Derived.Test.YtmookdgeblcjnaaDoorH10
namespace Go.Proofs.YtmookdgeblcjnaaDoor
open Go.RowKit

set_option maxHeartbeats 800000 in
theorem guest1_fn (lb : Nat) (a : Option Addr) (l : List Tsk) (c : Nat) (n : Int) (w : World) (hl : TsksAt w a l) (h : chkT l n = none) (hc : w.cell? ⟨lb, 0, none⟩ = some (.slice a l.length c)) :
    Calls Tryd.prog 37 #[.int .i64 n, .pointer (some ⟨lb, 0, none⟩)] w fun e w' => e = .returned (.tuple #[.int .i64 (tasksI l n), .nilIface]) ∧ Gr w w' := by
  have hd := dtasks_yes a l c n w hl h
  have hlb := cell_lt0 hc
  replace h := Lib.hid h
  replace hd := Lib.hid hd
  go_enter Tryd.func37, Tryd.ntmps37
  go_wp2_with fail
  refine (hd.out).mono ?_
  rintro e wa ⟨rfl, ga⟩
  obtain ⟨ca, fa, sa⟩ := ga.cells
  try simp only [size_drewN] at ca fa sa
  try simp only [World.size_alloc] at ca fa sa
  try simp only [World.size_drew] at ca fa sa
  try simp only [World.size_setCell] at ca fa sa
  go_wp2_with fail
  go_ret2
  exact ⟨rfl, ga⟩

theorem tasksI_bd {l : List Tsk} (h : tasksOk l = true) {n : Int} (hn : LenOk n) : 0 ≤ tasksI l n ∧ tasksI l n ≤ 8 * (1099511627776 + 256) + 256 := by
  have h1 := tsumI_bd h hn l.length
  have h2 := blkI_bd h (n := n) l.length
  rw [List.take_length] at h1 h2
  unfold tasksI
  split <;> omega

set_option maxRecDepth 100000 in
set_option maxHeartbeats 3200000 in
theorem below_tasks (s : Srv) (aL : Option Addr) (ls : List Int) (cL : Nat) (lb : Nat) (a : Option Addr) (l : List Tsk) (c : Nat) (w : World) (h : parOk s = true) (hL : IntsAt w aL ls) (hm : ls.length ≤ 40000) (hls : ∀ x ∈ ls, LenOk x) (hl : TsksAt w a l) (hk : ∀ x, LenOk x → chkT l x = none) (hok : tasksOk l = true) (hc : w.cell? ⟨lb, 0, none⟩ = some (.slice a l.length c)) :
    Calls Tryd.prog 26 #[.agg #[.int .i64 s.k, .int .i64 s.q, .int .i64 s.t], .slice aL ls.length cL, .func (.func 37) #[] #[.pointer (some ⟨lb, 0, none⟩)]] w fun e w' => e = .returned (.bool (belowB s ls (tasksI l))) ∧ Gr w w' := by
  have hlb := cell_lt0 hc
  unfold belowB
  replace hok := Lib.hid hok
  go_enter Tryd.func26, Tryd.ntmps26
  go_wp2_with fail
  go_loopw [14] (fun iv wr => ∃ k : Nat, k ≤ ls.length ∧ iv = .int .i64 k ∧ (ls.take k).all (fun l' => decide (tasksI l l' ≤ givI (rowI s) l')) = true ∧ Gr (w.alloc (.cells #[.int .i64 s.k, .int .i64 s.q, .int .i64 s.t] 23)) wr) (fun iv _ => ls.length - (intOf iv).toNat)
  case atStart => exact ⟨0, Nat.zero_le _, rfl, rfl, Gr.refl _⟩
  case round =>
    obtain ⟨k, hkl, rfl, hall, hg⟩ := hrel
    have gall : Gr w wr := ((Gr.refl w).alloc _).trans hg
    obtain ⟨cg, fg, sg⟩ := hg.cells
    simp only [World.size_alloc] at cg fg sg
    have k1 := fun o => cg w.heap.size o (by omega)
    clear cg fg
    replace hall := Lib.hid hall
    by_cases hlt : k < ls.length
    · obtain ⟨x, hx⟩ := get_some ls k hlt
      obtain ⟨b, off, rfl, hb, c0⟩ := (hL.gr gall).get hx
      have hxo := hls x (get_mem hx)
      have hts := take_snoc hx
      have hbd := tasksI_bd hok.out hxo
      have hgv := giv_nonneg (rowI_ok h) x
      have hgl := giv_le (rowI_ok h) hxo.1
      have hxo2 := hxo.2
      have hk1 := fun w' (g : Gr w w') => guest1_fn lb a l c x w' (hl.gr g) (hk x hxo) (by rw [g.cells.1 lb 0 hlb]; exact hc)
      have hbo := fun w' => bound_yes s x w' h hxo
      obtain ⟨v, hv⟩ : ∃ v, v = decide (tasksI l x ≤ givI (rowI s) x) := ⟨_, rfl⟩
      have hnext : (ls.take (k + 1)).all (fun l' => decide (tasksI l l' ≤ givI (rowI s) l')) = v := by
        rw [hts, List.all_append, hall.out, hv]; simp
      have hno : v = false → ls.all (fun l' => decide (tasksI l l' ≤ givI (rowI s) l')) = false := fun hvf => by
        cases hh : ls.all (fun l' => decide (tasksI l l' ≤ givI (rowI s) l')) with
        | false => rfl
        | true =>
          have := List.all_eq_true.1 hh x (get_mem hx)
          rw [← hv, hvf] at this
          cases this
      obtain ⟨hbd1, hbd2⟩ := hbd
      replace hnext := Lib.hid hnext
      replace hno := Lib.hid hno
      replace hk1 := Lib.hid hk1
      replace hbo := Lib.hid hbo
      clear hts
      replace hx := Lib.hid hx
      replace hxo := Lib.hid hxo
      cases v with
      | true =>
        have hle : tasksI l x ≤ givI (rowI s) x := of_decide_eq_true hv.symm
        clear hv
        go_wp2_with fail
        refine (hk1.out wr gall).mono ?_
        rintro e w2 ⟨rfl, g2⟩
        obtain ⟨c2, f2, s2⟩ := g2.cells
        have k2 := fun o => c2 w.heap.size o (by omega)
        clear c2 f2
        go_wp2_with fail
        refine (hbo.out _).mono ?_
        rintro e w3 ⟨rfl, g3⟩
        go_wp2_with fail
        go_roundw
        case rel => exact ⟨k + 1, by omega, by go_num, hnext.out, (hg.trans g2).trans g3⟩
        case measure => simp [intOf]; omega
      | false =>
        have hle : givI (rowI s) x < tasksI l x := by have := of_decide_eq_false hv.symm; omega
        clear hv
        go_wp2_with fail
        refine (hk1.out wr gall).mono ?_
        rintro e w2 ⟨rfl, g2⟩
        obtain ⟨c2, f2, s2⟩ := g2.cells
        have k2 := fun o => c2 w.heap.size o (by omega)
        clear c2 f2
        go_wp2_with fail
        refine (hbo.out _).mono ?_
        rintro e w3 ⟨rfl, g3⟩
        go_wp2_with fail
        go_ret
        exact ⟨retb (hno.out trivial).symm, (gall.trans g2).trans g3⟩
    · have hall2 : ls.take k = ls := List.take_of_length_le (by omega)
      rw [hall2] at hall
      go_wp2_with fail
      go_ret
      exact ⟨retb hall.out.symm, gall⟩

/-- A guest under PolicyDeadline: at every deadline it asks for no more than the server gives. -/
def fitsD (s : Srv) (l : List Tsk) : Bool := (List.range 4097).all fun n => !deadB l (n : Int) || decide (tasksI l n ≤ givI (rowI s) n)
theorem dead_pos {l : List Tsk} (hok : tasksOk l = true) {x : Int} (h : deadB l x = true) : 1 ≤ x := by
  unfold deadB at h
  rw [List.any_eq_true] at h
  obtain ⟨t, ht, hd⟩ := h
  obtain ⟨h1, h2, _⟩ := (tasksOk_parts hok).1 t ht
  have := (of_decide_eq_true hd).1
  omega
theorem fitsD_iff {s : Srv} {l : List Tsk} : fitsD s l = true ↔ ∀ n : Nat, n ≤ 4096 → deadB l n = true → tasksI l n ≤ givI (rowI s) n := by
  unfold fitsD
  rw [List.all_eq_true]
  constructor
  · intro h n hn hd
    have := h n (List.mem_range.2 (by omega))
    rw [hd] at this
    exact of_decide_eq_true this
  · intro h n hn
    cases hd : deadB l (n : Int) with
    | false => rfl
    | true => exact decide_eq_true (h n (by have := List.mem_range.1 hn; omega) hd)
theorem below_deads {s : Srv} {l : List Tsk} {ls : List Int} (hok : tasksOk l = true) (h : Deads l ls) : belowB s ls (tasksI l) = fitsD s l := by
  rw [Bool.eq_iff_iff, fitsD_iff]
  unfold belowB
  rw [List.all_eq_true]
  constructor
  · intro hb n hn hd
    exact of_decide_eq_true (hb n ((h n).2 ⟨by omega, hd⟩))
  · intro hb x hx
    obtain ⟨h1, h2⟩ := (h x).1 hx
    have h3 := dead_pos hok h2
    have e : ((x.toNat : Nat) : Int) = x := by omega
    have := hb x.toNat (by omega) (by rw [e]; exact h2)
    rw [e] at this
    exact decide_eq_true this
theorem chkT_ok {l : List Tsk} (hok : tasksOk l = true) {x : Int} (hx : LenOk x) : chkT l x = none := by
  obtain ⟨h1, h2⟩ := hx
  unfold chkT
  rw [if_neg (by rw [hok]; decide), if_neg (by omega)]
end Go.Proofs.YtmookdgeblcjnaaDoor
