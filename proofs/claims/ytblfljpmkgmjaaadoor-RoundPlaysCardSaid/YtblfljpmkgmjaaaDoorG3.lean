/- order: fit, Check of a delete order, Place, copied; almonerref09: Copy, Same, SameLedger where they are the same. -/
import Derived.Test.YtblfljpmkgmjaaaDoorG2
namespace Go.Proofs.YtblfljpmkgmjaaaDoor
open Go.RowKit

abbrev intC (d : Int) : List Value := [.int .i64 d]
theorem intC_len (d : Int) : (intC d).length = 1 := rfl
theorem intC_one (d : Int) : ∀ u ∈ intC d, u.oneCell' = true := by intro u hu; simp at hu; subst hu; rfl
theorem int_get {w : World} {a : Option Addr} {l : List Int} (h : RecsAt 1 intC w a l) {i : Nat} {d : Int} (hd : l[i]? = some d) : ∃ b off, a = some ⟨b, off, none⟩ ∧ b < w.heap.size ∧ w.cell? ⟨b, off + i, none⟩ = some (.int .i64 d) := by
  obtain ⟨b, off, ha, hb, hc⟩ := h i d hd
  exact ⟨b, off, ha, hb, by simpa using hc 0 _ rfl⟩
def okN (n : Int) : Bool := decide (0 ≤ n ∧ n ≤ 1099511627776)
theorem okN_iff {n : Int} : okN n = true ↔ 0 ≤ n ∧ n ≤ 1099511627776 := decide_eq_true_iff

set_option maxHeartbeats 800000 in
theorem fit_any (a : Option Addr) (l : List Int) (c : Nat) (w : World) (h : RecsAt 1 intC w a l) (hm : l.length ≤ maxLen) :
    Calls Tryd.prog 114 #[.slice a l.length c] w fun e w' => e = .returned (.bool (l.all okN)) ∧ w = w' := by
  unfold maxLen at hm
  go_enter Tryd.func114, Tryd.ntmps114
  go_wp2_with fail
  go_loopw [7] (fun iv wr => ∃ k : Nat, k ≤ l.length ∧ iv = .int .i64 k ∧ (l.take k).all okN = true ∧ wr = w) (fun iv _ => l.length - (intOf iv).toNat)
  case atStart => exact ⟨0, Nat.zero_le _, rfl, rfl, rfl⟩
  case round =>
    obtain ⟨k, hk, rfl, hall, rfl⟩ := hrel
    replace hall := Lib.hid hall
    by_cases hlt : k < l.length
    · obtain ⟨d, hd⟩ := get_some l k hlt
      obtain ⟨b, off, rfl, hb, c0⟩ := int_get h hd
      by_cases hok : 0 ≤ d ∧ d ≤ 1099511627776
      · have hts := take_snoc hd
        have hall2 : (l.take (k + 1)).all okN = true := by rw [hts, List.all_append, hall.out]; simp [okN_iff.2 hok]
        obtain ⟨o1, o2⟩ := hok
        clear hts
        replace hall2 := Lib.hid hall2
        go_wp2_with fail
        go_roundw
        case rel => exact ⟨k + 1, by omega, by go_num, hall2.out, trivial⟩
        case measure => simp [intOf]; omega
      · have hno : l.all okN = false := by
          cases hh : l.all okN
          · rfl
          · have := List.all_eq_true.1 hh d (get_mem hd)
            exact absurd (okN_iff.1 this) hok
        replace hno := Lib.hid hno
        by_cases h0 : d < 0
        · go_wp2_with fail
          go_ret
          exact ⟨by rw [hno.out]; rfl, rfl⟩
        · have h1 : 1099511627776 < d := by omega
          go_wp2_with fail
          go_ret
          exact ⟨by rw [hno.out]; rfl, rfl⟩
    · have : l.take k = l := List.take_of_length_le (by omega)
      have hall2 := hall.out
      rw [this] at hall2
      replace hall2 := Lib.hid hall2
      go_wp2_with fail
      go_ret
      exact ⟨by rw [hall2.out]; rfl, rfl⟩

/-- The order of a delete. -/
def isDel (e : Ent) : Prop := e.kd = 3 ∧ e.srv = ⟨0, 0, 0⟩ ∧ e.po = 0 ∧ e.tasks = [] ∧ 0 ≤ e.at_ ∧ e.at_ ≤ 1099511627776 ∧ 0 ≤ e.id ∧ e.id ≤ 1099511627776

set_option maxHeartbeats 800000 in
theorem checkOrder_del (i t : Int) (a : Option Addr) (c : Nat) (w : World) (hi0 : 0 ≤ i) (hi1 : i ≤ 1099511627776) (ht0 : 0 ≤ t) (ht1 : t ≤ 1099511627776) :
    Calls Tryd.prog 90 #[.agg #[.int .i64 3, .int .i64 i, .int .i64 0, .int .i64 0, .int .i64 0, .int .i64 0, .slice a 0 c, .int .i64 t]] w fun e w' => e = .returned (.bool true) ∧ Gr w w' := by
  have hf := fun (b : Nat) (w : World) h => fit_any (some ⟨b, 0, none⟩) [t, i] 2 w h (by unfold maxLen; simp)
  have hall : [t, i].all okN = true := by simp [okN_iff]; omega
  rw [hall] at hf
  replace hf := Lib.hid hf
  clear hall
  go_enter Tryd.func90, Tryd.ntmps90
  go_wp2_with fail
  refine (hf.out (w.heap.size + 1) _ ?_).mono ?_
  · have := recs_alloc intC_len (w.alloc (.cells #[.int .i64 3, .int .i64 i, .int .i64 0, .int .i64 0, .int .i64 0, .int .i64 0, .slice a 0 c, .int .i64 t] 34)) [t, i] 3 #[.int .i64 t, .int .i64 i] rfl
    simpa using this
  rintro e w1 ⟨rfl, rfl⟩
  go_wp2_with fail
  go_ret
  exact ⟨rfl, ((Gr.refl _).alloc _).alloc _⟩

set_option maxHeartbeats 800000 in
theorem check_del (e : Ent) (a : Option Addr) (c : Nat) (w : World) (h : isDel e) (hc0 : 0 ≤ e.cl) (hc1 : e.cl < 16) (hn0 : 1 ≤ e.nu) (hn1 : e.nu ≤ 1099511627776) :
    Calls Tryd.prog 48 #[.agg #[.int .i64 e.cl, .int .i64 e.nu, .int .i64 e.kd, .int .i64 e.id, .int .i64 e.srv.k, .int .i64 e.srv.q, .int .i64 e.srv.t, .int .i64 e.po, .slice a e.tasks.length c, .int .i64 e.at_]] w fun e w' => e = .returned .nilIface ∧ Gr w w' := by
  obtain ⟨h1, h2, h3, h4, h5, h6, h7, h8⟩ := h
  obtain ⟨cl, nu, kd, id, srv, po, tasks, at_⟩ := e
  dsimp only at *
  subst h1 h2 h3 h4
  go_enter Tryd.func48, Tryd.ntmps48
  go_wp2_with fail
  refine (checkOrder_del id at_ a c _ h7 h8 h5 h6).mono ?_
  rintro e wa ⟨rfl, ga⟩
  obtain ⟨ca, fa, sa⟩ := ga.cells
  try simp only [size_drewN] at ca fa sa
  try simp only [World.size_alloc] at ca fa sa
  try simp only [World.size_drew] at ca fa sa
  try simp only [World.size_setCell] at ca fa sa
  have za0 : w.heap.size < wa.heap.size := by omega
  have ya0 : w.heap.size ≤ wa.heap.size := by omega
  have ka0 := fun o => ca (w.heap.size) o (by omega)
  have ja0 := fun o => fa (w.heap.size) o (by omega)
  go_wp2_with fail
  go_ret
  exact ⟨rfl, ((Gr.refl _).alloc _).trans ga⟩
end Go.Proofs.YtblfljpmkgmjaaaDoor
