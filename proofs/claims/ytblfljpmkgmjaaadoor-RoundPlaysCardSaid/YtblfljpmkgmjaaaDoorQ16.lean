/- The reference's Missing; two lists of numbers that are the same. SameInts of lists that are the same; the round's Ballot. -/
import Derived.Test.YtblfljpmkgmjaaaDoorQ14
namespace Go.Proofs.YtblfljpmkgmjaaaDoor
open Go.RowKit
variable {K0 : Nat → Prop}

/-- A list of numbers. -/
def NumL (zs : List Nat) (w : World) (e : Ending) (w' : World) : Prop := ∃ a c, e = .returned (.slice a zs.length c) ∧ RecsAt 1 inC w' a (ints zs) ∧ Gr w w'
set_option maxRecDepth 100000 in
set_option maxHeartbeats 3200000 in
theorem rmissing_any (M : RnM) (w : World) (mb : Nat) (h : RnAt K0 w mb M) :
    Calls Tryd.prog 68 #[.pointer (some ⟨mb, 0, none⟩)] w (NumL (M.v.missTo M.nd) w) := by
  have hn7 := h.n7
  obtain ⟨n, hn⟩ : ∃ n, M.nd = n := ⟨_, rfl⟩
  rw [hn] at hn7 ⊢
  replace h := Lib.hid h
  replace hn := Lib.hid hn
  have hO0 := owns_empty (α := Int) (enc := inC) w 3 1 (.cells #[] 3) rfl w.heap.size (Nat.le_refl _)
  replace hO0 := Lib.hid hO0
  go_enter Tryd.func68, Tryd.ntmps68
  go_wp2_with fail
  go_loopw [4, 3] (fun iv ov wr => ∃ (k : Nat) (a : Option Addr) (c : Nat), k ≤ n ∧ iv = .int .i64 k ∧ ov = .slice a (M.v.missTo k).length c ∧ Hid (wr.ownsRow w.heap.size 3 1 (.slice a (M.v.missTo k).length c) (ints (M.v.missTo k)).length ((ints (M.v.missTo k)).flatMap inC)) ∧ Gr w wr) (fun iv _ _ => n - (intOf iv).toNat)
  case atStart => exact ⟨0, _, _, Nat.zero_le _, rfl, rfl, hO0, (Gr.refl _).alloc _⟩
  case round =>
    obtain ⟨k, a, c, hk, rfl, rfl, hO, hg⟩ := hrel
    have hr := h.out.gr hg
    have c0 : wr.cell? ⟨mb, 0, none⟩ = some (.int .i64 M.nd) := hr.o.cell rfl
    rw [hn.out] at c0
    have c14 : wr.cell? ⟨mb, 14, none⟩ = some (.int .i64 M.st) := hr.o.cell rfl
    have hsz := hg.size
    by_cases hlt : k < n
    · have hml := M.v.missTo_len k
      have hs := M.v.missTo_succ k
      have hlk : M.v.lacks k = (decide (M.st = 1 ∨ M.st = 2) && !decide (k ∈ M.hs)) := by
        unfold RndV.lacks
        rw [show M.v.an[k]? = some (decide (k ∈ M.hs)) from ansOf_get (by rw [hn.out]; exact hlt)]
        cases decide (k ∈ M.hs) <;> simp
      have hhd := rheard_any M (k : Int) wr mb hr
      have hmem : decide ((k : Int) ∈ ints M.hs) = decide (k ∈ M.hs) := by
        refine decide_eq_decide.2 ⟨fun h => ?_, fun h => List.mem_map.2 ⟨k, h, rfl⟩⟩
        obtain ⟨a, h1, h2⟩ := List.mem_map.1 h
        have : a = k := by omega
        rwa [← this]
      rw [hmem] at hhd
      have hkk : (k : Int) < n := by omega
      by_cases hst : M.st = 1 ∨ M.st = 2
      · cases hv : decide (k ∈ M.hs) with
        | true =>
          have hs2 : M.v.missTo (k + 1) = M.v.missTo k := by rw [hs, hlk, hv]; simp
          rw [hv] at hhd
          replace hhd := Lib.hid hhd
          replace hs := Lib.hid hs
          replace hlk := Lib.hid hlk
          replace hs2 := Lib.hid hs2
          replace hv := Lib.hid hv
          replace hmem := Lib.hid hmem
          by_cases h1 : M.st = 1
          · have t1 : (M.st == 1) = true := by simpa using h1
            clear hst h1
            go_wp2_with fail
            refine hhd.out.mono ?_
            rintro e w3 ⟨rfl, rfl⟩
            go_wp2_with fail
            go_roundw
            case rel => exact ⟨k + 1, a, c, by omega, by go_num, by rw [hs2.out], Lib.hid (by rw [hs2.out]; exact hO.out), hg⟩
            case measure => simp [intOf]; omega
          · have t1 : (M.st == 1) = false := beq_eq_false_iff_ne.2 h1
            have t2 : (M.st == 2) = true := by rcases hst with h | h; exact absurd h h1; simpa using h
            clear hst h1
            go_wp2_with fail
            refine hhd.out.mono ?_
            rintro e w3 ⟨rfl, rfl⟩
            go_wp2_with fail
            go_roundw
            case rel => exact ⟨k + 1, a, c, by omega, by go_num, by rw [hs2.out], Lib.hid (by rw [hs2.out]; exact hO.out), hg⟩
            case measure => simp [intOf]; omega
        | false =>
          have hs2 : M.v.missTo (k + 1) = M.v.missTo k ++ [k] := by rw [hs, hlk, hv]; simp [hst]
          have hl2 : (M.v.missTo (k + 1)).length = (M.v.missTo k).length + 1 := by rw [hs2, List.length_append]; rfl
          have hi2 : ints (M.v.missTo k) ++ [(k : Int)] = ints (M.v.missTo (k + 1)) := by rw [hs2]; simp [ints]
          have hil : (ints (M.v.missTo k)).length = (M.v.missTo k).length := List.length_map ..
          have hil2 : (ints (M.v.missTo (k + 1))).length = (M.v.missTo (k + 1)).length := List.length_map ..
          obtain ⟨wz, hwz⟩ : ∃ wz, wz = wr.alloc (.cells #[.int .i64 (k : Int)] 3) := ⟨_, rfl⟩
          have gz : Gr wr wz := by rw [hwz]; exact (Gr.refl wr).alloc _
          have hOz := owns_gr hO.out gz
          have hsz2 : RecsAt 1 inC wz (some ⟨wr.heap.size, 0, none⟩) [(k : Int)] := by rw [hwz]; exact recs_alloc inC_len wr [(k : Int)] 3 _ (by simp)
          have hBz : w.heap.size ≤ wz.heap.size := by have := gz.size; omega
          have hob : ∀ x, (Value.slice a (M.v.missTo k).length c).ownBlock = some x → w.heap.size ≤ x := fun x hx => (owns_lt hO.out x hx).2
          rw [hv] at hhd
          replace hhd := Lib.hid hhd
          replace hs := Lib.hid hs
          replace hlk := Lib.hid hlk
          replace hs2 := Lib.hid hs2
          replace hl2 := Lib.hid hl2
          replace hi2 := Lib.hid hi2
          replace hil := Lib.hid hil
          replace hil2 := Lib.hid hil2
          replace hwz := Lib.hid hwz
          replace hOz := Lib.hid hOz
          replace hsz2 := Lib.hid hsz2
          replace hob := Lib.hid hob
          replace hv := Lib.hid hv
          replace hmem := Lib.hid hmem
          by_cases h1 : M.st = 1
          · have t1 : (M.st == 1) = true := by simpa using h1
            clear hst h1
            go_wp2_with fail
            refine hhd.out.mono ?_
            rintro e w3 ⟨rfl, rfl⟩
            go_wp2_with (at_builtin; go_loud (rw [← hwz.out]; refine wpList_appZ (B := w.heap.size) rfl _ _ rfl a c (M.v.missTo k).length (ints (M.v.missTo k)) rfl hil.out hOz.out (some ⟨wr.heap.size, 0, none⟩) 1 [(k : Int)] rfl hsz2.out (fun h => by cases h) (by simp; omega) hBz ?_; intro a7 c7 w7 hown7 hr7 hB7 hgr7; rw [hi2.out, hil2.out] at hown7; rw [hi2.out, hil2.out]; have g7 : Gr w w7 := (hg.trans gz).grown hgr7 (fun x hx => hob.out x hx); replace hown7 := Lib.hid hown7; clear hr7 hB7 hgr7))
            go_roundw
            case rel => exact ⟨k + 1, a7, c7, by omega, by go_num, rfl, Lib.hid (by rw [hil2.out]; exact hown7.out), g7⟩
            case measure => simp [intOf]; omega
          · have t1 : (M.st == 1) = false := beq_eq_false_iff_ne.2 h1
            have t2 : (M.st == 2) = true := by rcases hst with h | h; exact absurd h h1; simpa using h
            clear hst h1
            go_wp2_with fail
            refine hhd.out.mono ?_
            rintro e w3 ⟨rfl, rfl⟩
            go_wp2_with (at_builtin; go_loud (rw [← hwz.out]; refine wpList_appZ (B := w.heap.size) rfl _ _ rfl a c (M.v.missTo k).length (ints (M.v.missTo k)) rfl hil.out hOz.out (some ⟨wr.heap.size, 0, none⟩) 1 [(k : Int)] rfl hsz2.out (fun h => by cases h) (by simp; omega) hBz ?_; intro a7 c7 w7 hown7 hr7 hB7 hgr7; rw [hi2.out, hil2.out] at hown7; rw [hi2.out, hil2.out]; have g7 : Gr w w7 := (hg.trans gz).grown hgr7 (fun x hx => hob.out x hx); replace hown7 := Lib.hid hown7; clear hr7 hB7 hgr7))
            go_roundw
            case rel => exact ⟨k + 1, a7, c7, by omega, by go_num, rfl, Lib.hid (by rw [hil2.out]; exact hown7.out), g7⟩
            case measure => simp [intOf]; omega
      · have t1 : (M.st == 1) = false := beq_eq_false_iff_ne.2 (fun e => hst (.inl e))
        have t2 : (M.st == 2) = false := beq_eq_false_iff_ne.2 (fun e => hst (.inr e))
        have hs2 : M.v.missTo (k + 1) = M.v.missTo k := by rw [hs, hlk, decide_eq_false hst]; simp
        replace hs := Lib.hid hs
        replace hlk := Lib.hid hlk
        replace hs2 := Lib.hid hs2
        clear hst hmem hhd
        go_wp2_with fail
        go_roundw
        case rel => exact ⟨k + 1, a, c, by omega, by go_num, by rw [hs2.out], Lib.hid (by rw [hs2.out]; exact hO.out), hg⟩
        case measure => simp [intOf]; omega
    · have hkn : k = n := by omega
      have hri : RecsAt 1 inC wr a (ints (M.v.missTo k)) := by
        obtain ⟨a', c', hv, hr, hnn, _⟩ := recs_of_owns inC_len hO.out
        injection hv with h1 _ h3
        rw [h1]
        exact hr
      have hkk : ¬ (k : Int) < n := by omega
      have hkb : decide ((k : Int) < n) = false := decide_eq_false hkk
      replace hri := Lib.hid hri
      replace hkn := Lib.hid hkn
      go_wp2_with fail
      go_ret
      refine ⟨a, c, by rw [← hkn.out]; rfl, by rw [← hkn.out]; exact hri.out, hg⟩


theorem one_cell {w : World} {a : Option Addr} {l : List Int} (h : RecsAt 1 inC w a l) {k : Nat} {x : Int} (hx : l[k]? = some x) : ∃ b off, a = some ⟨b, off, none⟩ ∧ w.cell? ⟨b, off + k, none⟩ = some (.int .i64 x) := by
  obtain ⟨b, off, e, _, hc⟩ := h k x hx
  have := hc 0 _ rfl
  rw [Nat.mul_one, Nat.add_zero] at this
  exact ⟨b, off, e, this⟩
set_option maxRecDepth 100000 in
set_option maxHeartbeats 1600000 in
theorem sameInts_eq (a1 a2 : Option Addr) (c1 c2 n : Nat) (l : List Int) (w : World) (h1 : RecsAt 1 inC w a1 l) (h2 : RecsAt 1 inC w a2 l) (hn : l.length = n) (hm : n ≤ 1000000) :
    Calls Tryd.prog 67 #[.slice a1 n c1, .slice a2 n c2] w fun e w' => e = .returned (.bool true) ∧ Gr w w' := by
  have t0 : ((n : Int) != (n : Int)) = false := by simp
  replace hn := Lib.hid hn
  replace h1 := Lib.hid h1
  replace h2 := Lib.hid h2
  go_enter Tryd.func67, Tryd.ntmps67
  go_wp2_with fail
  go_loopw [13] (fun iv wr => ∃ k : Nat, k ≤ n ∧ iv = .int .i64 k ∧ Gr w wr) (fun iv _ => n - (intOf iv).toNat)
  case atStart => exact ⟨0, Nat.zero_le _, rfl, Gr.refl _⟩
  case round =>
    obtain ⟨k, hk, rfl, hg⟩ := hrel
    by_cases hlt : k < n
    · obtain ⟨x, hx⟩ := get_some l k (by rw [hn.out]; exact hlt)
      obtain ⟨b, off, rfl, d0⟩ := one_cell h1.out hx
      obtain ⟨b', off', rfl, e0⟩ := one_cell h2.out hx
      have hbl : b < w.heap.size := RecsAt.lt h1.out rfl (fun e => by rw [e] at hx; simp at hx)
      have hbl' : b' < w.heap.size := RecsAt.lt h2.out rfl (fun e => by rw [e] at hx; simp at hx)
      have q0 := GrW.cell ((hg.cells.1 b (off + k) hbl).trans d0)
      have q1 := GrW.cell ((hg.cells.1 b' (off' + k) hbl').trans e0)
      have t1 : (x != x) = false := by simp
      have tk : (k : Int) < n := by omega
      replace hx := Lib.hid hx
      go_upto_region 6 with fail
      refine wp_region_grows (by kernel_rfl) (by kernel_rfl) ?_
      repeat (any_goals (first | go_big_quiet_step (first | fail) | quiet_step (first | fail)))
      refine wpQuiet_nil ?_
      intro wp hwq
      have gp := GrW.of hwq
      clear hwq
      obtain ⟨cp, fp, sp⟩ := gp.cells
      try simp only [size_drewN] at cp fp sp
      try simp only [World.size_alloc] at cp fp sp
      try simp only [World.size_drew] at cp fp sp
      try simp only [World.size_setCell] at cp fp sp
      clear q0 q1 cp fp
      go_wp2_with fail
      go_roundw
      case rel => exact ⟨k + 1, by omega, by go_num, hg.trans gp⟩
      case measure => simp [intOf]; omega
    · have tk : ¬ (k : Int) < n := by omega
      go_wp2_with fail
      go_ret
      exact ⟨rfl, hg⟩
set_option maxRecDepth 100000 in
set_option maxHeartbeats 1600000 in
theorem ballot_any (R : Rnd) (w : World) (rb ab : Nat) (h : RndAt K0 w rb ab R) :
    Calls Tryd.prog 64 #[.pointer (some ⟨rb, 0, none⟩)] w fun e w' => e = .returned (.agg #[.int .i64 R.bal.r, .int .i64 R.bal.n]) ∧ Gr w w' := by
  have h1 := h.gr ((Gr.refl w).alloc (.cells #[.int .i64 0, .int .i64 0] 39))
  have c12 := h1.o.cell (i := 12) (v := .int .i64 R.bal.r) rfl
  have c13 := h1.o.cell (i := 13) (v := .int .i64 R.bal.n) rfl
  have hz := h.o.lt
  have hne : rb ≠ w.heap.size := by omega
  replace h1 := Lib.hid h1
  clear h
  go_enter Tryd.func64, Tryd.ntmps64
  go_wp2_with fail
  refine bodyPost_ret (v := .agg #[.int .i64 R.bal.r, .int .i64 R.bal.n]) (by simp [results, Tryd.results64, go_sem]) rfl ⟨rfl, ?_⟩
  repeat (first | exact Gr.refl _ | apply Gr.alloc | apply Gr.drew | apply Gr.drewN | (refine Gr.setCell ?_ (by simp) _) | (refine Gr.trans ?_ (by assumption)))
end Go.Proofs.YtblfljpmkgmjaaaDoor
